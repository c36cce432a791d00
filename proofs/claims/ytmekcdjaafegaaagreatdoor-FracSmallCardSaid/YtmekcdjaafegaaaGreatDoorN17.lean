/-
  The walks of the frac package: the text of a fraction.
-/
import Derived.Test.YtmekcdjaafegaaaGreatDoorN16
namespace Go.Proofs.YtmekcdjaafegaaaGreatDoor
open Go Sat Go.RowKit Go.PlainAid
set_option linter.unusedSimpArgs false
set_option linter.unusedVariables false
def tx1 (f : Fr) : ByteArray := if f.neg = true then ⟨#[45]⟩ ++ txN f.num else txN f.num
def textF (f : Fr) : ByteArray := if f.den = 1 then tx1 f else tx1 f ++ (⟨#[47]⟩ ++ txN f.den)
def textE (f : Fr) : ByteArray × Int := if rightF f = true then (textF f, 0) else (⟨#[]⟩, 2)
theorem txN_size {n : Nat} (h : n < big) : (txN n).size ≤ 78 := by
  show (txL n).toArray.size ≤ 78
  rw [List.size_toArray]
  unfold txL
  split
  · show 1 ≤ 78; omega
  · rw [List.length_reverse, List.length_map]
    exact (dg_len (by decide) 78 n).2 (Nat.lt_trans h (by decide))
set_option maxRecDepth 100000 in
set_option maxHeartbeats 8000000 in
theorem textE_any (f : Fr) (w : World) (hf : Big f) :
    Calls Tryz.prog 20 #[frV f] w fun e w' => e = .returned (.tuple #[.string (textE f).1, .int .i64 (textE f).2]) ∧ Below w.heap.size w w' := by
  refine calls_sat (cx := Tryz.cx 30 [] [] [] w) (Tryz.ok ..) Tryz.func20 rfl [.a (frC f)] rfl (by show 1 ≤ 30; omega) [] (holds_nil (Nat.le_refl _)) ?_
  have h17 := frC_len f
  cases hrf : rightF f
  · have e1 : textE f = (⟨#[]⟩, 2) := by unfold textE; rw [hrf]; rfl
    rw [e1]
    repeat' ((conv => whnf); first | refine walk (Tryz.ok ..) ?_ | fail)
    intro g1 hg1
    repeat' ((conv => whnf); first | refine walk (Tryz.ok ..) ?_ | refine side2 ?_ | fail)
    refine called_at (.v (.bool false)) rfl (fun w' hh => by rw [← hrf]; exact right_any f w' hf) ?_
    repeat' ((conv => whnf); first | refine walk (Tryz.ok ..) ?_ | (refine Cnd.mk (fun h => ?_) (fun h => ?_) <;> (first | exact cndT h (by (try dsimp only); omega) | exact cndF h (by (try dsimp only); omega) | (exfalso; simp at h; omega) | simp at h | skip)) | fail)
    exact done_pure rfl rfl rfl
  have e1 : textE f = (textF f, 0) := by unfold textE; rw [if_pos hrf]
  rw [e1]
  have b1 := dg_big hf.num
  have b2 := dg_big hf.den
  have s1 := txN_size hf.num
  have s2 := txN_size hf.den
  repeat' ((conv => whnf); first | refine walk (Tryz.ok ..) ?_ | fail)
  intro g1 hg1
  repeat' ((conv => whnf); first | refine walk (Tryz.ok ..) ?_ | refine side2 ?_ | fail)
  refine called_at (.v (.bool true)) rfl (fun w' hh => by rw [← hrf]; exact right_any f w' hf) ?_
  repeat' ((conv => whnf); first | refine walk (Tryz.ok ..) ?_ | (refine Cnd.mk (fun h => ?_) (fun h => ?_) <;> (first | exact cndT h (by (try dsimp only); omega) | exact cndF h (by (try dsimp only); omega) | (exfalso; simp at h; omega) | simp at h | skip)) | refine side2 ?_ | fail)
  refine called_newblk 12 (ty := 28) (cs := frC f) (fun g' => .t [.s 12 g' 0 1 (dg bb f.num).length 8, .s 12 g' 0 9 (dg bb f.den).length 8]) (fun w' hh => parts_any f w' hf) ?_
  intro ga hga
  repeat' ((conv => whnf); first | refine walk (Tryz.ok ..) ?_ | fail)
  refine called_at (.v (.string (txN f.num))) rfl (fun w' hh => text_any f.num (some (ga, 1)) 8 w' (ro_num hh hf (id := 12) rfl) hf.num) ?_
  obtain ⟨X, hX⟩ : ∃ X, X = txN f.num := ⟨_, rfl⟩
  obtain ⟨Y, hY⟩ : ∃ Y, Y = txN f.den := ⟨_, rfl⟩
  have ht : textF f = if f.den = 1 then (if f.neg = true then ⟨#[45]⟩ ++ X else X) else (if f.neg = true then ⟨#[45]⟩ ++ X else X) ++ (⟨#[47]⟩ ++ Y) := by rw [hX, hY]; rfl
  have z1 : (⟨#[45]⟩ : ByteArray).size = 1 := rfl
  have z2 : (⟨#[47]⟩ : ByteArray).size = 1 := rfl
  rw [← hX] at s1 ⊢
  rw [← hY] at s2
  by_cases h1 : f.den = 1
  · rw [if_pos h1] at ht
    have hd1 : decide (f.den = 1) = true := decide_eq_true h1
    repeat' ((conv => whnf); first | refine walk (Tryz.ok ..) ?_ | (refine Cnd.mk (fun h => ?_) (fun h => ?_) <;> (first | exact cndT h (by (try dsimp only); omega) | exact cndF h (by (try dsimp only); omega) | (exfalso; simp at h; omega) | simp at h | skip)) | refine side2 ?_ | refine xi _ (And.intro rfl rfl) ?_ | fail)
    · rw [if_pos h] at ht
      refine called_at (.v (.bool true)) rfl (fun w' hh => by rw [← hd1]; exact one_any f.den (some (ga, 9)) 8 w' (ro_den hh hf (id := 12) rfl) (by omega)) ?_
      repeat' ((conv => whnf); first | refine walk (Tryz.ok ..) ?_ | (refine Cnd.mk (fun h => ?_) (fun h => ?_) <;> (first | exact cndT h (by (try dsimp only); omega) | exact cndF h (by (try dsimp only); omega) | (exfalso; simp at h; omega) | simp at h | skip)) | fail)
      rw [ht]
      exact done_pure rfl rfl rfl
    · rw [if_neg (by rw [h]; simp)] at ht
      refine called_at (.v (.bool true)) rfl (fun w' hh => by rw [← hd1]; exact one_any f.den (some (ga, 9)) 8 w' (ro_den hh hf (id := 12) rfl) (by omega)) ?_
      repeat' ((conv => whnf); first | refine walk (Tryz.ok ..) ?_ | (refine Cnd.mk (fun h => ?_) (fun h => ?_) <;> (first | exact cndT h (by (try dsimp only); omega) | exact cndF h (by (try dsimp only); omega) | (exfalso; simp at h; omega) | simp at h | skip)) | fail)
      rw [ht]
      exact done_pure rfl rfl rfl
  · rw [if_neg h1] at ht
    have hd1 : decide (f.den = 1) = false := decide_eq_false h1
    repeat' ((conv => whnf); first | refine walk (Tryz.ok ..) ?_ | (refine Cnd.mk (fun h => ?_) (fun h => ?_) <;> (first | exact cndT h (by (try dsimp only); omega) | exact cndF h (by (try dsimp only); omega) | (exfalso; simp at h; omega) | simp at h | skip)) | refine side2 ?_ | refine xi _ (And.intro rfl rfl) ?_ | fail)
    · rw [if_pos h] at ht
      refine called_at (.v (.bool false)) rfl (fun w' hh => by rw [← hd1]; exact one_any f.den (some (ga, 9)) 8 w' (ro_den hh hf (id := 12) rfl) (by omega)) ?_
      repeat' ((conv => whnf); first | refine walk (Tryz.ok ..) ?_ | (refine Cnd.mk (fun h => ?_) (fun h => ?_) <;> (first | exact cndT h (by (try dsimp only); omega) | exact cndF h (by (try dsimp only); omega) | (exfalso; simp at h; omega) | simp at h | skip)) | fail)
      refine called_at (.v (.string Y)) rfl (fun w' hh => by rw [hY]; exact text_any f.den (some (ga, 9)) 8 w' (ro_den hh hf (id := 12) rfl) hf.den) ?_
      repeat' ((conv => whnf); first | refine walk (Tryz.ok ..) ?_ | refine side2 ?_ | fail)
      rw [ht]
      exact done_pure rfl rfl rfl
    · rw [if_neg (by rw [h]; simp)] at ht
      refine called_at (.v (.bool false)) rfl (fun w' hh => by rw [← hd1]; exact one_any f.den (some (ga, 9)) 8 w' (ro_den hh hf (id := 12) rfl) (by omega)) ?_
      repeat' ((conv => whnf); first | refine walk (Tryz.ok ..) ?_ | (refine Cnd.mk (fun h => ?_) (fun h => ?_) <;> (first | exact cndT h (by (try dsimp only); omega) | exact cndF h (by (try dsimp only); omega) | (exfalso; simp at h; omega) | simp at h | skip)) | fail)
      refine called_at (.v (.string Y)) rfl (fun w' hh => by rw [hY]; exact text_any f.den (some (ga, 9)) 8 w' (ro_den hh hf (id := 12) rfl) hf.den) ?_
      repeat' ((conv => whnf); first | refine walk (Tryz.ok ..) ?_ | refine side2 ?_ | fail)
      rw [ht]
      exact done_pure rfl rfl rfl
end Go.Proofs.YtmekcdjaafegaaaGreatDoor
