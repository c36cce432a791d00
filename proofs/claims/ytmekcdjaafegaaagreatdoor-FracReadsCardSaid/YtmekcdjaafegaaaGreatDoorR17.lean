/-
  The walks of the reference: the text of a fraction.
-/
import Derived.Test.YtmekcdjaafegaaaGreatDoorR15
namespace Go.Proofs.YtmekcdjaafegaaaGreatDoor
open Go Sat Go.RowKit Go.PlainAid
set_option linter.unusedSimpArgs false
set_option linter.unusedVariables false
set_option maxRecDepth 100000 in
set_option maxHeartbeats 8000000 in
theorem rtext_any (f : Fr) (w : World) (hf : Big f) :
    Calls Tryz.prog 33 #[frV f] w fun e w' => e = .returned (.tuple #[.string (textE f).1, .int .i64 (textE f).2]) ∧ Below w.heap.size w w' := by
  refine calls_sat (cx := Tryz.cx 29 [] [] [] w) (Tryz.ok ..) Tryz.func33 rfl [.a (frC f)] rfl (by show 1 ≤ 29; omega) [] (holds_nil (Nat.le_refl _)) ?_
  have h17 := frC_len f
  cases hrf : rightF f
  · have e1 : textE f = (⟨#[]⟩, 2) := by unfold textE; rw [hrf]; rfl
    rw [e1]
    repeat' ((conv => whnf); first | refine walk (Tryz.ok ..) ?_ | fail)
    (conv => whnf)
    intro g1 hg1
    repeat' ((conv => whnf); first | refine walk (Tryz.ok ..) ?_ | refine side2 ?_ | fail)
    refine called_pure (.v (.bool false)) rfl (fun w' => by rw [← hrf]; exact rright_any f w' hf) ?_
    repeat' ((conv => whnf); first | refine walk (Tryz.ok ..) ?_ | (refine Cnd.mk (fun h => ?_) (fun h => ?_) <;> (first | exact cndT h (by (try dsimp only); omega) | exact cndF h (by (try dsimp only); omega) | (exfalso; simp at h; omega) | simp at h | skip)) | fail)
    exact done_pure rfl rfl rfl
  have e1 : textE f = (textF f, 0) := by unfold textE; rw [if_pos hrf]
  rw [e1]
  have b1 := dg_big6 hf.num
  have b2 := dg_big6 hf.den
  have s1 := txN_size hf.num
  have s2 := txN_size hf.den
  repeat' ((conv => whnf); first | refine walk (Tryz.ok ..) ?_ | fail)
  (conv => whnf)
  intro g1 hg1
  repeat' ((conv => whnf); first | refine walk (Tryz.ok ..) ?_ | refine side2 ?_ | fail)
  refine called_pure (.v (.bool true)) rfl (fun w' => by rw [← hrf]; exact rright_any f w' hf) ?_
  repeat' ((conv => whnf); first | refine walk (Tryz.ok ..) ?_ | (refine Cnd.mk (fun h => ?_) (fun h => ?_) <;> (first | exact cndT h (by (try dsimp only); omega) | exact cndF h (by (try dsimp only); omega) | (exfalso; simp at h; omega) | simp at h | skip)) | refine side2 ?_ | fail)
  refine called_row 11 (xs := iv (dg b6 f.num)) (m := (dg b6 f.num).length) (fun v => v) (fun A cap => .o 11 A (dg b6 f.num).length cap) (fun _ _ => rfl) (fun w' hh => by exact rdig_num f w' hf) ?_
  intro A11 c11
  skip
  refine called_at (.v (.string (txN f.num))) rfl (fun w' hh => rdecimal_any f.num A11 c11 w' hf.num (ro_of_row hh (id := 11) rfl) (row_cap6 hh (id := 11) rfl)) ?_
  obtain ⟨X, hX⟩ : ∃ X, X = txN f.num := ⟨_, rfl⟩
  obtain ⟨Y, hY⟩ : ∃ Y, Y = txN f.den := ⟨_, rfl⟩
  have ht : textF f = if f.den = 1 then (if f.neg = true then ⟨#[45]⟩ ++ X else X) else (if f.neg = true then ⟨#[45]⟩ ++ X else X) ++ (⟨#[47]⟩ ++ Y) := by rw [hX, hY]; rfl
  have ht : textF f = if f.den = 1 then (if f.neg = true then ⟨#[45]⟩ ++ X else X) else (if f.neg = true then ⟨#[45]⟩ ++ X else X) ++ ⟨#[47]⟩ ++ Y := by rw [ht, ByteArray.append_assoc]
  have z1 : (⟨#[45]⟩ : ByteArray).size = 1 := rfl
  have z2 : (⟨#[47]⟩ : ByteArray).size = 1 := rfl
  rw [← hX] at s1 ⊢
  rw [← hY] at s2
  by_cases h1 : f.den = 1
  · rw [if_pos h1] at ht
    have hd1 : decide (f.den = 1) = true := decide_eq_true h1
    repeat' ((conv => whnf); first | refine walk (Tryz.ok ..) ?_ | (refine Cnd.mk (fun h => ?_) (fun h => ?_) <;> (first | exact cndT h (by (try dsimp only); omega) | exact cndF h (by (try dsimp only); omega) | (exfalso; simp at h; omega) | simp at h | skip)) | refine side2 ?_ | refine xi _ (And.intro rfl rfl) ?_ | fail)
    · rw [if_pos h] at ht
      refine called_row 19 (xs := iv (dg b6 f.den)) (m := (dg b6 f.den).length) (fun v => v) (fun A cap => .o 19 A (dg b6 f.den).length cap) (fun _ _ => rfl) (fun w' hh => by exact rdig_den f w' hf) ?_
      intro A19 c19
      repeat' ((conv => whnf); first | refine walk (Tryz.ok ..) ?_ | fail)
      refine called_at (.v (.bool true)) rfl (fun w' hh => by rw [← hd1]; exact rone_any f.den A19 c19 w' (ro_of_row hh (id := 19) rfl) (by omega)) ?_
      repeat' ((conv => whnf); first | refine walk (Tryz.ok ..) ?_ | (refine Cnd.mk (fun h => ?_) (fun h => ?_) <;> (first | exact cndT h (by (try dsimp only); omega) | exact cndF h (by (try dsimp only); omega) | (exfalso; simp at h; omega) | simp at h | skip)) | fail)
      rw [ht]
      exact done_pure rfl rfl rfl
    · rw [if_neg (by rw [h]; simp)] at ht
      refine called_row 19 (xs := iv (dg b6 f.den)) (m := (dg b6 f.den).length) (fun v => v) (fun A cap => .o 19 A (dg b6 f.den).length cap) (fun _ _ => rfl) (fun w' hh => by exact rdig_den f w' hf) ?_
      intro A19 c19
      repeat' ((conv => whnf); first | refine walk (Tryz.ok ..) ?_ | fail)
      refine called_at (.v (.bool true)) rfl (fun w' hh => by rw [← hd1]; exact rone_any f.den A19 c19 w' (ro_of_row hh (id := 19) rfl) (by omega)) ?_
      repeat' ((conv => whnf); first | refine walk (Tryz.ok ..) ?_ | (refine Cnd.mk (fun h => ?_) (fun h => ?_) <;> (first | exact cndT h (by (try dsimp only); omega) | exact cndF h (by (try dsimp only); omega) | (exfalso; simp at h; omega) | simp at h | skip)) | fail)
      rw [ht]
      exact done_pure rfl rfl rfl
  · rw [if_neg h1] at ht
    have hd1 : decide (f.den = 1) = false := decide_eq_false h1
    repeat' ((conv => whnf); first | refine walk (Tryz.ok ..) ?_ | (refine Cnd.mk (fun h => ?_) (fun h => ?_) <;> (first | exact cndT h (by (try dsimp only); omega) | exact cndF h (by (try dsimp only); omega) | (exfalso; simp at h; omega) | simp at h | skip)) | refine side2 ?_ | refine xi _ (And.intro rfl rfl) ?_ | fail)
    · rw [if_pos h] at ht
      refine called_row 19 (xs := iv (dg b6 f.den)) (m := (dg b6 f.den).length) (fun v => v) (fun A cap => .o 19 A (dg b6 f.den).length cap) (fun _ _ => rfl) (fun w' hh => by exact rdig_den f w' hf) ?_
      intro A19 c19
      repeat' ((conv => whnf); first | refine walk (Tryz.ok ..) ?_ | fail)
      refine called_at (.v (.bool false)) rfl (fun w' hh => by rw [← hd1]; exact rone_any f.den A19 c19 w' (ro_of_row hh (id := 19) rfl) (by omega)) ?_
      repeat' ((conv => whnf); first | refine walk (Tryz.ok ..) ?_ | (refine Cnd.mk (fun h => ?_) (fun h => ?_) <;> (first | exact cndT h (by (try dsimp only); omega) | exact cndF h (by (try dsimp only); omega) | (exfalso; simp at h; omega) | simp at h | skip)) | refine side2 ?_ | fail)
      refine called_at (.v (.string Y)) rfl (fun w' hh => by rw [hY]; exact rdecimal_any f.den A19 c19 w' hf.den (ro_of_row hh (id := 19) rfl) (row_cap6 hh (id := 19) rfl)) ?_
      repeat' ((conv => whnf); first | refine walk (Tryz.ok ..) ?_ | refine side2 ?_ | fail)
      rw [ht]
      exact done_pure rfl rfl rfl
    · rw [if_neg (by rw [h]; simp)] at ht
      refine called_row 19 (xs := iv (dg b6 f.den)) (m := (dg b6 f.den).length) (fun v => v) (fun A cap => .o 19 A (dg b6 f.den).length cap) (fun _ _ => rfl) (fun w' hh => by exact rdig_den f w' hf) ?_
      intro A19 c19
      repeat' ((conv => whnf); first | refine walk (Tryz.ok ..) ?_ | fail)
      refine called_at (.v (.bool false)) rfl (fun w' hh => by rw [← hd1]; exact rone_any f.den A19 c19 w' (ro_of_row hh (id := 19) rfl) (by omega)) ?_
      repeat' ((conv => whnf); first | refine walk (Tryz.ok ..) ?_ | (refine Cnd.mk (fun h => ?_) (fun h => ?_) <;> (first | exact cndT h (by (try dsimp only); omega) | exact cndF h (by (try dsimp only); omega) | (exfalso; simp at h; omega) | simp at h | skip)) | refine side2 ?_ | fail)
      refine called_at (.v (.string Y)) rfl (fun w' hh => by rw [hY]; exact rdecimal_any f.den A19 c19 w' hf.den (ro_of_row hh (id := 19) rfl) (row_cap6 hh (id := 19) rfl)) ?_
      repeat' ((conv => whnf); first | refine walk (Tryz.ok ..) ?_ | refine side2 ?_ | fail)
      rw [ht]
      exact done_pure rfl rfl rfl
end Go.Proofs.YtmekcdjaafegaaaGreatDoor
