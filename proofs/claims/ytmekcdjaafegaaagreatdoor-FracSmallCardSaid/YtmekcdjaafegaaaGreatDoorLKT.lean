/-
  The law FracSmall's texts, walked.
-/
import Derived.Test.YtmekcdjaafegaaaGreatDoorLV
import Derived.Test.YtmekcdjaafegaaaGreatDoorH1
import Derived.Test.YtmekcdjaafegaaaGreatDoorRF
namespace Go.Proofs.YtmekcdjaafegaaaGreatDoor
open Go Sat Go.RowKit Go.PlainAid
set_option linter.unusedSimpArgs false
set_option linter.unusedVariables false
def litS : List ByteArray := [⟨#[45, 49, 50, 48, 47, 55]⟩, ⟨#[48]⟩, ⟨#[49, 47, 49, 48]⟩]
def litB (l : List ByteArray) : List SV := l.map fun x => .v (.string x)
theorem litB_at {l : List ByteArray} {k : Nat} {a : ByteArray} (h : l[k]? = some a) : (litB l)[0 + mulS (k : Int).toNat 1]? = some (.v (.string a)) ∧ (SV.v (.string a)).scal = true := by
  rw [mulS_eq, Int.toNat_natCast, Nat.mul_one, Nat.zero_add]
  exact ⟨by simp [litB, h], rfl⟩
theorem litB_len (l : List ByteArray) : (litB l).length = l.length := by simp [litB]
theorem litS_in {k : Nat} {a : ByteArray} (h : litS[k]? = some a) : a.size ≤ 10 := by
  have hm := List.mem_of_getElem? h
  have : ∀ a ∈ litS, a.size ≤ 10 := by decide
  exact this a hm
def topF : Fr := ⟨false, hi 0 256, 1⟩
theorem top_size : (textE topF).1.size = 78 ∧ (textE topF).2 = 0 := by
  have h1 : rightF topF = true := by decide
  have h2 : textE topF = (textF topF, 0) := by unfold textE; rw [if_pos h1]
  rw [h2]
  refine ⟨?_, rfl⟩
  show (txL (hi 0 256)).toArray.size = 78
  have h3 : 0 < hi 0 256 := by decide
  have h4 := (dg_len (B := 10) (by decide) 78 (hi 0 256)).2 (by decide)
  have h5 : ¬ (dg 10 (hi 0 256)).length ≤ 77 := fun h => absurd ((dg_len (B := 10) (by decide) 77 (hi 0 256)).1 h) (by decide)
  rw [txL_pos h3, List.size_toArray, List.length_reverse, List.length_map]
  omega
set_option maxRecDepth 100000 in
set_option maxHeartbeats 8000000 in
theorem texts_any (w : World) (hw : Wf w) :
    Calls Tryz.prog 12 #[] w fun e w' => e = .returned (.bool true) ∧ Below w.heap.size w w' := by
  refine calls_sat (cx := Tryz.cx 142 [] [] [] w) (Tryz.ok ..) Tryz.func12 rfl [] rfl (by show 0 ≤ 142; omega) [] (holds_nil (Nat.le_refl _)) ?_
  repeat' ((conv => whnf); first | refine walk (Tryz.ok ..) ?_ | fail)
  (conv => whnf)
  intro g12 hg12
  repeat' ((conv => whnf); first | refine walk (Tryz.ok ..) ?_ | fail)
  refine sat_loop (Tryz.ok ..) (α := Nat) (fun k => ([(12, .yes, .s 12 g12 0 0 3 3), (13, .yes, .v (.int .i64 3)), (14, .yes, .v (.int .i64 k))], [(12, .blk g12 9 (litB litS))]))
    (fun k => k ≤ 3) (fun k => 3 - k) (fun _ => rfl) ?_ ?_
  · refine ⟨0, Nat.zero_le _, ?_, ?_, rfl⟩
    all_goals ((repeat' (first | exact trivial | exact rfl | refine And.intro ?_ ?_)) <;> (try (conv => whnf)) <;> (try simp only [SV.real, SV.r2, SV.r1]))
  intro n hn
  have h3 := litB_len litS
  rw [show litS.length = 3 from rfl] at h3
  by_cases hn1 : n < 3
  · obtain ⟨s, hs⟩ : ∃ a, litS[n]? = some a := ⟨litS[n]'hn1, List.getElem?_eq_getElem _⟩
    have hsz := litS_in hs
    repeat' ((conv => whnf); first | refine walk (Tryz.ok ..) ?_ | (refine Cnd.mk (fun h => ?_) (fun h => ?_) <;> (first | exact cndT h (by (try dsimp only); omega) | exact cndF h (by (try dsimp only); omega) | (exfalso; simp at h; omega) | simp at h | skip)) | refine side2 ?_ | refine xi _ (litB_at hs) ?_ | fail)
    refine sat_loop (Tryz.ok ..) (α := Nat) (fun k => ([(2, .yes, .v (.string s)), (3, .yes, .v (.int .i64 k)), (12, .yes, .s 12 g12 0 0 3 3), (13, .yes, .v (.int .i64 3)), (14, .yes, .v (.int .i64 n))], [(12, .blk g12 9 (litB litS))]))
      (fun k => k ≤ s.size + 1) (fun k => s.size + 1 - k) (fun _ => rfl) ?_ ?_
    · refine ⟨0, Nat.zero_le _, ?_, ?_, rfl⟩
      all_goals ((repeat' (first | exact trivial | exact rfl | refine And.intro ?_ ?_)) <;> (try (conv => whnf)) <;> (try simp only [SV.real, SV.r2, SV.r1]))
    intro i hi
    by_cases hi1 : i ≤ s.size
    · repeat' ((conv => whnf); first | refine walk (Tryz.ok ..) ?_ | (refine Cnd.mk (fun h => ?_) (fun h => ?_) <;> (first | exact cndT h (by (try dsimp only); omega) | exact cndF h (by (try dsimp only); omega) | (exfalso; simp at h; omega) | simp at h | skip)) | fail)
      refine sat_loop (Tryz.ok ..) (α := Nat) (fun k => ([(2, .yes, .v (.string s)), (3, .yes, .v (.int .i64 i)), (4, .yes, .v (.int .i64 k)), (12, .yes, .s 12 g12 0 0 3 3), (13, .yes, .v (.int .i64 3)), (14, .yes, .v (.int .i64 n))], [(12, .blk g12 9 (litB litS))]))
        (fun k => k ≤ 256) (fun k => 256 - k) (fun _ => rfl) ?_ ?_
      · refine ⟨0, Nat.zero_le _, ?_, ?_, rfl⟩
        all_goals ((repeat' (first | exact trivial | exact rfl | refine And.intro ?_ ?_)) <;> (try (conv => whnf)) <;> (try simp only [SV.real, SV.r2, SV.r1]))
      intro c hc
      by_cases hc1 : c < 256
      · repeat' ((conv => whnf); first | refine walk (Tryz.ok ..) ?_ | (refine Cnd.mk (fun h => ?_) (fun h => ?_) <;> (first | exact cndT h (by (try dsimp only); omega) | exact cndF h (by (try dsimp only); omega) | (exfalso; simp at h; omega) | simp at h | skip)) | refine sideL2 ?_ | fail)
        (conv => whnf)
        intro g30 hg30
        repeat' ((conv => whnf); first | refine walk (Tryz.ok ..) ?_ | refine side2 ?_ | refine sideL2 ?_ | refine Exists.intro [_] (And.intro (one_byte rfl) ?_) | fail)
        refine calledQ_at (.v (.bool true)) rfl (fun _ w' hh => by exact reads_any _ w' (hw.at_ rfl rfl hh)) ?_
        repeat' ((conv => whnf); first | refine side2 ?_ | refine sideL2 ?_ | fail)
        refine calledQ_at (.v (.bool true)) rfl (fun _ w' hh => by exact reads_any _ w' (hw.at_ rfl rfl hh)) ?_
        repeat' ((conv => whnf); first | refine walk (Tryz.ok ..) ?_ | (refine Cnd.mk (fun h => ?_) (fun h => ?_) <;> (first | exact cndT h (by (try dsimp only); omega) | exact cndF h (by (try dsimp only); omega) | (exfalso; simp at h; omega) | simp at h | skip)) | refine side2 ?_ | refine sideL2 ?_ | fail)
        refine ⟨c + 1, ⟨by omega, by omega⟩, ?_, ?_, rfl⟩
        all_goals ((repeat' (first | exact trivial | exact rfl | refine And.intro ?_ ?_)) <;> (try (conv => whnf)) <;> (try simp only [SV.real, SV.r2, SV.r1]))
      obtain rfl : c = 256 := by omega
      repeat' ((conv => whnf); first | refine walk (Tryz.ok ..) ?_ | (refine Cnd.mk (fun h => ?_) (fun h => ?_) <;> (first | exact cndT h (by (try dsimp only); omega) | exact cndF h (by (try dsimp only); omega) | (exfalso; simp at h; omega) | simp at h | skip)) | refine side2 ?_ | fail)
      refine called_at (.v (.bool true)) rfl (fun w' hh => by exact reads_any _ w' (hw.at_ rfl rfl hh)) ?_
      repeat' ((conv => whnf); first | refine side2 ?_ | refine sideL2 ?_ | fail)
      refine calledQ_at (.v (.bool true)) rfl (fun _ w' hh => by exact reads_any _ w' (hw.at_ rfl rfl hh)) ?_
      repeat' ((conv => whnf); first | refine walk (Tryz.ok ..) ?_ | (refine Cnd.mk (fun h => ?_) (fun h => ?_) <;> (first | exact cndT h (by (try dsimp only); omega) | exact cndF h (by (try dsimp only); omega) | (exfalso; simp at h; omega) | simp at h | skip)) | refine side2 ?_ | refine sideL2 ?_ | fail)
      refine ⟨i + 1, ⟨by omega, by omega⟩, ?_, ?_, rfl⟩
      all_goals ((repeat' (first | exact trivial | exact rfl | refine And.intro ?_ ?_)) <;> (try (conv => whnf)) <;> (try simp only [SV.real, SV.r2, SV.r1]))
    obtain rfl : i = s.size + 1 := by omega
    repeat' ((conv => whnf); first | refine walk (Tryz.ok ..) ?_ | (refine Cnd.mk (fun h => ?_) (fun h => ?_) <;> (first | exact cndT h (by (try dsimp only); omega) | exact cndF h (by (try dsimp only); omega) | (exfalso; simp at h; omega) | simp at h | skip)) | refine sideL2 ?_ | fail)
    refine ⟨n + 1, ⟨by omega, by omega⟩, ?_, ?_, rfl⟩
    all_goals ((repeat' (first | exact trivial | exact rfl | refine And.intro ?_ ?_)) <;> (try (conv => whnf)) <;> (try simp only [SV.real, SV.r2, SV.r1]))
  obtain rfl : n = 3 := by omega
  repeat' ((conv => whnf); first | refine walk (Tryz.ok ..) ?_ | (refine Cnd.mk (fun h => ?_) (fun h => ?_) <;> (first | exact cndT h (by (try dsimp only); omega) | exact cndF h (by (try dsimp only); omega) | (exfalso; simp at h; omega) | simp at h | skip)) | fail)
  refine called_pure (.a (uc (lim (hi 0 256)))) rfl (fun w' => by exact high_any 0 w' (by decide)) ?_
  repeat' ((conv => whnf); first | refine side2 ?_ | fail)
  refine called_args [.a (frC topF)] (congrArg (fun l => [(SV.a l).real]) (by kernel_rfl)) ?_
  obtain ⟨T, hT⟩ : ∃ T, T = (textE topF).1 := ⟨_, rfl⟩
  have hT8 := top_size.1
  rw [← hT] at hT8
  refine called_pure (.t [.v (.string T), .v (.int .i64 0)]) rfl (fun w' => by
    have h := rtext_any topF w' ⟨by decide, by decide⟩
    rw [← hT, top_size.2] at h
    exact h) ?_
  have z54 : (⟨#[54]⟩ : ByteArray).size = 1 := rfl
  have z48 : (⟨#[48]⟩ : ByteArray).size = 1 := rfl
  have z57 : (⟨#[57]⟩ : ByteArray).size = 1 := rfl
  have z49 : (⟨#[49]⟩ : ByteArray).size = 1 := rfl
  have z47 : (⟨#[47]⟩ : ByteArray).size = 1 := rfl
  have z45 : (⟨#[45]⟩ : ByteArray).size = 1 := rfl
  have x1 := ext_len T (Int.toNat 0) (Int.toNat 77)
  have x2 := ext_len T (Int.toNat 1) (Int.toNat (T.size : Int))
  obtain ⟨zer, hzer⟩ : ∃ z : ByteArray, z = ⟨(Lib.repeatL (⟨#[48]⟩ : ByteArray).data.toList 77).toArray⟩ := ⟨_, rfl⟩
  have hz : zer.size = 77 := by rw [hzer]; kernel_rfl
  repeat' ((conv => whnf); first | refine walk (Tryz.ok ..) ?_ | (refine Cnd.mk (fun h => ?_) (fun h => ?_) <;> (first | exact cndT h (by (try dsimp only); omega) | exact cndF h (by (try dsimp only); omega) | (exfalso; simp at h; omega) | simp at h | skip)) | refine side2 ?_ | refine sat_drawH (Tryz.ok ..) (by kernel_rfl) ?_ | fail)
  refine called_pure (.v (.string zer)) rfl (fun w' => by
    have h := Tryz.strings_Repeat ⟨#[48]⟩ 77 w' (by omega) (by show 1 * 77 ≤ 140737488355328; omega)
    rw [← hzer] at h
    exact h) ?_
  clear hzer hT
  repeat' ((conv => whnf); first | refine kp ?_ ?_ | exact trivial | refine side2 ?_ | fail)
  (conv => whnf)
  intro g99 hg99
  repeat' ((conv => whnf); first | refine walk (Tryz.ok ..) ?_ | refine kp ?_ ?_ | exact trivial | refine side2 ?_ | fail)
  obtain ⟨X, eX⟩ : ∃ X, X = T.extract (Int.toNat 0) (Int.toNat 77) := ⟨_, rfl⟩
  rw [← eX] at x1 ⊢
  obtain ⟨Y, eY⟩ : ∃ X, X = T.extract (Int.toNat 1) (Int.toNat (T.size : Int)) := ⟨_, rfl⟩
  rw [← eY] at x2 ⊢
  obtain ⟨L6, hL6⟩ : ∃ L : List ByteArray, L = [T, X ++ ⟨#[54]⟩, T ++ ⟨#[48]⟩, X, ⟨#[57]⟩ ++ Y, ⟨#[49]⟩ ++ zer] := ⟨_, rfl⟩
  have s6 : ∀ a ∈ L6, a.size ≤ 200 := by
    intro a ha
    rw [hL6] at ha
    simp only [List.mem_cons, List.not_mem_nil, or_false] at ha
    rcases ha with rfl | rfl | rfl | rfl | rfl | rfl <;> (try simp only [ByteArray.size_append]) <;> omega
  refine sat_loop (Tryz.ok ..) (α := Nat) (fun k => ([(6, .yes, .v (.string T)), (99, .yes, .s 99 g99 0 0 6 6), (100, .yes, .v (.int .i64 6)), (101, .yes, .v (.int .i64 k))], [(99, .blk g99 9 (litB L6))]))
    (fun k => k ≤ 6) (fun k => 6 - k) (fun _ => rfl) ?_ ?_
  · refine ⟨0, Nat.zero_le _, ?_, ?_, rfl⟩
    · ((repeat' (first | exact trivial | exact rfl | refine And.intro ?_ ?_)) <;> (try (conv => whnf)) <;> (try simp only [SV.real, SV.r2, SV.r1]))
    · dsimp only
      rw [hL6]
      ((repeat' (first | exact trivial | exact rfl | refine And.intro ?_ ?_)) <;> (try (conv => whnf)) <;> (try simp only [SV.real, SV.r2, SV.r1]))
  have h6 := litB_len L6
  have l6 : L6.length = 6 := by rw [hL6]; rfl
  rw [l6] at h6
  clear hL6
  intro n hn
  by_cases hn1 : n < 6
  · obtain ⟨a, ha⟩ : ∃ a, L6[n]? = some a := ⟨L6[n]'(by omega), List.getElem?_eq_getElem _⟩
    have has := s6 a (List.mem_of_getElem? ha)
    have x1' := ext_len T (Int.toNat 0) (Int.toNat 77)
    repeat' ((conv => whnf); first | refine walk (Tryz.ok ..) ?_ | (refine Cnd.mk (fun h => ?_) (fun h => ?_) <;> (first | exact cndT h (by (try dsimp only); omega) | exact cndF h (by (try dsimp only); omega) | (exfalso; simp at h; omega) | simp at h | skip)) | refine side2 ?_ | refine xi _ (litB_at ha) ?_ | fail)
    (conv => whnf)
    intro g114 hg114
    repeat' ((conv => whnf); first | refine walk (Tryz.ok ..) ?_ | fail)
    rw [← eX]
    obtain ⟨L7, hL7⟩ : ∃ L : List ByteArray, L = [⟨#[]⟩, ⟨#[47]⟩ ++ T, ⟨#[47, 49]⟩, ⟨#[47, 51]⟩, ⟨#[47]⟩ ++ X ++ ⟨#[54]⟩, ⟨#[47]⟩ ++ T ++ ⟨#[49]⟩, ⟨#[47, 120]⟩] := ⟨_, rfl⟩
    have s7 : ∀ a ∈ L7, a.size ≤ 200 := by
      intro a ha
      rw [hL7] at ha
      have q0 : (⟨#[]⟩ : ByteArray).size = 0 := rfl
      have q1 : (⟨#[47, 49]⟩ : ByteArray).size = 2 := rfl
      have q2 : (⟨#[47, 51]⟩ : ByteArray).size = 2 := rfl
      have q3 : (⟨#[47, 120]⟩ : ByteArray).size = 2 := rfl
      simp only [List.mem_cons, List.not_mem_nil, or_false] at ha
      rcases ha with rfl | rfl | rfl | rfl | rfl | rfl | rfl <;> (try simp only [ByteArray.size_append]) <;> omega
    refine sat_loop (Tryz.ok ..) (α := Nat) (fun k => ([(6, .yes, .v (.string T)), (9, .yes, .v (.string a)), (99, .yes, .s 99 g99 0 0 6 6), (100, .yes, .v (.int .i64 6)), (101, .yes, .v (.int .i64 n)), (114, .yes, .s 114 g114 0 0 7 7), (115, .yes, .v (.int .i64 7)), (116, .yes, .v (.int .i64 k))], [(99, .blk g99 9 (litB L6)), (114, .blk g114 9 (litB L7))]))
      (fun k => k ≤ 7) (fun k => 7 - k) (fun _ => rfl) ?_ ?_
    · refine ⟨0, Nat.zero_le _, ?_, ?_, rfl⟩
      · ((repeat' (first | exact trivial | exact rfl | refine And.intro ?_ ?_)) <;> (try (conv => whnf)) <;> (try simp only [SV.real, SV.r2, SV.r1]))
      · dsimp only
        rw [hL7]
        ((repeat' (first | exact trivial | exact rfl | refine And.intro ?_ ?_)) <;> (try (conv => whnf)) <;> (try simp only [SV.real, SV.r2, SV.r1]))
    have h7 := litB_len L7
    have l7 : L7.length = 7 := by rw [hL7]; rfl
    rw [l7] at h7
    clear hL7
    intro k hk
    by_cases hk1 : k < 7
    · obtain ⟨b, hb⟩ : ∃ a, L7[k]? = some a := ⟨L7[k]'(by omega), List.getElem?_eq_getElem _⟩
      have hbs := s7 b (List.mem_of_getElem? hb)
      repeat' ((conv => whnf); first | refine walk (Tryz.ok ..) ?_ | (refine Cnd.mk (fun h => ?_) (fun h => ?_) <;> (first | exact cndT h (by (try dsimp only); omega) | exact cndF h (by (try dsimp only); omega) | (exfalso; simp at h; omega) | simp at h | skip)) | refine side2 ?_ | refine xi _ (litB_at hb) ?_ | fail)
      refine called_at (.v (.bool true)) rfl (fun w' hh => by exact reads_any _ w' (hw.at_ rfl rfl hh)) ?_
      repeat' ((conv => whnf); first | refine side2 ?_ | refine sideL2 ?_ | fail)
      refine calledQ_at (.v (.bool true)) rfl (fun _ w' hh => by exact reads_any _ w' (hw.at_ rfl rfl hh)) ?_
      repeat' ((conv => whnf); first | refine side2 ?_ | refine sideL2 ?_ | fail)
      refine calledQ_at (.v (.bool true)) rfl (fun _ w' hh => by exact reads_any _ w' (hw.at_ rfl rfl hh)) ?_
      repeat' ((conv => whnf); first | refine walk (Tryz.ok ..) ?_ | (refine Cnd.mk (fun h => ?_) (fun h => ?_) <;> (first | exact cndT h (by (try dsimp only); omega) | exact cndF h (by (try dsimp only); omega) | (exfalso; simp at h; omega) | simp at h | skip)) | refine side2 ?_ | refine sideL2 ?_ | fail)
      refine ⟨k + 1, ⟨by omega, by omega⟩, ?_, ?_, rfl⟩
      all_goals ((repeat' (first | exact trivial | exact rfl | refine And.intro ?_ ?_)) <;> (try (conv => whnf)) <;> (try simp only [SV.real, SV.r2, SV.r1]))
    obtain rfl : k = 7 := by omega
    repeat' ((conv => whnf); first | refine walk (Tryz.ok ..) ?_ | (refine Cnd.mk (fun h => ?_) (fun h => ?_) <;> (first | exact cndT h (by (try dsimp only); omega) | exact cndF h (by (try dsimp only); omega) | (exfalso; simp at h; omega) | simp at h | skip)) | refine sideL2 ?_ | fail)
    refine ⟨n + 1, ⟨by omega, by omega⟩, ?_, ?_, rfl⟩
    all_goals ((repeat' (first | exact trivial | exact rfl | refine And.intro ?_ ?_)) <;> (try (conv => whnf)) <;> (try simp only [SV.real, SV.r2, SV.r1]))
  obtain rfl : n = 6 := by omega
  repeat' ((conv => whnf); first | refine walk (Tryz.ok ..) ?_ | (refine Cnd.mk (fun h => ?_) (fun h => ?_) <;> (first | exact cndT h (by (try dsimp only); omega) | exact cndF h (by (try dsimp only); omega) | (exfalso; simp at h; omega) | simp at h | skip)) | fail)
  refine called_at (.v (.bool true)) rfl (fun w' hh => by exact awake_any w' (hw.at_ rfl rfl hh)) ?_
  repeat' ((conv => whnf); first | refine walk (Tryz.ok ..) ?_ | fail)
  exact done_pure rfl rfl rfl
end Go.Proofs.YtmekcdjaafegaaaGreatDoor
