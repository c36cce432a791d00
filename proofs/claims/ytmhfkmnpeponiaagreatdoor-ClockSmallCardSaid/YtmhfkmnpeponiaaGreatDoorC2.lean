/-
  The walks of the clock package: calendars that are right, where a time lies in spans, whether a calendar is open.
-/
import Derived.Test.YtmhfkmnpeponiaaGreatDoorC1
namespace Go.Proofs.YtmhfkmnpeponiaaGreatDoor
open Go Sat Go.RowKit Go.PlainAid
set_option linter.unusedSimpArgs false
set_option linter.unusedVariables false
theorem no_ld {b : Bool} {xs : List Value} {i : Nat} (hb : b = false) : b = true → xs[i]? = some (.int .i64 0) := fun h => by rw [hb] at h; cases h
theorem no_lds {b : Bool} {xs : List Value} {i : Nat} (hb : b = false) : b = true → [Value.int .i64 0, .int .i64 0].length = 2 ∧ ∀ j, j < 2 → xs[i + j]? = ([Value.int .i64 0, .int .i64 0] : List Value)[j]? := fun h => by rw [hb] at h; cases h
def calOk (w c : List Sp) : Bool := apart w && apart c && decide (w.length ≤ 50) && decide (c.length ≤ 200) && (match w[w.length - 1]? with
  | none => true
  | some s => decide (s.t ≤ 10080))
theorem at_f {l : List Sp} {i : Int} {k : Nat} {s : Sp} (hs : l[k]? = some s) (hi : i = k) : (sps l)[mulS i.toNat 2]? = some (.int .i64 s.f) := by
  rw [mulS_eq, hi, Int.toNat_natCast]
  exact (sps_get hs).1
theorem at_t {l : List Sp} {i : Int} {k : Nat} {s : Sp} (hs : l[k]? = some s) (hi : i = k) : (sps l)[mulS i.toNat 2 + 1]? = some (.int .i64 s.t) := by
  rw [mulS_eq, hi, Int.toNat_natCast]
  exact (sps_get hs).2
def sK (A B : Option (Nat × Nat)) (n m cA cB : Nat) : SV := .a [.o 100 A n cA, .o 101 B m cB]
set_option maxRecDepth 100000 in
set_option maxHeartbeats 8000000 in
theorem right_any (l c : List Sp) (A B : Option (Nat × Nat)) (cA cB : Nat) (w : World) (hA : Ro w A l.length 2 (sps l)) (hB : Ro w B c.length 2 (sps c)) (hl : l.length ≤ 9223372036854775806) (hc : c.length ≤ 9223372036854775806) :
    Calls Tryz.prog 18 #[.agg #[.slice (adr A) l.length cA, .slice (adr B) c.length cB]] w fun e w' => e = .returned (.bool (calOk l c)) ∧ Below w.heap.size w w' := by
  refine calls_sat (cx := Tryz.cx 41 [] [] [] w) (Tryz.ok ..) Tryz.func18 rfl [.a [.o 100 A l.length cA, .o 101 B c.length cB]] rfl (by show 1 ≤ 41; omega) [(100, .ro A l.length 2 (sps l)), (101, .ro B c.length 2 (sps c))] (holds_ros rfl rfl ⟨hA, hB, trivial⟩) ?_
  repeat' ((conv => whnf); first | refine walk (Tryz.ok ..) ?_ | (refine Cnd.mk (fun h => ?_) (fun h => ?_) <;> (first | exact cndT h (by (try dsimp only); omega) | exact cndF h (by (try dsimp only); omega) | (exfalso; simp at h; omega) | simp at h | skip)) | refine kp ?_ ?_ | refine tw ?_ ?_ | exact trivial | refine side ?_ | refine sideL ?_ | refine Or.inr ?_ | refine sat_drawH (Tryz.ok ..) (by kernel_rfl) ?_ | refine xi _ (And.intro rfl rfl) ?_ | refine xi _ (fun _ => And.intro rfl rfl) ?_ | refine xi _ rfl ?_ | intro g hg)
  all_goals (try (conv => whnf))
  refine called_at (.v (.bool (apart l))) rfl (fun w' hh => apart_any l A cA w' (ro_of_ro hh (id := 100) rfl) hl) ?_
  repeat' ((conv => whnf); first | refine walk (Tryz.ok ..) ?_ | (refine Cnd.mk (fun h => ?_) (fun h => ?_) <;> (first | exact cndT h (by (try dsimp only); omega) | exact cndF h (by (try dsimp only); omega) | (exfalso; simp at h; omega) | simp at h | skip)) | refine kp ?_ ?_ | refine tw ?_ ?_ | exact trivial | refine side ?_ | refine sideL ?_ | refine Or.inr ?_ | refine sat_drawH (Tryz.ok ..) (by kernel_rfl) ?_ | refine xi _ (And.intro rfl rfl) ?_ | refine xi _ (fun _ => And.intro rfl rfl) ?_ | refine xi _ rfl ?_)
  refine calledQ_at (.v (.bool (apart c))) rfl (fun _ w' hh => apart_any c B cB w' (ro_of_ro hh (id := 101) rfl) hc) ?_
  repeat' ((conv => whnf); first | refine walk (Tryz.ok ..) ?_ | (refine Cnd.mk (fun h => ?_) (fun h => ?_) <;> (first | exact cndT h (by (try dsimp only); omega) | exact cndF h (by (try dsimp only); omega) | (exfalso; simp at h; omega) | simp at h | skip)) | refine kp ?_ ?_ | refine tw ?_ ?_ | exact trivial | refine side ?_ | refine sideL ?_ | refine Or.inr ?_ | refine sat_drawH (Tryz.ok ..) (by kernel_rfl) ?_ | refine xi _ (And.intro rfl rfl) ?_ | refine xi _ (fun _ => And.intro rfl rfl) ?_ | refine xi _ rfl ?_)
  · refine done_pure rfl rfl (congrArg Value.bool ?_)
    unfold calOk
    rcases h with ((h | h) | h) | h
    · rw [h]; rfl
    · rw [h]; simp
    · rw [decide_eq_false (show ¬ l.length ≤ 50 by omega)]; simp
    · rw [decide_eq_false (show ¬ c.length ≤ 200 by omega)]; simp
  by_cases h0 : l.length = 0
  · obtain rfl : l = [] := List.eq_nil_of_length_eq_zero h0
    repeat' ((conv => whnf); first | refine walk (Tryz.ok ..) ?_ | (refine Cnd.mk (fun h => ?_) (fun h => ?_) <;> (first | exact cndT h (by (try dsimp only); omega) | exact cndF h (by (try dsimp only); omega) | (exfalso; simp at h; omega) | simp at h | skip)) | refine kp ?_ ?_ | refine tw ?_ ?_ | exact trivial | refine side ?_ | refine sideL ?_ | refine Or.inr ?_ | refine sat_drawH (Tryz.ok ..) (by kernel_rfl) ?_ | refine xi _ (And.intro rfl rfl) ?_ | refine xi _ (fun _ => And.intro rfl rfl) ?_ | refine xi _ rfl ?_ | refine xi _ (fun _ => (no_ld rfl)) ?_ | refine xi _ (no_ld rfl) ?_ | intro g hg)
    refine done_pure rfl rfl (congrArg Value.bool ?_)
    unfold calOk
    rw [h.1.1.1, h.1.1.2, decide_eq_true (show c.length ≤ 200 by omega)]
    rfl
  · obtain ⟨s, hs⟩ : ∃ s, l[l.length - 1]? = some s := ⟨l[l.length - 1]'(by omega), List.getElem?_eq_getElem (by omega)⟩
    repeat' ((conv => whnf); first | refine walk (Tryz.ok ..) ?_ | (refine Cnd.mk (fun h => ?_) (fun h => ?_) <;> (first | exact cndT h (by (try dsimp only); omega) | exact cndF h (by (try dsimp only); omega) | (exfalso; simp at h; omega) | simp at h | skip)) | refine kp ?_ ?_ | refine tw ?_ ?_ | exact trivial | refine side ?_ | refine sideL ?_ | refine Or.inr ?_ | refine sat_drawH (Tryz.ok ..) (by kernel_rfl) ?_ | refine xi _ (And.intro rfl rfl) ?_ | refine xi _ (fun _ => And.intro rfl rfl) ?_ | refine xi _ rfl ?_ | refine xi _ (fun _ => (at_t hs (by omega))) ?_ | refine xi _ (at_t hs (by omega)) ?_ | refine xi _ (fun _ => (fun _ => at_t hs (by omega))) ?_ | refine xi _ (fun _ => at_t hs (by omega)) ?_ | intro g hg)
    refine done_pure rfl rfl (congrArg Value.bool ?_)
    unfold calOk
    rw [hs, h.1.1.1, h.1.1.2, decide_eq_true (show l.length ≤ 50 by omega), decide_eq_true (show c.length ≤ 200 by omega)]
    rw [show ((l.length : Int) == 0) = false by rw [beq_eq_false_iff_ne]; omega]
    rfl
/-- the first span that ends behind a time -/
def bhN (l : List Sp) (x : Int) : Nat := (l.takeWhile fun s => decide (s.t ≤ x)).length
theorem bhN_is {l : List Sp} (h : okTo l l.length = true) (x : Int) : Bh l x (bhN l x) := by
  have key : ∀ m : List Sp, (∀ j s, j < (m.takeWhile fun s => decide (s.t ≤ x)).length → m[j]? = some s → s.t ≤ x) ∧ (∀ s, m[(m.takeWhile fun s => decide (s.t ≤ x)).length]? = some s → x < s.t) ∧ (m.takeWhile fun s => decide (s.t ≤ x)).length ≤ m.length := by
    intro m
    induction m with
    | nil => exact ⟨fun j s hj => by simp at hj, fun s hs => by simp at hs, by simp⟩
    | cons a m ih =>
      by_cases ha : a.t ≤ x
      · rw [List.takeWhile_cons_of_pos (by simpa using ha)]
        refine ⟨fun j s hj hs => ?_, fun s hs => ?_, by simpa using ih.2.2⟩
        · cases j with
          | zero => simp at hs; subst hs; exact ha
          | succ j => exact ih.1 j s (by simpa using hj) (by simpa using hs)
        · exact ih.2.1 s (by simpa using hs)
      · rw [List.takeWhile_cons_of_neg (by simpa using ha)]
        refine ⟨fun j s hj => by simp at hj, fun s hs => ?_, by simp⟩
        simp at hs
        subst hs
        omega
  obtain ⟨h1, h2, h3⟩ := key l
  exact bh_of h h3 (fun s h0 hs => h1 _ s (by unfold bhN at h0 ⊢; omega) hs) h2
set_option maxRecDepth 100000 in
set_option maxHeartbeats 8000000 in
theorem cmp_any (s : Sp) (x : Int) (w : World) : Calls Tryz.prog 67 #[.agg #[.int .i64 s.f, .int .i64 s.t], .int .i64 x] w fun e w' => e = .returned (.int .i64 (if s.t ≤ x then -1 else 1)) ∧ Below w.heap.size w w' := by
  refine calls_sat (cx := Tryz.cx 9 [] [] [] w) (Tryz.ok ..) Tryz.func67 rfl [.a [.v (.int .i64 s.f), .v (.int .i64 s.t)], .v (.int .i64 x)] rfl (by show 2 ≤ 9; omega) [] (holds_nil (Nat.le_refl _)) ?_
  repeat' ((conv => whnf); first | refine walk (Tryz.ok ..) ?_ | (refine Cnd.mk (fun h => ?_) (fun h => ?_) <;> (first | exact cndT h (by (try dsimp only); omega) | exact cndF h (by (try dsimp only); omega) | (exfalso; simp at h; omega) | simp at h | skip)) | refine kp ?_ ?_ | refine tw ?_ ?_ | exact trivial | refine side ?_ | refine sideL ?_ | refine Or.inr ?_ | refine sat_drawH (Tryz.ok ..) (by kernel_rfl) ?_ | refine xi _ (And.intro rfl rfl) ?_ | refine xi _ (fun _ => And.intro rfl rfl) ?_ | refine xi _ rfl ?_ | intro g hg)
  all_goals refine done_pure rfl rfl (congrArg (Value.int .i64) ?_)
  · rw [if_pos h]
  · rw [if_neg (by omega)]
set_option maxRecDepth 100000 in
set_option maxHeartbeats 8000000 in
theorem search_any (l : List Sp) (A : Option (Nat × Nat)) (cap : Nat) (x : Int) (w : World) (hro : Ro w A l.length 2 (sps l)) (hl : l.length ≤ 4611686018427387903) (hok : okTo l l.length = true) :
    Calls Tryz.prog 66 #[.slice (adr A) l.length cap, .int .i64 x, .func (.func 67) #[] #[]] w fun e w' => e = .returned (.tuple #[.int .i64 (bhN l x), .bool false]) ∧ Below w.heap.size w w' := by
  refine calls_sat (cx := Tryz.cx 49 [] [] [] w) (Tryz.ok ..) Tryz.func66 rfl [.o 100 A l.length cap, .v (.int .i64 x), .v (.func (.func 67) #[] #[])] rfl (by show 3 ≤ 49; omega) [(100, .ro A l.length 2 (sps l))] (holds_ros rfl rfl ⟨hro, trivial⟩) ?_
  repeat' ((conv => whnf); first | refine walk (Tryz.ok ..) ?_ | (refine Cnd.mk (fun h => ?_) (fun h => ?_) <;> (first | exact cndT h (by (try dsimp only); omega) | exact cndF h (by (try dsimp only); omega) | (exfalso; simp at h; omega) | simp at h | skip)) | refine kp ?_ ?_ | refine tw ?_ ?_ | exact trivial | refine side ?_ | refine sideL ?_ | refine Or.inr ?_ | refine sat_drawH (Tryz.ok ..) (by kernel_rfl) ?_ | refine xi _ (And.intro rfl rfl) ?_ | refine xi _ (fun _ => And.intro rfl rfl) ?_ | refine xi _ rfl ?_)
  refine sat_loop (Tryz.ok ..) (α := Nat × Nat) (fun k => ([(0, .yes, .o 100 A l.length cap), (1, .yes, .v (.int .i64 x)), (2, .yes, .v (.func (.func 67) #[] #[])), (8, .yes, .v (.int .i64 l.length)), (9, .yes, .v (.int .i64 k.1)), (10, .yes, .v (.int .i64 k.2))], [(100, .ro A l.length 2 (sps l))]))
    (fun k => k.1 ≤ k.2 ∧ k.2 ≤ l.length ∧ (∀ s, 0 < k.1 → l[k.1 - 1]? = some s → s.t ≤ x) ∧ ∀ s, l[k.2]? = some s → x < s.t) (fun k => k.2 - k.1) (fun _ => rfl) ?_ ?_
  · refine ⟨(0, l.length), ⟨by omega, by omega, fun s h => absurd h (by omega), fun s h => by rw [List.getElem?_eq_none (Nat.le_refl _)] at h; cases h⟩, ?_, ?_, rfl⟩
    all_goals ((repeat' (first | exact trivial | exact rfl | refine And.intro ?_ ?_)) <;> (try (conv => whnf)) <;> (try simp only [SV.real, SV.r2, SV.r1]))
  rintro ⟨lo, hi⟩ ⟨h1, h2, h3, h4⟩
  dsimp only at h1 h2 h3 h4
  by_cases hk1 : lo < hi
  · obtain ⟨m, hm⟩ : ∃ m : Nat, m = (lo + hi) / 2 := ⟨_, rfl⟩
    obtain ⟨s, hs⟩ : ∃ s, l[m]? = some s := ⟨l[m]'(by omega), List.getElem?_eq_getElem (by omega)⟩
    have hmv : ((lo : Int) + hi) / 2 ^ (1 : Int).toNat = m := by
      show ((lo : Int) + hi) / 2 = m
      omega
    have hin : InR .i64 (((lo : Int) + hi) / 2 ^ (1 : Int).toNat) := by
      rw [hmv]
      simp only [InR]
      omega
    repeat' ((conv => whnf); first | refine walk (Tryz.ok ..) ?_ | (refine Cnd.mk (fun h => ?_) (fun h => ?_) <;> (first | exact cndT h (by (try dsimp only); omega) | exact cndF h (by (try dsimp only); omega) | (exfalso; simp at h; omega) | simp at h | skip)) | refine kp ?_ ?_ | refine tw ?_ ?_ | exact trivial | refine side ?_ | refine sideL ?_ | refine Or.inr ?_ | refine sat_drawH (Tryz.ok ..) (by kernel_rfl) ?_ | refine xi _ (And.intro rfl rfl) ?_ | refine xi _ (fun _ => And.intro rfl rfl) ?_ | refine xi _ rfl ?_ | refine xi _ (fun _ => (at_s hs hmv)) ?_ | refine xi _ (at_s hs hmv) ?_)
    refine called_pure (.v (.int .i64 (if s.t ≤ x then -1 else 1))) rfl (fun w' => cmp_any s x w') ?_
    by_cases hsx : s.t ≤ x
    · rw [if_pos hsx]
      repeat' ((conv => whnf); first | refine walk (Tryz.ok ..) ?_ | (refine Cnd.mk (fun h => ?_) (fun h => ?_) <;> (first | exact cndT h (by (try dsimp only); omega) | exact cndF h (by (try dsimp only); omega) | (exfalso; simp at h; omega) | simp at h | skip)) | refine kp ?_ ?_ | refine tw ?_ ?_ | exact trivial | refine side ?_ | refine sideL ?_ | refine Or.inr ?_ | refine sat_drawH (Tryz.ok ..) (by kernel_rfl) ?_ | refine xi _ (And.intro rfl rfl) ?_ | refine xi _ (fun _ => And.intro rfl rfl) ?_ | refine xi _ rfl ?_)
      refine ⟨(m + 1, hi), ⟨⟨by show m + 1 ≤ hi; omega, h2, fun r _ hr => ?_, h4⟩, by show hi - (m + 1) < hi - lo; omega⟩, ?_, ?_, rfl⟩
      · rw [show m + 1 - 1 = m by omega, hs] at hr
        cases hr
        exact hsx
      · dsimp only
        rw [hmv]
        ((repeat' (first | exact trivial | exact rfl | refine And.intro ?_ ?_)) <;> (try (conv => whnf)) <;> (try simp only [SV.real, SV.r2, SV.r1]))
      · ((repeat' (first | exact trivial | exact rfl | refine And.intro ?_ ?_)) <;> (try (conv => whnf)) <;> (try simp only [SV.real, SV.r2, SV.r1]))
    · rw [if_neg hsx]
      repeat' ((conv => whnf); first | refine walk (Tryz.ok ..) ?_ | (refine Cnd.mk (fun h => ?_) (fun h => ?_) <;> (first | exact cndT h (by (try dsimp only); omega) | exact cndF h (by (try dsimp only); omega) | (exfalso; simp at h; omega) | simp at h | skip)) | refine kp ?_ ?_ | refine tw ?_ ?_ | exact trivial | refine side ?_ | refine sideL ?_ | refine Or.inr ?_ | refine sat_drawH (Tryz.ok ..) (by kernel_rfl) ?_ | refine xi _ (And.intro rfl rfl) ?_ | refine xi _ (fun _ => And.intro rfl rfl) ?_ | refine xi _ rfl ?_)
      refine ⟨(lo, m), ⟨⟨by show lo ≤ m; omega, by show m ≤ l.length; omega, h3, fun r hr => ?_⟩, by show m - lo < hi - lo; omega⟩, ?_, ?_, rfl⟩
      · dsimp only at hr
        rw [hs] at hr
        cases hr
        omega
      · dsimp only
        rw [hmv]
        ((repeat' (first | exact trivial | exact rfl | refine And.intro ?_ ?_)) <;> (try (conv => whnf)) <;> (try simp only [SV.real, SV.r2, SV.r1]))
      · ((repeat' (first | exact trivial | exact rfl | refine And.intro ?_ ?_)) <;> (try (conv => whnf)) <;> (try simp only [SV.real, SV.r2, SV.r1]))
  · obtain rfl : lo = hi := by omega
    have hb := bh_of hok h2 h3 h4
    have he := hb.eq (bhN_is hok x)
    by_cases hlo : lo < l.length
    · obtain ⟨s, hs⟩ : ∃ s, l[lo]? = some s := ⟨l[lo]'(by omega), List.getElem?_eq_getElem (by omega)⟩
      have hsx := h4 s hs
      repeat' ((conv => whnf); first | refine walk (Tryz.ok ..) ?_ | (refine Cnd.mk (fun h => ?_) (fun h => ?_) <;> (first | exact cndT h (by (try dsimp only); omega) | exact cndF h (by (try dsimp only); omega) | (exfalso; simp at h; omega) | simp at h | skip)) | refine kp ?_ ?_ | refine tw ?_ ?_ | exact trivial | refine side ?_ | refine sideL ?_ | refine Or.inr ?_ | refine sat_drawH (Tryz.ok ..) (by kernel_rfl) ?_ | refine xi _ (And.intro rfl rfl) ?_ | refine xi _ (fun _ => And.intro rfl rfl) ?_ | refine xi _ rfl ?_ | refine xi _ (fun _ => (at_s hs rfl)) ?_ | refine xi _ (at_s hs rfl) ?_ | refine xi _ (fun _ => (fun _ => at_s hs rfl)) ?_ | refine xi _ (fun _ => at_s hs rfl) ?_)
      all_goals (try (conv => whnf))
      refine calledQ_pure (.v (.int .i64 (if s.t ≤ x then -1 else 1))) rfl (fun _ w' => cmp_any s x w') ?_
      rw [if_neg (by omega)]
      repeat' ((conv => whnf); first | refine walk (Tryz.ok ..) ?_ | (refine Cnd.mk (fun h => ?_) (fun h => ?_) <;> (first | exact cndT h (by (try dsimp only); omega) | exact cndF h (by (try dsimp only); omega) | (exfalso; simp at h; omega) | simp at h | skip)) | refine kp ?_ ?_ | refine tw ?_ ?_ | exact trivial | refine side ?_ | refine sideL ?_ | refine Or.inr ?_ | refine sat_drawH (Tryz.ok ..) (by kernel_rfl) ?_ | refine xi _ (And.intro rfl rfl) ?_ | refine xi _ (fun _ => And.intro rfl rfl) ?_ | refine xi _ rfl ?_)
      refine done_pure rfl rfl ?_
      rw [← he]
      simp [SV.real, SV.r2, SV.r1]
    · obtain rfl : lo = l.length := by omega
      repeat' ((conv => whnf); first | refine walk (Tryz.ok ..) ?_ | (refine Cnd.mk (fun h => ?_) (fun h => ?_) <;> (first | exact cndT h (by (try dsimp only); omega) | exact cndF h (by (try dsimp only); omega) | (exfalso; simp at h; omega) | simp at h | skip)) | refine kp ?_ ?_ | refine tw ?_ ?_ | exact trivial | refine side ?_ | refine sideL ?_ | refine Or.inr ?_ | refine sat_drawH (Tryz.ok ..) (by kernel_rfl) ?_ | refine xi _ (And.intro rfl rfl) ?_ | refine xi _ (fun _ => And.intro rfl rfl) ?_ | refine xi _ rfl ?_ | refine xi _ (fun _ => (no_lds (by simp))) ?_ | refine xi _ (no_lds (by simp)) ?_)
      all_goals (try (conv => whnf))
      refine calledQ_pure (.v (.int .i64 0)) rfl (fun hg => absurd (of_decide_eq_true hg) (by omega)) ?_
      repeat' ((conv => whnf); first | refine walk (Tryz.ok ..) ?_ | (refine Cnd.mk (fun h => ?_) (fun h => ?_) <;> (first | exact cndT h (by (try dsimp only); omega) | exact cndF h (by (try dsimp only); omega) | (exfalso; simp at h; omega) | simp at h | skip)) | refine kp ?_ ?_ | refine tw ?_ ?_ | exact trivial | refine side ?_ | refine sideL ?_ | refine Or.inr ?_ | refine sat_drawH (Tryz.ok ..) (by kernel_rfl) ?_ | refine xi _ (And.intro rfl rfl) ?_ | refine xi _ (fun _ => And.intro rfl rfl) ?_ | refine xi _ rfl ?_)
      refine done_pure rfl rfl ?_
      rw [← he]
      simp [SV.real, SV.r2, SV.r1]
end Go.Proofs.YtmhfkmnpeponiaaGreatDoor
