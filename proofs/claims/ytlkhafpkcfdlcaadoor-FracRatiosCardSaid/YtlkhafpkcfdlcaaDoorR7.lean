/-
  The walks of the reference: fractions of whole numbers.
-/
import Derived.Test.YtlkhafpkcfdlcaaDoorR6
import Derived.Test.YtlkhafpkcfdlcaaDoorN11
namespace Go.Proofs.YtlkhafpkcfdlcaaDoor
open Go Sat Go.RowKit Go.PlainAid
set_option linter.unusedSimpArgs false
set_option linter.unusedVariables false
set_option maxRecDepth 100000 in
set_option maxHeartbeats 8000000 in
theorem rsize_any (n : Int) (w : World) (hn : I64 n) :
    Calls Tryd.prog 55 #[.int .i64 n] w fun e w' => ∃ v, e = .returned v ∧ w'.ownsRow w.heap.size 3 1 v (dg b6 n.natAbs).length (iv (dg b6 n.natAbs)) ∧ Below w.heap.size w w' := by
  have h1 := hn.lo
  have h2 := hn.hi
  refine calls_sat (cx := Tryd.cx 14 [] [] [] w) (Tryd.ok ..) Tryd.func55 rfl [.v (.int .i64 n)] rfl (by show 1 ≤ 14; omega) [] (holds_nil (Nat.le_refl _)) ?_
  by_cases h0 : n < 0
  · repeat' ((conv => whnf); first | refine walk (Tryd.ok ..) ?_ | (refine Cnd.mk (fun h => ?_) (fun h => ?_) <;> (first | exact cndT h (by omega) | exact cndF h (by omega) | (exfalso; simp only [decide_eq_true_eq, decide_eq_false_iff_not] at h; omega) | (exfalso; simp at h; omega) | simp at h | skip)) | refine And.intro (Kept.mk ?_) ?_ | refine Two.mk (And.intro ?_ ?_) | exact trivial | refine side2 ?_ | refine sideL2 ?_ | refine Or.inr ?_ | refine sat_drawH (Tryd.ok ..) (by kernel_rfl) ?_ | refine Exists.intro [_] (And.intro (one_byte rfl) ?_) | refine Exists.intro [_] (And.intro (fun _ => one_byte rfl) ?_) | refine Exists.intro _ (And.intro (And.intro rfl rfl) ?_) | refine Exists.intro _ (And.intro (fun _ => And.intro rfl rfl) ?_) | refine Exists.intro _ (And.intro rfl ?_))
    refine called_row 10 (xs := iv (dg b6 n.natAbs)) (m := (dg b6 n.natAbs).length) (fun v => v) (fun A cap => .o 10 A (dg b6 n.natAbs).length cap) (fun A cap => rfl) (fun w' hh => by
      have h3 := whole_any n.natAbs w' (by omega)
      rw [show ((n.natAbs : Nat) : Int) = 0 - (n + 1) + 1 by omega] at h3
      exact h3) ?_
    intro A1 c1
    repeat' ((conv => whnf); first | refine walk (Tryd.ok ..) ?_ | (refine Cnd.mk (fun h => ?_) (fun h => ?_) <;> (first | exact cndT h (by omega) | exact cndF h (by omega) | (exfalso; simp only [decide_eq_true_eq, decide_eq_false_iff_not] at h; omega) | (exfalso; simp at h; omega) | simp at h | skip)) | refine And.intro (Kept.mk ?_) ?_ | refine Two.mk (And.intro ?_ ?_) | exact trivial | refine side2 ?_ | refine sideL2 ?_ | refine Or.inr ?_ | refine sat_drawH (Tryd.ok ..) (by kernel_rfl) ?_ | refine Exists.intro [_] (And.intro (one_byte rfl) ?_) | refine Exists.intro [_] (And.intro (fun _ => one_byte rfl) ?_) | refine Exists.intro _ (And.intro (And.intro rfl rfl) ?_) | refine Exists.intro _ (And.intro (fun _ => And.intro rfl rfl) ?_) | refine Exists.intro _ (And.intro rfl ?_))
    exact done_row (mk := fun v => v) rfl rfl 10 A1 c1 rfl rfl
  · repeat' ((conv => whnf); first | refine walk (Tryd.ok ..) ?_ | (refine Cnd.mk (fun h => ?_) (fun h => ?_) <;> (first | exact cndT h (by omega) | exact cndF h (by omega) | (exfalso; simp only [decide_eq_true_eq, decide_eq_false_iff_not] at h; omega) | (exfalso; simp at h; omega) | simp at h | skip)) | refine And.intro (Kept.mk ?_) ?_ | refine Two.mk (And.intro ?_ ?_) | exact trivial | refine side2 ?_ | refine sideL2 ?_ | refine Or.inr ?_ | refine sat_drawH (Tryd.ok ..) (by kernel_rfl) ?_ | refine Exists.intro [_] (And.intro (one_byte rfl) ?_) | refine Exists.intro [_] (And.intro (fun _ => one_byte rfl) ?_) | refine Exists.intro _ (And.intro (And.intro rfl rfl) ?_) | refine Exists.intro _ (And.intro (fun _ => And.intro rfl rfl) ?_) | refine Exists.intro _ (And.intro rfl ?_))
    refine called_row 13 (xs := iv (dg b6 n.natAbs)) (m := (dg b6 n.natAbs).length) (fun v => v) (fun A cap => .o 13 A (dg b6 n.natAbs).length cap) (fun A cap => rfl) (fun w' hh => by
      have h3 := whole_any n.natAbs w' (by omega)
      rw [show ((n.natAbs : Nat) : Int) = n by omega] at h3
      exact h3) ?_
    intro A1 c1
    repeat' ((conv => whnf); first | refine walk (Tryd.ok ..) ?_ | (refine Cnd.mk (fun h => ?_) (fun h => ?_) <;> (first | exact cndT h (by omega) | exact cndF h (by omega) | (exfalso; simp only [decide_eq_true_eq, decide_eq_false_iff_not] at h; omega) | (exfalso; simp at h; omega) | simp at h | skip)) | refine And.intro (Kept.mk ?_) ?_ | refine Two.mk (And.intro ?_ ?_) | exact trivial | refine side2 ?_ | refine sideL2 ?_ | refine Or.inr ?_ | refine sat_drawH (Tryd.ok ..) (by kernel_rfl) ?_ | refine Exists.intro [_] (And.intro (one_byte rfl) ?_) | refine Exists.intro [_] (And.intro (fun _ => one_byte rfl) ?_) | refine Exists.intro _ (And.intro (And.intro rfl rfl) ?_) | refine Exists.intro _ (And.intro (fun _ => And.intro rfl rfl) ?_) | refine Exists.intro _ (And.intro rfl ?_))
    exact done_row (mk := fun v => v) rfl rfl 13 A1 c1 rfl rfl
theorem rneg_eq {a b : Int} (hb : b ≠ 0) (ha : a ≠ 0) : ((decide (a < 0) && decide (0 < b)) || (decide (0 < a) && decide (b < 0))) = (decide (a < 0) != decide (b < 0)) := by
  rcases (by omega : a < 0 ∨ 0 < a) with h1 | h1 <;> rcases (by omega : b < 0 ∨ 0 < b) with h2 | h2
  · rw [decide_eq_true h1, decide_eq_true h2, decide_eq_false (show ¬ 0 < b by omega), decide_eq_false (show ¬ 0 < a by omega)]; rfl
  · rw [decide_eq_true h1, decide_eq_true h2, decide_eq_false (show ¬ b < 0 by omega), decide_eq_false (show ¬ 0 < a by omega)]; rfl
  · rw [decide_eq_true h1, decide_eq_true h2, decide_eq_false (show ¬ 0 < b by omega), decide_eq_false (show ¬ a < 0 by omega)]; rfl
  · rw [decide_eq_true h1, decide_eq_true h2, decide_eq_false (show ¬ b < 0 by omega), decide_eq_false (show ¬ a < 0 by omega)]; rfl
theorem fit_neg {n1 n2 : Bool} {a b : Nat} (h : a ≠ 0 → n1 = n2) : fitF n1 a b = fitF n2 a b := by
  by_cases h0 : a = 0
  · subst h0
    unfold fitF
    simp
  · rw [h h0]
theorem ratioE_ref {a b : Int} (hb : b ≠ 0) : fitF ((decide (a < 0) && decide (0 < b)) || (decide (0 < a) && decide (b < 0))) a.natAbs b.natAbs = ratioE a b := by
  unfold ratioE
  rw [if_neg hb]
  exact fit_neg fun h => rneg_eq hb (by omega)
theorem rmake_any (neg : Bool) (n d : Nat) (X Y : Option (Nat × Nat)) (capX capY : Nat) (w : World) (hx : Ro w X (dg b6 n).length 1 (iv (dg b6 n))) (hy : Ro w Y (dg b6 d).length 1 (iv (dg b6 d))) (hxl : (dg b6 n).length ≤ 100000) (hyl : (dg b6 d).length ≤ 100000) (hcX : (dg b6 n).length ≤ capX) (hcY : (dg b6 d).length ≤ capY) (hd0 : 0 < d) :
    Calls Tryd.prog 54 #[.bool neg, .slice (adr X) (dg b6 n).length capX, .slice (adr Y) (dg b6 d).length capY] w fun e w' => e = .returned (.tuple #[frV (fitF neg n d).1, .int .i64 (fitF neg n d).2]) ∧ Below w.heap.size w w' := by
  rcases Nat.eq_zero_or_pos n with h | h
  · subst h
    exact rmake_zero neg d X Y capX capY w hx hy hyl hcX hcY hd0
  · exact rmake_pos neg n d X Y capX capY w hx hy hxl hyl hcX hcY hd0 h
theorem abs_len6 {n : Int} (hn : I64 n) : (dg b6 n.natAbs).length ≤ 4 := by
  have h1 := hn.lo
  have h2 := hn.hi
  rw [dg_len b6_2]
  show _ < 18446744073709551616
  omega
set_option maxRecDepth 100000 in
set_option maxHeartbeats 8000000 in
theorem rratio_any (a b : Int) (w : World) (ha : I64 a) (hb : I64 b) :
    Calls Tryd.prog 30 #[.int .i64 a, .int .i64 b] w fun e w' => e = .returned (.tuple #[frV (ratioE a b).1, .int .i64 (ratioE a b).2]) ∧ Below w.heap.size w w' := by
  obtain ⟨r, er⟩ : ∃ r, r = ratioE a b := ⟨_, rfl⟩
  rw [← er]
  have hal := abs_len6 ha
  have hbl := abs_len6 hb
  have h17 := frC_len r.1
  refine calls_sat (cx := Tryd.cx 30 [] [] [] w) (Tryd.ok ..) Tryd.func30 rfl [.v (.int .i64 a), .v (.int .i64 b)] rfl (by show 2 ≤ 30; omega) [] (holds_nil (Nat.le_refl _)) ?_
  by_cases h0 : b = 0
  · subst h0
    rw [show ratioE a 0 = (zeroF, 2) from rfl] at er
    rw [er]
    repeat' ((conv => whnf); first | refine walk (Tryd.ok ..) ?_ | (refine Cnd.mk (fun h => ?_) (fun h => ?_) <;> (first | exact cndT h (by omega) | exact cndF h (by omega) | (exfalso; simp only [decide_eq_true_eq, decide_eq_false_iff_not] at h; omega) | (exfalso; simp at h; omega) | simp at h | skip)) | refine And.intro (Kept.mk ?_) ?_ | refine Two.mk (And.intro ?_ ?_) | exact trivial | refine side2 ?_ | refine sideL2 ?_ | refine Or.inr ?_ | refine sat_drawH (Tryd.ok ..) (by kernel_rfl) ?_ | refine Exists.intro [_] (And.intro (one_byte rfl) ?_) | refine Exists.intro [_] (And.intro (fun _ => one_byte rfl) ?_) | refine Exists.intro _ (And.intro (And.intro rfl rfl) ?_) | refine Exists.intro _ (And.intro (fun _ => And.intro rfl rfl) ?_) | refine Exists.intro _ (And.intro rfl ?_))
    intro g4 hg4
    repeat' ((conv => whnf); first | refine walk (Tryd.ok ..) ?_ | (refine Cnd.mk (fun h => ?_) (fun h => ?_) <;> (first | exact cndT h (by omega) | exact cndF h (by omega) | (exfalso; simp only [decide_eq_true_eq, decide_eq_false_iff_not] at h; omega) | (exfalso; simp at h; omega) | simp at h | skip)) | refine And.intro (Kept.mk ?_) ?_ | refine Two.mk (And.intro ?_ ?_) | exact trivial | refine side2 ?_ | refine sideL2 ?_ | refine Or.inr ?_ | refine sat_drawH (Tryd.ok ..) (by kernel_rfl) ?_ | refine Exists.intro [_] (And.intro (one_byte rfl) ?_) | refine Exists.intro [_] (And.intro (fun _ => one_byte rfl) ?_) | refine Exists.intro _ (And.intro (And.intro rfl rfl) ?_) | refine Exists.intro _ (And.intro (fun _ => And.intro rfl rfl) ?_) | refine Exists.intro _ (And.intro rfl ?_))
    exact done_pure rfl rfl rfl
  have hrr := ratioE_ref (a := a) h0
  rw [← er] at hrr
  repeat' ((conv => whnf); first | refine walk (Tryd.ok ..) ?_ | (refine Cnd.mk (fun h => ?_) (fun h => ?_) <;> (first | exact cndT h (by omega) | exact cndF h (by omega) | (exfalso; simp only [decide_eq_true_eq, decide_eq_false_iff_not] at h; omega) | (exfalso; simp at h; omega) | simp at h | skip)) | refine And.intro (Kept.mk ?_) ?_ | refine Two.mk (And.intro ?_ ?_) | exact trivial | refine side2 ?_ | refine sideL2 ?_ | refine Or.inr ?_ | refine sat_drawH (Tryd.ok ..) (by kernel_rfl) ?_ | refine Exists.intro [_] (And.intro (one_byte rfl) ?_) | refine Exists.intro [_] (And.intro (fun _ => one_byte rfl) ?_) | refine Exists.intro _ (And.intro (And.intro rfl rfl) ?_) | refine Exists.intro _ (And.intro (fun _ => And.intro rfl rfl) ?_) | refine Exists.intro _ (And.intro rfl ?_))
  intro g4 hg4
  repeat' ((conv => whnf); first | refine walk (Tryd.ok ..) ?_ | (refine Cnd.mk (fun h => ?_) (fun h => ?_) <;> (first | exact cndT h (by omega) | exact cndF h (by omega) | (exfalso; simp only [decide_eq_true_eq, decide_eq_false_iff_not] at h; omega) | (exfalso; simp at h; omega) | simp at h | skip)) | refine And.intro (Kept.mk ?_) ?_ | refine Two.mk (And.intro ?_ ?_) | exact trivial | refine side2 ?_ | refine sideL2 ?_ | refine Or.inr ?_ | refine sat_drawH (Tryd.ok ..) (by kernel_rfl) ?_ | refine Exists.intro [_] (And.intro (one_byte rfl) ?_) | refine Exists.intro [_] (And.intro (fun _ => one_byte rfl) ?_) | refine Exists.intro _ (And.intro (And.intro rfl rfl) ?_) | refine Exists.intro _ (And.intro (fun _ => And.intro rfl rfl) ?_) | refine Exists.intro _ (And.intro rfl ?_))
  refine called_row 24 (xs := iv (dg b6 a.natAbs)) (m := (dg b6 a.natAbs).length) (fun v => v) (fun A cap => .o 24 A (dg b6 a.natAbs).length cap) (fun A cap => rfl) (fun w' hh => rsize_any a w' ha) ?_
  intro A1 c1
  repeat' ((conv => whnf); first | refine walk (Tryd.ok ..) ?_ | (refine Cnd.mk (fun h => ?_) (fun h => ?_) <;> (first | exact cndT h (by omega) | exact cndF h (by omega) | (exfalso; simp only [decide_eq_true_eq, decide_eq_false_iff_not] at h; omega) | (exfalso; simp at h; omega) | simp at h | skip)) | refine And.intro (Kept.mk ?_) ?_ | refine Two.mk (And.intro ?_ ?_) | exact trivial | refine side2 ?_ | refine sideL2 ?_ | refine Or.inr ?_ | refine sat_drawH (Tryd.ok ..) (by kernel_rfl) ?_ | refine Exists.intro [_] (And.intro (one_byte rfl) ?_) | refine Exists.intro [_] (And.intro (fun _ => one_byte rfl) ?_) | refine Exists.intro _ (And.intro (And.intro rfl rfl) ?_) | refine Exists.intro _ (And.intro (fun _ => And.intro rfl rfl) ?_) | refine Exists.intro _ (And.intro rfl ?_))
  refine called_row 26 (xs := iv (dg b6 b.natAbs)) (m := (dg b6 b.natAbs).length) (fun v => v) (fun A cap => .o 26 A (dg b6 b.natAbs).length cap) (fun A cap => rfl) (fun w' hh => rsize_any b w' hb) ?_
  intro A2 c2
  repeat' ((conv => whnf); first | refine walk (Tryd.ok ..) ?_ | (refine Cnd.mk (fun h => ?_) (fun h => ?_) <;> (first | exact cndT h (by omega) | exact cndF h (by omega) | (exfalso; simp only [decide_eq_true_eq, decide_eq_false_iff_not] at h; omega) | (exfalso; simp at h; omega) | simp at h | skip)) | refine And.intro (Kept.mk ?_) ?_ | refine Two.mk (And.intro ?_ ?_) | exact trivial | refine side2 ?_ | refine sideL2 ?_ | refine Or.inr ?_ | refine sat_drawH (Tryd.ok ..) (by kernel_rfl) ?_ | refine Exists.intro [_] (And.intro (one_byte rfl) ?_) | refine Exists.intro [_] (And.intro (fun _ => one_byte rfl) ?_) | refine Exists.intro _ (And.intro (And.intro rfl rfl) ?_) | refine Exists.intro _ (And.intro (fun _ => And.intro rfl rfl) ?_) | refine Exists.intro _ (And.intro rfl ?_))
  refine called_at (.t [.a (frC r.1), .v (.int .i64 r.2)]) rfl (fun w' hh => by
    have h := rmake_any ((decide (a < 0) && decide (0 < b)) || (decide (0 < a) && decide (b < 0))) a.natAbs b.natAbs A1 A2 c1 c2 w' (ro_of_row hh (id := 24) rfl) (ro_of_row hh (id := 26) rfl) (by omega) (by omega) (row_cap6 hh (id := 24) rfl) (row_cap6 hh (id := 26) rfl) (by omega)
    rw [hrr] at h
    exact h) ?_
  repeat' ((conv => whnf); first | refine walk (Tryd.ok ..) ?_ | (refine Cnd.mk (fun h => ?_) (fun h => ?_) <;> (first | exact cndT h (by omega) | exact cndF h (by omega) | (exfalso; simp only [decide_eq_true_eq, decide_eq_false_iff_not] at h; omega) | (exfalso; simp at h; omega) | simp at h | skip)) | refine And.intro (Kept.mk ?_) ?_ | refine Two.mk (And.intro ?_ ?_) | exact trivial | refine side2 ?_ | refine sideL2 ?_ | refine Or.inr ?_ | refine sat_drawH (Tryd.ok ..) (by kernel_rfl) ?_ | refine Exists.intro [_] (And.intro (one_byte rfl) ?_) | refine Exists.intro [_] (And.intro (fun _ => one_byte rfl) ?_) | refine Exists.intro _ (And.intro (And.intro rfl rfl) ?_) | refine Exists.intro _ (And.intro (fun _ => And.intro rfl rfl) ?_) | refine Exists.intro _ (And.intro rfl ?_))
  exact done_pure rfl rfl (congrArg (fun l => (SV.t [.a l, .v (.int .i64 r.2)]).real) (tk2 r.1))
set_option maxRecDepth 100000 in
set_option maxHeartbeats 8000000 in
theorem rof_any (n : Int) (w : World) (hn : I64 n) :
    Calls Tryd.prog 32 #[.int .i64 n] w fun e w' => e = .returned (frV (ratioE n 1).1) ∧ Below w.heap.size w w' := by
  obtain ⟨r, er⟩ : ∃ r, r = ratioE n 1 := ⟨_, rfl⟩
  rw [← er]
  have h17 := frC_len r.1
  refine calls_sat (cx := Tryd.cx 11 [] [] [] w) (Tryd.ok ..) Tryd.func32 rfl [.v (.int .i64 n)] rfl (by show 1 ≤ 11; omega) [] (holds_nil (Nat.le_refl _)) ?_
  repeat' ((conv => whnf); first | refine walk (Tryd.ok ..) ?_ | (refine Cnd.mk (fun h => ?_) (fun h => ?_) <;> (first | exact cndT h (by omega) | exact cndF h (by omega) | (exfalso; simp only [decide_eq_true_eq, decide_eq_false_iff_not] at h; omega) | (exfalso; simp at h; omega) | simp at h | skip)) | refine And.intro (Kept.mk ?_) ?_ | refine Two.mk (And.intro ?_ ?_) | exact trivial | refine side2 ?_ | refine sideL2 ?_ | refine Or.inr ?_ | refine sat_drawH (Tryd.ok ..) (by kernel_rfl) ?_ | refine Exists.intro [_] (And.intro (one_byte rfl) ?_) | refine Exists.intro [_] (And.intro (fun _ => one_byte rfl) ?_) | refine Exists.intro _ (And.intro (And.intro rfl rfl) ?_) | refine Exists.intro _ (And.intro (fun _ => And.intro rfl rfl) ?_) | refine Exists.intro _ (And.intro rfl ?_))
  intro g2 hg2
  repeat' ((conv => whnf); first | refine walk (Tryd.ok ..) ?_ | (refine Cnd.mk (fun h => ?_) (fun h => ?_) <;> (first | exact cndT h (by omega) | exact cndF h (by omega) | (exfalso; simp only [decide_eq_true_eq, decide_eq_false_iff_not] at h; omega) | (exfalso; simp at h; omega) | simp at h | skip)) | refine And.intro (Kept.mk ?_) ?_ | refine Two.mk (And.intro ?_ ?_) | exact trivial | refine side2 ?_ | refine sideL2 ?_ | refine Or.inr ?_ | refine sat_drawH (Tryd.ok ..) (by kernel_rfl) ?_ | refine Exists.intro [_] (And.intro (one_byte rfl) ?_) | refine Exists.intro [_] (And.intro (fun _ => one_byte rfl) ?_) | refine Exists.intro _ (And.intro (And.intro rfl rfl) ?_) | refine Exists.intro _ (And.intro (fun _ => And.intro rfl rfl) ?_) | refine Exists.intro _ (And.intro rfl ?_))
  refine called_pure (.t [.a (frC r.1), .v (.int .i64 r.2)]) rfl (fun w' => by rw [er]; exact rratio_any n 1 w' hn ⟨by decide, by decide⟩) ?_
  repeat' ((conv => whnf); first | refine walk (Tryd.ok ..) ?_ | (refine Cnd.mk (fun h => ?_) (fun h => ?_) <;> (first | exact cndT h (by omega) | exact cndF h (by omega) | (exfalso; simp only [decide_eq_true_eq, decide_eq_false_iff_not] at h; omega) | (exfalso; simp at h; omega) | simp at h | skip)) | refine And.intro (Kept.mk ?_) ?_ | refine Two.mk (And.intro ?_ ?_) | exact trivial | refine side2 ?_ | refine sideL2 ?_ | refine Or.inr ?_ | refine sat_drawH (Tryd.ok ..) (by kernel_rfl) ?_ | refine Exists.intro [_] (And.intro (one_byte rfl) ?_) | refine Exists.intro [_] (And.intro (fun _ => one_byte rfl) ?_) | refine Exists.intro _ (And.intro (And.intro rfl rfl) ?_) | refine Exists.intro _ (And.intro (fun _ => And.intro rfl rfl) ?_) | refine Exists.intro _ (And.intro rfl ?_))
  intro g3 hg3
  repeat' ((conv => whnf); first | refine walk (Tryd.ok ..) ?_ | (refine Cnd.mk (fun h => ?_) (fun h => ?_) <;> (first | exact cndT h (by omega) | exact cndF h (by omega) | (exfalso; simp only [decide_eq_true_eq, decide_eq_false_iff_not] at h; omega) | (exfalso; simp at h; omega) | simp at h | skip)) | refine And.intro (Kept.mk ?_) ?_ | refine Two.mk (And.intro ?_ ?_) | exact trivial | refine side2 ?_ | refine sideL2 ?_ | refine Or.inr ?_ | refine sat_drawH (Tryd.ok ..) (by kernel_rfl) ?_ | refine Exists.intro [_] (And.intro (one_byte rfl) ?_) | refine Exists.intro [_] (And.intro (fun _ => one_byte rfl) ?_) | refine Exists.intro _ (And.intro (And.intro rfl rfl) ?_) | refine Exists.intro _ (And.intro (fun _ => And.intro rfl rfl) ?_) | refine Exists.intro _ (And.intro rfl ?_))
  exact done_pure rfl rfl (congrArg (fun l => (SV.a l).real) (tk2 r.1))
theorem ratioE_one (n : Int) : (ratioE n 1).1 = ofF n := by
  unfold ratioE ofF
  rw [if_neg (by decide)]
  cases decide (n < 0) <;> rfl
end Go.Proofs.YtlkhafpkcfdlcaaDoor
