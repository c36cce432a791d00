/-
  The walks of the reference's numbers: common divisors.
-/
import Derived.Test.YtlkhafpkcfdlcaaDoorR4
namespace Go.Proofs.YtlkhafpkcfdlcaaDoor
open Go Sat Go.RowKit Go.PlainAid
set_option linter.unusedSimpArgs false
set_option linter.unusedVariables false
inductive K5 where
  | s | a | b | c | d
structure CR where
  k : K5
  x : Nat
  y : Nat
  A : Option (Nat × Nat)
  cA : Nat
  B : Option (Nat × Nat)
  cB : Nat
theorem gcd_step6 (x y : Nat) : Nat.gcd y (x % y) = Nat.gcd x y := by
  rw [Nat.gcd_comm x y, Nat.gcd_rec y x, Nat.gcd_comm]
set_option maxRecDepth 100000 in
set_option maxHeartbeats 8000000 in
theorem rcommon_ge (x0 y0 : Nat) (X Y : Option (Nat × Nat)) (capX capY : Nat) (w : World) (hx : Ro w X (dg b6 x0).length 1 (iv (dg b6 x0))) (hy : Ro w Y (dg b6 y0).length 1 (iv (dg b6 y0))) (hxl : (dg b6 x0).length ≤ 100000) (hyl : (dg b6 y0).length ≤ 100000) (hcP : (dg b6 x0).length ≤ capX) (hcQ : (dg b6 y0).length ≤ capY) (hord : y0 ≤ x0) (hy0 : 0 < y0) :
    Calls Tryd.prog 76 #[.slice (adr X) (dg b6 x0).length capX, .slice (adr Y) (dg b6 y0).length capY] w fun e w' => (e = .returned (.slice (adr X) (dg b6 x0).length capX) ∧ Nat.gcd x0 y0 = x0 ∧ Below w.heap.size w w') ∨ (e = .returned (.slice (adr Y) (dg b6 y0).length capY) ∧ Nat.gcd x0 y0 = y0 ∧ Below w.heap.size w w') ∨ (∃ v, e = .returned v ∧ w'.ownsRow w.heap.size 3 1 v (dg b6 (Nat.gcd x0 y0)).length (iv (dg b6 (Nat.gcd x0 y0))) ∧ Below w.heap.size w w') := by
  obtain ⟨G, hG⟩ : ∃ G, G = Nat.gcd x0 y0 := ⟨_, rfl⟩
  rw [← hG]
  refine calls_sat (cx := Tryd.cx 19 [] [] [] w) (Tryd.ok ..) Tryd.func76 rfl [.o 100 X (dg b6 x0).length capX, .o 101 Y (dg b6 y0).length capY] rfl (by show 2 ≤ 19; omega) [(100, .ro X (dg b6 x0).length 1 (iv (dg b6 x0))), (101, .ro Y (dg b6 y0).length 1 (iv (dg b6 y0)))] (holds_ros rfl rfl ⟨hx, hy, trivial⟩) ?_
  repeat' ((conv => whnf); first | refine walk (Tryd.ok ..) ?_ | (refine Cnd.mk (fun h => ?_) (fun h => ?_) <;> (first | exact cndT h (by omega) | exact cndF h (by omega) | (exfalso; simp only [decide_eq_true_eq, decide_eq_false_iff_not] at h; omega) | (exfalso; simp at h; omega) | simp at h | skip)) | refine And.intro (Kept.mk ?_) ?_ | refine Two.mk (And.intro ?_ ?_) | exact trivial | refine side2 ?_ | refine sideL2 ?_ | refine Or.inr ?_ | refine sat_drawH (Tryd.ok ..) (by kernel_rfl) ?_ | refine Exists.intro [_] (And.intro (one_byte rfl) ?_) | refine Exists.intro [_] (And.intro (fun _ => one_byte rfl) ?_) | refine Exists.intro _ (And.intro (And.intro rfl rfl) ?_) | refine Exists.intro _ (And.intro (fun _ => And.intro rfl rfl) ?_) | refine Exists.intro _ (And.intro rfl ?_))
  refine sat_loop (Tryd.ok ..) (α := CR) (fun s => match s.k with
    | .s => ([(0, .yes, .o 101 Y (dg b6 y0).length capY), (1, .yes, .o 100 X (dg b6 x0).length capX)], [(100, .ro X (dg b6 x0).length 1 (iv (dg b6 x0))), (101, .ro Y (dg b6 y0).length 1 (iv (dg b6 y0)))])
    | .a => ([(0, .yes, .o 100 X (dg b6 x0).length capX), (1, .yes, .o 101 Y (dg b6 y0).length capY)], [(100, .ro X (dg b6 x0).length 1 (iv (dg b6 x0))), (101, .ro Y (dg b6 y0).length 1 (iv (dg b6 y0)))])
    | .b => ([(0, .yes, .o 101 Y (dg b6 y0).length capY), (1, .yes, .o 200 s.B (dg b6 s.y).length s.cB)], [(101, .ro Y (dg b6 y0).length 1 (iv (dg b6 y0))), (200, .row s.B 3 1 (dg b6 s.y).length s.cB (iv (dg b6 s.y)))])
    | .c => ([(0, .yes, .o 200 s.A (dg b6 s.x).length s.cA), (1, .yes, .o 301 s.B (dg b6 s.y).length s.cB)], [(200, .row s.A 3 1 (dg b6 s.x).length s.cA (iv (dg b6 s.x))), (301, .row s.B 3 1 (dg b6 s.y).length s.cB (iv (dg b6 s.y)))])
    | .d => ([(0, .yes, .o 301 s.A (dg b6 s.x).length s.cA), (1, .yes, .o 200 s.B (dg b6 s.y).length s.cB)], [(301, .row s.A 3 1 (dg b6 s.x).length s.cA (iv (dg b6 s.x))), (200, .row s.B 3 1 (dg b6 s.y).length s.cB (iv (dg b6 s.y)))]))
    (fun s => (dg b6 s.x).length ≤ 100000 ∧ (dg b6 s.y).length ≤ 100000 ∧ Nat.gcd s.x s.y = G ∧ (match s.k with | .s => s.x = y0 ∧ s.y = x0 ∧ s.x < s.y | .a => s.x = x0 ∧ s.y = y0 ∧ s.y ≤ s.x | .b => s.x = y0 ∧ s.y ≤ s.x | _ => s.y ≤ s.x)) (fun s => s.y) (fun s => by cases s with | mk k _ _ _ _ _ _ => cases k <;> rfl) ?_ ?_
  · refine ⟨⟨.a, x0, y0, none, 0, none, 0⟩, ⟨by dsimp only; omega, by dsimp only; omega, hG.symm, rfl, rfl, hord⟩, ?_, ?_, rfl⟩
    all_goals ((repeat' (first | exact trivial | exact rfl | refine And.intro ?_ ?_)) <;> (try (conv => whnf)) <;> (try simp only [SV.real, SV.r2, SV.r1]))
  rintro ⟨k, x, y, A1, c1, A2, c2⟩ ⟨hl1, hl2, hgc, hk⟩
  dsimp only at hl1 hl2 hgc hk
  have hgc2 := (gcd_step6 x y).trans hgc
  have hlm : 0 < y → (dg b6 (x % y)).length ≤ 100000 := fun h => Nat.le_trans (len_le b6_2 (Nat.le_of_lt (Nat.mod_lt x h))) hl2
  rcases Nat.eq_zero_or_pos y with h0 | h0
  · subst h0
    rw [Nat.gcd_zero_right] at hgc
    cases k
    · dsimp only at hk
      omega
    · obtain ⟨e1, e2, _⟩ := hk
      have e3 : dg b6 y0 = [] := by rw [← e2]; rfl
      dsimp only
      rw [e3]
      repeat' ((conv => whnf); first | refine walk (Tryd.ok ..) ?_ | (refine Cnd.mk (fun h => ?_) (fun h => ?_) <;> (first | exact cndT h (by omega) | exact cndF h (by omega) | (exfalso; simp only [decide_eq_true_eq, decide_eq_false_iff_not] at h; omega) | (exfalso; simp at h; omega) | simp at h | skip)) | refine And.intro (Kept.mk ?_) ?_ | refine Two.mk (And.intro ?_ ?_) | exact trivial | refine side2 ?_ | refine sideL2 ?_ | refine Or.inr ?_ | refine sat_drawH (Tryd.ok ..) (by kernel_rfl) ?_ | refine Exists.intro [_] (And.intro (one_byte rfl) ?_) | refine Exists.intro [_] (And.intro (fun _ => one_byte rfl) ?_) | refine Exists.intro _ (And.intro (And.intro rfl rfl) ?_) | refine Exists.intro _ (And.intro (fun _ => And.intro rfl rfl) ?_) | refine Exists.intro _ (And.intro rfl ?_))
      all_goals exact (done_pure (x := .slice (adr X) (dg b6 x0).length capX) rfl rfl rfl).mono fun e w' hp => .inl ⟨hp.1, by omega, hp.2⟩
    · dsimp only at hk ⊢
      rw [dg_zero]
      repeat' ((conv => whnf); first | refine walk (Tryd.ok ..) ?_ | (refine Cnd.mk (fun h => ?_) (fun h => ?_) <;> (first | exact cndT h (by omega) | exact cndF h (by omega) | (exfalso; simp only [decide_eq_true_eq, decide_eq_false_iff_not] at h; omega) | (exfalso; simp at h; omega) | simp at h | skip)) | refine And.intro (Kept.mk ?_) ?_ | refine Two.mk (And.intro ?_ ?_) | exact trivial | refine side2 ?_ | refine sideL2 ?_ | refine Or.inr ?_ | refine sat_drawH (Tryd.ok ..) (by kernel_rfl) ?_ | refine Exists.intro [_] (And.intro (one_byte rfl) ?_) | refine Exists.intro [_] (And.intro (fun _ => one_byte rfl) ?_) | refine Exists.intro _ (And.intro (And.intro rfl rfl) ?_) | refine Exists.intro _ (And.intro (fun _ => And.intro rfl rfl) ?_) | refine Exists.intro _ (And.intro rfl ?_))
      exact (done_pure (x := .slice (adr Y) (dg b6 y0).length capY) rfl rfl rfl).mono fun e w' hp => .inr (.inl ⟨hp.1, by omega, hp.2⟩)
    · dsimp only at hk ⊢
      rw [dg_zero]
      repeat' ((conv => whnf); first | refine walk (Tryd.ok ..) ?_ | (refine Cnd.mk (fun h => ?_) (fun h => ?_) <;> (first | exact cndT h (by omega) | exact cndF h (by omega) | (exfalso; simp only [decide_eq_true_eq, decide_eq_false_iff_not] at h; omega) | (exfalso; simp at h; omega) | simp at h | skip)) | refine And.intro (Kept.mk ?_) ?_ | refine Two.mk (And.intro ?_ ?_) | exact trivial | refine side2 ?_ | refine sideL2 ?_ | refine Or.inr ?_ | refine sat_drawH (Tryd.ok ..) (by kernel_rfl) ?_ | refine Exists.intro [_] (And.intro (one_byte rfl) ?_) | refine Exists.intro [_] (And.intro (fun _ => one_byte rfl) ?_) | refine Exists.intro _ (And.intro (And.intro rfl rfl) ?_) | refine Exists.intro _ (And.intro (fun _ => And.intro rfl rfl) ?_) | refine Exists.intro _ (And.intro rfl ?_))
      subst hgc
      exact (done_row (mk := fun v => v) rfl rfl 200 A1 c1 rfl rfl).mono fun e w' hp => .inr (.inr hp)
    · dsimp only at hk ⊢
      rw [dg_zero]
      repeat' ((conv => whnf); first | refine walk (Tryd.ok ..) ?_ | (refine Cnd.mk (fun h => ?_) (fun h => ?_) <;> (first | exact cndT h (by omega) | exact cndF h (by omega) | (exfalso; simp only [decide_eq_true_eq, decide_eq_false_iff_not] at h; omega) | (exfalso; simp at h; omega) | simp at h | skip)) | refine And.intro (Kept.mk ?_) ?_ | refine Two.mk (And.intro ?_ ?_) | exact trivial | refine side2 ?_ | refine sideL2 ?_ | refine Or.inr ?_ | refine sat_drawH (Tryd.ok ..) (by kernel_rfl) ?_ | refine Exists.intro [_] (And.intro (one_byte rfl) ?_) | refine Exists.intro [_] (And.intro (fun _ => one_byte rfl) ?_) | refine Exists.intro _ (And.intro (And.intro rfl rfl) ?_) | refine Exists.intro _ (And.intro (fun _ => And.intro rfl rfl) ?_) | refine Exists.intro _ (And.intro rfl ?_))
      subst hgc
      exact (done_row (mk := fun v => v) rfl rfl 301 A1 c1 rfl rfl).mono fun e w' hp => .inr (.inr hp)
  have hlm := hlm h0
  have hlt := Nat.mod_lt x h0
  have hyp : 0 < (dg b6 y).length := (lt_len (s := y) (i := 0) b6_2).2 (by rw [Nat.pow_zero, Nat.div_one]; exact h0)
  cases k
  · obtain ⟨e1, e2, hlt2⟩ := hk
    subst e1
    subst e2
    repeat' ((conv => whnf); first | refine walk (Tryd.ok ..) ?_ | (refine Cnd.mk (fun h => ?_) (fun h => ?_) <;> (first | exact cndT h (by omega) | exact cndF h (by omega) | (exfalso; simp only [decide_eq_true_eq, decide_eq_false_iff_not] at h; omega) | (exfalso; simp at h; omega) | simp at h | skip)) | refine And.intro (Kept.mk ?_) ?_ | refine Two.mk (And.intro ?_ ?_) | exact trivial | refine side2 ?_ | refine sideL2 ?_ | refine Or.inr ?_ | refine sat_drawH (Tryd.ok ..) (by kernel_rfl) ?_ | refine Exists.intro [_] (And.intro (one_byte rfl) ?_) | refine Exists.intro [_] (And.intro (fun _ => one_byte rfl) ?_) | refine Exists.intro _ (And.intro (And.intro rfl rfl) ?_) | refine Exists.intro _ (And.intro (fun _ => And.intro rfl rfl) ?_) | refine Exists.intro _ (And.intro rfl ?_))
    refine called_at (.t [.v (.slice none 0 0), .o 101 Y (dg b6 x).length capY]) rfl (fun w' hh => by exact rdiv_less x y Y X capY capX w' hlt2 (ro_of_ro hh (id := 101) rfl) (ro_of_ro hh (id := 100) rfl) (by omega) (by omega)) ?_
    repeat' ((conv => whnf); first | refine walk (Tryd.ok ..) ?_ | (refine Cnd.mk (fun h => ?_) (fun h => ?_) <;> (first | exact cndT h (by omega) | exact cndF h (by omega) | (exfalso; simp only [decide_eq_true_eq, decide_eq_false_iff_not] at h; omega) | (exfalso; simp at h; omega) | simp at h | skip)) | refine And.intro (Kept.mk ?_) ?_ | refine Two.mk (And.intro ?_ ?_) | exact trivial | refine side2 ?_ | refine sideL2 ?_ | refine Or.inr ?_ | refine sat_drawH (Tryd.ok ..) (by kernel_rfl) ?_ | refine Exists.intro [_] (And.intro (one_byte rfl) ?_) | refine Exists.intro [_] (And.intro (fun _ => one_byte rfl) ?_) | refine Exists.intro _ (And.intro (And.intro rfl rfl) ?_) | refine Exists.intro _ (And.intro (fun _ => And.intro rfl rfl) ?_) | refine Exists.intro _ (And.intro rfl ?_))
    refine ⟨⟨.a, y, x, none, 0, none, 0⟩, ⟨⟨by dsimp only; omega, by dsimp only; omega, (Nat.gcd_comm y x).trans hgc, rfl, rfl, Nat.le_of_lt hlt2⟩, hlt2⟩, ?_, ?_, rfl⟩
    · ((repeat' (first | exact trivial | exact rfl | refine And.intro ?_ ?_)) <;> (try (conv => whnf)) <;> (try simp only [SV.real, SV.r2, SV.r1]))
    · ((repeat' (first | exact trivial | exact rfl | refine And.intro ?_ ?_)) <;> (try (conv => whnf)) <;> (try simp only [SV.real, SV.r2, SV.r1]))
  · obtain ⟨e1, e2, hyx⟩ := hk
    subst e1
    subst e2
    repeat' ((conv => whnf); first | refine walk (Tryd.ok ..) ?_ | (refine Cnd.mk (fun h => ?_) (fun h => ?_) <;> (first | exact cndT h (by omega) | exact cndF h (by omega) | (exfalso; simp only [decide_eq_true_eq, decide_eq_false_iff_not] at h; omega) | (exfalso; simp at h; omega) | simp at h | skip)) | refine And.intro (Kept.mk ?_) ?_ | refine Two.mk (And.intro ?_ ?_) | exact trivial | refine side2 ?_ | refine sideL2 ?_ | refine Or.inr ?_ | refine sat_drawH (Tryd.ok ..) (by kernel_rfl) ?_ | refine Exists.intro [_] (And.intro (one_byte rfl) ?_) | refine Exists.intro [_] (And.intro (fun _ => one_byte rfl) ?_) | refine Exists.intro _ (And.intro (And.intro rfl rfl) ?_) | refine Exists.intro _ (And.intro (fun _ => And.intro rfl rfl) ?_) | refine Exists.intro _ (And.intro rfl ?_))
    refine called_row2 310 200 (m1 := (dg b6 (x / y)).length) (m2 := (dg b6 (x % y)).length) (xs1 := iv (dg b6 (x / y))) (xs2 := iv (dg b6 (x % y))) (fun v u => .tuple #[v, u]) (fun A c A' c' => .t [.o 310 A (dg b6 (x / y)).length c, .o 200 A' (dg b6 (x % y)).length c']) (fun _ _ _ _ => rfl) (fun w' hh => rdiv_any x y X Y capX capY w' hyx h0 (ro_of_ro hh (id := 100) rfl) (ro_of_ro hh (id := 101) rfl) (by omega) hcP) ?_
    intro A3 cap3 A4 cap4
    repeat' ((conv => whnf); first | refine walk (Tryd.ok ..) ?_ | (refine Cnd.mk (fun h => ?_) (fun h => ?_) <;> (first | exact cndT h (by omega) | exact cndF h (by omega) | (exfalso; simp only [decide_eq_true_eq, decide_eq_false_iff_not] at h; omega) | (exfalso; simp at h; omega) | simp at h | skip)) | refine And.intro (Kept.mk ?_) ?_ | refine Two.mk (And.intro ?_ ?_) | exact trivial | refine side2 ?_ | refine sideL2 ?_ | refine Or.inr ?_ | refine sat_drawH (Tryd.ok ..) (by kernel_rfl) ?_ | refine Exists.intro [_] (And.intro (one_byte rfl) ?_) | refine Exists.intro [_] (And.intro (fun _ => one_byte rfl) ?_) | refine Exists.intro _ (And.intro (And.intro rfl rfl) ?_) | refine Exists.intro _ (And.intro (fun _ => And.intro rfl rfl) ?_) | refine Exists.intro _ (And.intro rfl ?_))
    refine ⟨⟨.b, y, x % y, none, 0, A4, cap4⟩, ⟨⟨by dsimp only; omega, by dsimp only; omega, hgc2, ⟨rfl, Nat.le_of_lt hlt⟩⟩, hlt⟩, ?_, ?_, rfl⟩
    · ((repeat' (first | exact trivial | exact rfl | refine And.intro ?_ ?_)) <;> (try (conv => whnf)) <;> (try simp only [SV.real, SV.r2, SV.r1]))
    · ((repeat' (first | exact trivial | exact rfl | refine And.intro ?_ ?_)) <;> (try (conv => whnf)) <;> (try simp only [SV.real, SV.r2, SV.r1]))
  · obtain ⟨e1, hyx⟩ := hk
    subst e1
    repeat' ((conv => whnf); first | refine walk (Tryd.ok ..) ?_ | (refine Cnd.mk (fun h => ?_) (fun h => ?_) <;> (first | exact cndT h (by omega) | exact cndF h (by omega) | (exfalso; simp only [decide_eq_true_eq, decide_eq_false_iff_not] at h; omega) | (exfalso; simp at h; omega) | simp at h | skip)) | refine And.intro (Kept.mk ?_) ?_ | refine Two.mk (And.intro ?_ ?_) | exact trivial | refine side2 ?_ | refine sideL2 ?_ | refine Or.inr ?_ | refine sat_drawH (Tryd.ok ..) (by kernel_rfl) ?_ | refine Exists.intro [_] (And.intro (one_byte rfl) ?_) | refine Exists.intro [_] (And.intro (fun _ => one_byte rfl) ?_) | refine Exists.intro _ (And.intro (And.intro rfl rfl) ?_) | refine Exists.intro _ (And.intro (fun _ => And.intro rfl rfl) ?_) | refine Exists.intro _ (And.intro rfl ?_))
    refine called_row2 310 301 (m1 := (dg b6 (x / y)).length) (m2 := (dg b6 (x % y)).length) (xs1 := iv (dg b6 (x / y))) (xs2 := iv (dg b6 (x % y))) (fun v u => .tuple #[v, u]) (fun A c A' c' => .t [.o 310 A (dg b6 (x / y)).length c, .o 301 A' (dg b6 (x % y)).length c']) (fun _ _ _ _ => rfl) (fun w' hh => rdiv_any x y Y A2 capY c2 w' hyx h0 (ro_of_ro hh (id := 101) rfl) (ro_of_row hh (id := 200) rfl) (by omega) hcQ) ?_
    intro A3 cap3 A4 cap4
    repeat' ((conv => whnf); first | refine walk (Tryd.ok ..) ?_ | (refine Cnd.mk (fun h => ?_) (fun h => ?_) <;> (first | exact cndT h (by omega) | exact cndF h (by omega) | (exfalso; simp only [decide_eq_true_eq, decide_eq_false_iff_not] at h; omega) | (exfalso; simp at h; omega) | simp at h | skip)) | refine And.intro (Kept.mk ?_) ?_ | refine Two.mk (And.intro ?_ ?_) | exact trivial | refine side2 ?_ | refine sideL2 ?_ | refine Or.inr ?_ | refine sat_drawH (Tryd.ok ..) (by kernel_rfl) ?_ | refine Exists.intro [_] (And.intro (one_byte rfl) ?_) | refine Exists.intro [_] (And.intro (fun _ => one_byte rfl) ?_) | refine Exists.intro _ (And.intro (And.intro rfl rfl) ?_) | refine Exists.intro _ (And.intro (fun _ => And.intro rfl rfl) ?_) | refine Exists.intro _ (And.intro rfl ?_))
    refine ⟨⟨.c, y, x % y, A2, c2, A4, cap4⟩, ⟨⟨by dsimp only; omega, by dsimp only; omega, hgc2, Nat.le_of_lt hlt⟩, hlt⟩, ?_, ?_, rfl⟩
    · ((repeat' (first | exact trivial | exact rfl | refine And.intro ?_ ?_)) <;> (try (conv => whnf)) <;> (try simp only [SV.real, SV.r2, SV.r1]))
    · ((repeat' (first | exact trivial | exact rfl | refine And.intro ?_ ?_)) <;> (try (conv => whnf)) <;> (try simp only [SV.real, SV.r2, SV.r1]))
  · have hyx : y ≤ x := hk
    repeat' ((conv => whnf); first | refine walk (Tryd.ok ..) ?_ | (refine Cnd.mk (fun h => ?_) (fun h => ?_) <;> (first | exact cndT h (by omega) | exact cndF h (by omega) | (exfalso; simp only [decide_eq_true_eq, decide_eq_false_iff_not] at h; omega) | (exfalso; simp at h; omega) | simp at h | skip)) | refine And.intro (Kept.mk ?_) ?_ | refine Two.mk (And.intro ?_ ?_) | exact trivial | refine side2 ?_ | refine sideL2 ?_ | refine Or.inr ?_ | refine sat_drawH (Tryd.ok ..) (by kernel_rfl) ?_ | refine Exists.intro [_] (And.intro (one_byte rfl) ?_) | refine Exists.intro [_] (And.intro (fun _ => one_byte rfl) ?_) | refine Exists.intro _ (And.intro (And.intro rfl rfl) ?_) | refine Exists.intro _ (And.intro (fun _ => And.intro rfl rfl) ?_) | refine Exists.intro _ (And.intro rfl ?_))
    refine called_row2 310 200 (m1 := (dg b6 (x / y)).length) (m2 := (dg b6 (x % y)).length) (xs1 := iv (dg b6 (x / y))) (xs2 := iv (dg b6 (x % y))) (fun v u => .tuple #[v, u]) (fun A c A' c' => .t [.o 310 A (dg b6 (x / y)).length c, .o 200 A' (dg b6 (x % y)).length c']) (fun _ _ _ _ => rfl) (fun w' hh => rdiv_any x y A1 A2 c1 c2 w' hyx h0 (ro_of_row hh (id := 200) rfl) (ro_of_row hh (id := 301) rfl) (by omega) (row_cap6 hh (id := 200) rfl)) ?_
    intro A3 cap3 A4 cap4
    repeat' ((conv => whnf); first | refine walk (Tryd.ok ..) ?_ | (refine Cnd.mk (fun h => ?_) (fun h => ?_) <;> (first | exact cndT h (by omega) | exact cndF h (by omega) | (exfalso; simp only [decide_eq_true_eq, decide_eq_false_iff_not] at h; omega) | (exfalso; simp at h; omega) | simp at h | skip)) | refine And.intro (Kept.mk ?_) ?_ | refine Two.mk (And.intro ?_ ?_) | exact trivial | refine side2 ?_ | refine sideL2 ?_ | refine Or.inr ?_ | refine sat_drawH (Tryd.ok ..) (by kernel_rfl) ?_ | refine Exists.intro [_] (And.intro (one_byte rfl) ?_) | refine Exists.intro [_] (And.intro (fun _ => one_byte rfl) ?_) | refine Exists.intro _ (And.intro (And.intro rfl rfl) ?_) | refine Exists.intro _ (And.intro (fun _ => And.intro rfl rfl) ?_) | refine Exists.intro _ (And.intro rfl ?_))
    refine ⟨⟨.d, y, x % y, A2, c2, A4, cap4⟩, ⟨⟨by dsimp only; omega, by dsimp only; omega, hgc2, Nat.le_of_lt hlt⟩, hlt⟩, ?_, ?_, rfl⟩
    · ((repeat' (first | exact trivial | exact rfl | refine And.intro ?_ ?_)) <;> (try (conv => whnf)) <;> (try simp only [SV.real, SV.r2, SV.r1]))
    · ((repeat' (first | exact trivial | exact rfl | refine And.intro ?_ ?_)) <;> (try (conv => whnf)) <;> (try simp only [SV.real, SV.r2, SV.r1]))
  · have hyx : y ≤ x := hk
    repeat' ((conv => whnf); first | refine walk (Tryd.ok ..) ?_ | (refine Cnd.mk (fun h => ?_) (fun h => ?_) <;> (first | exact cndT h (by omega) | exact cndF h (by omega) | (exfalso; simp only [decide_eq_true_eq, decide_eq_false_iff_not] at h; omega) | (exfalso; simp at h; omega) | simp at h | skip)) | refine And.intro (Kept.mk ?_) ?_ | refine Two.mk (And.intro ?_ ?_) | exact trivial | refine side2 ?_ | refine sideL2 ?_ | refine Or.inr ?_ | refine sat_drawH (Tryd.ok ..) (by kernel_rfl) ?_ | refine Exists.intro [_] (And.intro (one_byte rfl) ?_) | refine Exists.intro [_] (And.intro (fun _ => one_byte rfl) ?_) | refine Exists.intro _ (And.intro (And.intro rfl rfl) ?_) | refine Exists.intro _ (And.intro (fun _ => And.intro rfl rfl) ?_) | refine Exists.intro _ (And.intro rfl ?_))
    refine called_row2 310 301 (m1 := (dg b6 (x / y)).length) (m2 := (dg b6 (x % y)).length) (xs1 := iv (dg b6 (x / y))) (xs2 := iv (dg b6 (x % y))) (fun v u => .tuple #[v, u]) (fun A c A' c' => .t [.o 310 A (dg b6 (x / y)).length c, .o 301 A' (dg b6 (x % y)).length c']) (fun _ _ _ _ => rfl) (fun w' hh => rdiv_any x y A1 A2 c1 c2 w' hyx h0 (ro_of_row hh (id := 301) rfl) (ro_of_row hh (id := 200) rfl) (by omega) (row_cap6 hh (id := 301) rfl)) ?_
    intro A3 cap3 A4 cap4
    repeat' ((conv => whnf); first | refine walk (Tryd.ok ..) ?_ | (refine Cnd.mk (fun h => ?_) (fun h => ?_) <;> (first | exact cndT h (by omega) | exact cndF h (by omega) | (exfalso; simp only [decide_eq_true_eq, decide_eq_false_iff_not] at h; omega) | (exfalso; simp at h; omega) | simp at h | skip)) | refine And.intro (Kept.mk ?_) ?_ | refine Two.mk (And.intro ?_ ?_) | exact trivial | refine side2 ?_ | refine sideL2 ?_ | refine Or.inr ?_ | refine sat_drawH (Tryd.ok ..) (by kernel_rfl) ?_ | refine Exists.intro [_] (And.intro (one_byte rfl) ?_) | refine Exists.intro [_] (And.intro (fun _ => one_byte rfl) ?_) | refine Exists.intro _ (And.intro (And.intro rfl rfl) ?_) | refine Exists.intro _ (And.intro (fun _ => And.intro rfl rfl) ?_) | refine Exists.intro _ (And.intro rfl ?_))
    refine ⟨⟨.c, y, x % y, A2, c2, A4, cap4⟩, ⟨⟨by dsimp only; omega, by dsimp only; omega, hgc2, Nat.le_of_lt hlt⟩, hlt⟩, ?_, ?_, rfl⟩
    · ((repeat' (first | exact trivial | exact rfl | refine And.intro ?_ ?_)) <;> (try (conv => whnf)) <;> (try simp only [SV.real, SV.r2, SV.r1]))
    · ((repeat' (first | exact trivial | exact rfl | refine And.intro ?_ ?_)) <;> (try (conv => whnf)) <;> (try simp only [SV.real, SV.r2, SV.r1]))
set_option maxRecDepth 100000 in
set_option maxHeartbeats 8000000 in
theorem rcommon_lt (x0 y0 : Nat) (X Y : Option (Nat × Nat)) (capX capY : Nat) (w : World) (hx : Ro w X (dg b6 x0).length 1 (iv (dg b6 x0))) (hy : Ro w Y (dg b6 y0).length 1 (iv (dg b6 y0))) (hxl : (dg b6 x0).length ≤ 100000) (hyl : (dg b6 y0).length ≤ 100000) (hcQ : (dg b6 x0).length ≤ capX) (hcP : (dg b6 y0).length ≤ capY) (hord : x0 < y0) :
    Calls Tryd.prog 76 #[.slice (adr X) (dg b6 x0).length capX, .slice (adr Y) (dg b6 y0).length capY] w fun e w' => (e = .returned (.slice (adr Y) (dg b6 y0).length capY) ∧ Nat.gcd x0 y0 = y0 ∧ Below w.heap.size w w') ∨ (e = .returned (.slice (adr X) (dg b6 x0).length capX) ∧ Nat.gcd x0 y0 = x0 ∧ Below w.heap.size w w') ∨ (∃ v, e = .returned v ∧ w'.ownsRow w.heap.size 3 1 v (dg b6 (Nat.gcd x0 y0)).length (iv (dg b6 (Nat.gcd x0 y0))) ∧ Below w.heap.size w w') := by
  obtain ⟨G, hG⟩ : ∃ G, G = Nat.gcd x0 y0 := ⟨_, rfl⟩
  rw [← hG]
  refine calls_sat (cx := Tryd.cx 19 [] [] [] w) (Tryd.ok ..) Tryd.func76 rfl [.o 100 X (dg b6 x0).length capX, .o 101 Y (dg b6 y0).length capY] rfl (by show 2 ≤ 19; omega) [(100, .ro X (dg b6 x0).length 1 (iv (dg b6 x0))), (101, .ro Y (dg b6 y0).length 1 (iv (dg b6 y0)))] (holds_ros rfl rfl ⟨hx, hy, trivial⟩) ?_
  repeat' ((conv => whnf); first | refine walk (Tryd.ok ..) ?_ | (refine Cnd.mk (fun h => ?_) (fun h => ?_) <;> (first | exact cndT h (by omega) | exact cndF h (by omega) | (exfalso; simp only [decide_eq_true_eq, decide_eq_false_iff_not] at h; omega) | (exfalso; simp at h; omega) | simp at h | skip)) | refine And.intro (Kept.mk ?_) ?_ | refine Two.mk (And.intro ?_ ?_) | exact trivial | refine side2 ?_ | refine sideL2 ?_ | refine Or.inr ?_ | refine sat_drawH (Tryd.ok ..) (by kernel_rfl) ?_ | refine Exists.intro [_] (And.intro (one_byte rfl) ?_) | refine Exists.intro [_] (And.intro (fun _ => one_byte rfl) ?_) | refine Exists.intro _ (And.intro (And.intro rfl rfl) ?_) | refine Exists.intro _ (And.intro (fun _ => And.intro rfl rfl) ?_) | refine Exists.intro _ (And.intro rfl ?_))
  refine sat_loop (Tryd.ok ..) (α := CR) (fun s => match s.k with
    | .s => ([(0, .yes, .o 100 X (dg b6 x0).length capX), (1, .yes, .o 101 Y (dg b6 y0).length capY)], [(101, .ro Y (dg b6 y0).length 1 (iv (dg b6 y0))), (100, .ro X (dg b6 x0).length 1 (iv (dg b6 x0)))])
    | .a => ([(0, .yes, .o 101 Y (dg b6 y0).length capY), (1, .yes, .o 100 X (dg b6 x0).length capX)], [(101, .ro Y (dg b6 y0).length 1 (iv (dg b6 y0))), (100, .ro X (dg b6 x0).length 1 (iv (dg b6 x0)))])
    | .b => ([(0, .yes, .o 100 X (dg b6 x0).length capX), (1, .yes, .o 200 s.B (dg b6 s.y).length s.cB)], [(100, .ro X (dg b6 x0).length 1 (iv (dg b6 x0))), (200, .row s.B 3 1 (dg b6 s.y).length s.cB (iv (dg b6 s.y)))])
    | .c => ([(0, .yes, .o 200 s.A (dg b6 s.x).length s.cA), (1, .yes, .o 301 s.B (dg b6 s.y).length s.cB)], [(200, .row s.A 3 1 (dg b6 s.x).length s.cA (iv (dg b6 s.x))), (301, .row s.B 3 1 (dg b6 s.y).length s.cB (iv (dg b6 s.y)))])
    | .d => ([(0, .yes, .o 301 s.A (dg b6 s.x).length s.cA), (1, .yes, .o 200 s.B (dg b6 s.y).length s.cB)], [(301, .row s.A 3 1 (dg b6 s.x).length s.cA (iv (dg b6 s.x))), (200, .row s.B 3 1 (dg b6 s.y).length s.cB (iv (dg b6 s.y)))]))
    (fun s => (dg b6 s.x).length ≤ 100000 ∧ (dg b6 s.y).length ≤ 100000 ∧ Nat.gcd s.x s.y = G ∧ (match s.k with | .s => s.x = x0 ∧ s.y = y0 ∧ s.x < s.y | .a => s.x = y0 ∧ s.y = x0 ∧ s.y ≤ s.x | .b => s.x = x0 ∧ s.y ≤ s.x | _ => s.y ≤ s.x)) (fun s => s.y) (fun s => by cases s with | mk k _ _ _ _ _ _ => cases k <;> rfl) ?_ ?_
  · refine ⟨⟨.s, x0, y0, none, 0, none, 0⟩, ⟨by dsimp only; omega, by dsimp only; omega, hG.symm, rfl, rfl, hord⟩, ?_, ?_, rfl⟩
    all_goals ((repeat' (first | exact trivial | exact rfl | refine And.intro ?_ ?_)) <;> (try (conv => whnf)) <;> (try simp only [SV.real, SV.r2, SV.r1]))
  rintro ⟨k, x, y, A1, c1, A2, c2⟩ ⟨hl1, hl2, hgc, hk⟩
  dsimp only at hl1 hl2 hgc hk
  have hgc2 := (gcd_step6 x y).trans hgc
  have hlm : 0 < y → (dg b6 (x % y)).length ≤ 100000 := fun h => Nat.le_trans (len_le b6_2 (Nat.le_of_lt (Nat.mod_lt x h))) hl2
  rcases Nat.eq_zero_or_pos y with h0 | h0
  · subst h0
    rw [Nat.gcd_zero_right] at hgc
    cases k
    · dsimp only at hk
      omega
    · obtain ⟨e1, e2, _⟩ := hk
      have e3 : dg b6 x0 = [] := by rw [← e2]; rfl
      dsimp only
      rw [e3]
      repeat' ((conv => whnf); first | refine walk (Tryd.ok ..) ?_ | (refine Cnd.mk (fun h => ?_) (fun h => ?_) <;> (first | exact cndT h (by omega) | exact cndF h (by omega) | (exfalso; simp only [decide_eq_true_eq, decide_eq_false_iff_not] at h; omega) | (exfalso; simp at h; omega) | simp at h | skip)) | refine And.intro (Kept.mk ?_) ?_ | refine Two.mk (And.intro ?_ ?_) | exact trivial | refine side2 ?_ | refine sideL2 ?_ | refine Or.inr ?_ | refine sat_drawH (Tryd.ok ..) (by kernel_rfl) ?_ | refine Exists.intro [_] (And.intro (one_byte rfl) ?_) | refine Exists.intro [_] (And.intro (fun _ => one_byte rfl) ?_) | refine Exists.intro _ (And.intro (And.intro rfl rfl) ?_) | refine Exists.intro _ (And.intro (fun _ => And.intro rfl rfl) ?_) | refine Exists.intro _ (And.intro rfl ?_))
      all_goals exact (done_pure (x := .slice (adr Y) (dg b6 y0).length capY) rfl rfl rfl).mono fun e w' hp => .inl ⟨hp.1, by omega, hp.2⟩
    · dsimp only at hk ⊢
      rw [dg_zero]
      repeat' ((conv => whnf); first | refine walk (Tryd.ok ..) ?_ | (refine Cnd.mk (fun h => ?_) (fun h => ?_) <;> (first | exact cndT h (by omega) | exact cndF h (by omega) | (exfalso; simp only [decide_eq_true_eq, decide_eq_false_iff_not] at h; omega) | (exfalso; simp at h; omega) | simp at h | skip)) | refine And.intro (Kept.mk ?_) ?_ | refine Two.mk (And.intro ?_ ?_) | exact trivial | refine side2 ?_ | refine sideL2 ?_ | refine Or.inr ?_ | refine sat_drawH (Tryd.ok ..) (by kernel_rfl) ?_ | refine Exists.intro [_] (And.intro (one_byte rfl) ?_) | refine Exists.intro [_] (And.intro (fun _ => one_byte rfl) ?_) | refine Exists.intro _ (And.intro (And.intro rfl rfl) ?_) | refine Exists.intro _ (And.intro (fun _ => And.intro rfl rfl) ?_) | refine Exists.intro _ (And.intro rfl ?_))
      exact (done_pure (x := .slice (adr X) (dg b6 x0).length capX) rfl rfl rfl).mono fun e w' hp => .inr (.inl ⟨hp.1, by omega, hp.2⟩)
    · dsimp only at hk ⊢
      rw [dg_zero]
      repeat' ((conv => whnf); first | refine walk (Tryd.ok ..) ?_ | (refine Cnd.mk (fun h => ?_) (fun h => ?_) <;> (first | exact cndT h (by omega) | exact cndF h (by omega) | (exfalso; simp only [decide_eq_true_eq, decide_eq_false_iff_not] at h; omega) | (exfalso; simp at h; omega) | simp at h | skip)) | refine And.intro (Kept.mk ?_) ?_ | refine Two.mk (And.intro ?_ ?_) | exact trivial | refine side2 ?_ | refine sideL2 ?_ | refine Or.inr ?_ | refine sat_drawH (Tryd.ok ..) (by kernel_rfl) ?_ | refine Exists.intro [_] (And.intro (one_byte rfl) ?_) | refine Exists.intro [_] (And.intro (fun _ => one_byte rfl) ?_) | refine Exists.intro _ (And.intro (And.intro rfl rfl) ?_) | refine Exists.intro _ (And.intro (fun _ => And.intro rfl rfl) ?_) | refine Exists.intro _ (And.intro rfl ?_))
      subst hgc
      exact (done_row (mk := fun v => v) rfl rfl 200 A1 c1 rfl rfl).mono fun e w' hp => .inr (.inr hp)
    · dsimp only at hk ⊢
      rw [dg_zero]
      repeat' ((conv => whnf); first | refine walk (Tryd.ok ..) ?_ | (refine Cnd.mk (fun h => ?_) (fun h => ?_) <;> (first | exact cndT h (by omega) | exact cndF h (by omega) | (exfalso; simp only [decide_eq_true_eq, decide_eq_false_iff_not] at h; omega) | (exfalso; simp at h; omega) | simp at h | skip)) | refine And.intro (Kept.mk ?_) ?_ | refine Two.mk (And.intro ?_ ?_) | exact trivial | refine side2 ?_ | refine sideL2 ?_ | refine Or.inr ?_ | refine sat_drawH (Tryd.ok ..) (by kernel_rfl) ?_ | refine Exists.intro [_] (And.intro (one_byte rfl) ?_) | refine Exists.intro [_] (And.intro (fun _ => one_byte rfl) ?_) | refine Exists.intro _ (And.intro (And.intro rfl rfl) ?_) | refine Exists.intro _ (And.intro (fun _ => And.intro rfl rfl) ?_) | refine Exists.intro _ (And.intro rfl ?_))
      subst hgc
      exact (done_row (mk := fun v => v) rfl rfl 301 A1 c1 rfl rfl).mono fun e w' hp => .inr (.inr hp)
  have hlm := hlm h0
  have hlt := Nat.mod_lt x h0
  have hyp : 0 < (dg b6 y).length := (lt_len (s := y) (i := 0) b6_2).2 (by rw [Nat.pow_zero, Nat.div_one]; exact h0)
  cases k
  · obtain ⟨e1, e2, hlt2⟩ := hk
    subst e1
    subst e2
    repeat' ((conv => whnf); first | refine walk (Tryd.ok ..) ?_ | (refine Cnd.mk (fun h => ?_) (fun h => ?_) <;> (first | exact cndT h (by omega) | exact cndF h (by omega) | (exfalso; simp only [decide_eq_true_eq, decide_eq_false_iff_not] at h; omega) | (exfalso; simp at h; omega) | simp at h | skip)) | refine And.intro (Kept.mk ?_) ?_ | refine Two.mk (And.intro ?_ ?_) | exact trivial | refine side2 ?_ | refine sideL2 ?_ | refine Or.inr ?_ | refine sat_drawH (Tryd.ok ..) (by kernel_rfl) ?_ | refine Exists.intro [_] (And.intro (one_byte rfl) ?_) | refine Exists.intro [_] (And.intro (fun _ => one_byte rfl) ?_) | refine Exists.intro _ (And.intro (And.intro rfl rfl) ?_) | refine Exists.intro _ (And.intro (fun _ => And.intro rfl rfl) ?_) | refine Exists.intro _ (And.intro rfl ?_))
    refine called_at (.t [.v (.slice none 0 0), .o 100 X (dg b6 x).length capX]) rfl (fun w' hh => by exact rdiv_less x y X Y capX capY w' hlt2 (ro_of_ro hh (id := 100) rfl) (ro_of_ro hh (id := 101) rfl) (by omega) (by omega)) ?_
    repeat' ((conv => whnf); first | refine walk (Tryd.ok ..) ?_ | (refine Cnd.mk (fun h => ?_) (fun h => ?_) <;> (first | exact cndT h (by omega) | exact cndF h (by omega) | (exfalso; simp only [decide_eq_true_eq, decide_eq_false_iff_not] at h; omega) | (exfalso; simp at h; omega) | simp at h | skip)) | refine And.intro (Kept.mk ?_) ?_ | refine Two.mk (And.intro ?_ ?_) | exact trivial | refine side2 ?_ | refine sideL2 ?_ | refine Or.inr ?_ | refine sat_drawH (Tryd.ok ..) (by kernel_rfl) ?_ | refine Exists.intro [_] (And.intro (one_byte rfl) ?_) | refine Exists.intro [_] (And.intro (fun _ => one_byte rfl) ?_) | refine Exists.intro _ (And.intro (And.intro rfl rfl) ?_) | refine Exists.intro _ (And.intro (fun _ => And.intro rfl rfl) ?_) | refine Exists.intro _ (And.intro rfl ?_))
    refine ⟨⟨.a, y, x, none, 0, none, 0⟩, ⟨⟨by dsimp only; omega, by dsimp only; omega, (Nat.gcd_comm y x).trans hgc, rfl, rfl, Nat.le_of_lt hlt2⟩, hlt2⟩, ?_, ?_, rfl⟩
    · ((repeat' (first | exact trivial | exact rfl | refine And.intro ?_ ?_)) <;> (try (conv => whnf)) <;> (try simp only [SV.real, SV.r2, SV.r1]))
    · ((repeat' (first | exact trivial | exact rfl | refine And.intro ?_ ?_)) <;> (try (conv => whnf)) <;> (try simp only [SV.real, SV.r2, SV.r1]))
  · obtain ⟨e1, e2, hyx⟩ := hk
    subst e1
    subst e2
    repeat' ((conv => whnf); first | refine walk (Tryd.ok ..) ?_ | (refine Cnd.mk (fun h => ?_) (fun h => ?_) <;> (first | exact cndT h (by omega) | exact cndF h (by omega) | (exfalso; simp only [decide_eq_true_eq, decide_eq_false_iff_not] at h; omega) | (exfalso; simp at h; omega) | simp at h | skip)) | refine And.intro (Kept.mk ?_) ?_ | refine Two.mk (And.intro ?_ ?_) | exact trivial | refine side2 ?_ | refine sideL2 ?_ | refine Or.inr ?_ | refine sat_drawH (Tryd.ok ..) (by kernel_rfl) ?_ | refine Exists.intro [_] (And.intro (one_byte rfl) ?_) | refine Exists.intro [_] (And.intro (fun _ => one_byte rfl) ?_) | refine Exists.intro _ (And.intro (And.intro rfl rfl) ?_) | refine Exists.intro _ (And.intro (fun _ => And.intro rfl rfl) ?_) | refine Exists.intro _ (And.intro rfl ?_))
    refine called_row2 310 200 (m1 := (dg b6 (x / y)).length) (m2 := (dg b6 (x % y)).length) (xs1 := iv (dg b6 (x / y))) (xs2 := iv (dg b6 (x % y))) (fun v u => .tuple #[v, u]) (fun A c A' c' => .t [.o 310 A (dg b6 (x / y)).length c, .o 200 A' (dg b6 (x % y)).length c']) (fun _ _ _ _ => rfl) (fun w' hh => rdiv_any x y Y X capY capX w' hyx h0 (ro_of_ro hh (id := 101) rfl) (ro_of_ro hh (id := 100) rfl) (by omega) hcP) ?_
    intro A3 cap3 A4 cap4
    repeat' ((conv => whnf); first | refine walk (Tryd.ok ..) ?_ | (refine Cnd.mk (fun h => ?_) (fun h => ?_) <;> (first | exact cndT h (by omega) | exact cndF h (by omega) | (exfalso; simp only [decide_eq_true_eq, decide_eq_false_iff_not] at h; omega) | (exfalso; simp at h; omega) | simp at h | skip)) | refine And.intro (Kept.mk ?_) ?_ | refine Two.mk (And.intro ?_ ?_) | exact trivial | refine side2 ?_ | refine sideL2 ?_ | refine Or.inr ?_ | refine sat_drawH (Tryd.ok ..) (by kernel_rfl) ?_ | refine Exists.intro [_] (And.intro (one_byte rfl) ?_) | refine Exists.intro [_] (And.intro (fun _ => one_byte rfl) ?_) | refine Exists.intro _ (And.intro (And.intro rfl rfl) ?_) | refine Exists.intro _ (And.intro (fun _ => And.intro rfl rfl) ?_) | refine Exists.intro _ (And.intro rfl ?_))
    refine ⟨⟨.b, y, x % y, none, 0, A4, cap4⟩, ⟨⟨by dsimp only; omega, by dsimp only; omega, hgc2, ⟨rfl, Nat.le_of_lt hlt⟩⟩, hlt⟩, ?_, ?_, rfl⟩
    · ((repeat' (first | exact trivial | exact rfl | refine And.intro ?_ ?_)) <;> (try (conv => whnf)) <;> (try simp only [SV.real, SV.r2, SV.r1]))
    · ((repeat' (first | exact trivial | exact rfl | refine And.intro ?_ ?_)) <;> (try (conv => whnf)) <;> (try simp only [SV.real, SV.r2, SV.r1]))
  · obtain ⟨e1, hyx⟩ := hk
    subst e1
    repeat' ((conv => whnf); first | refine walk (Tryd.ok ..) ?_ | (refine Cnd.mk (fun h => ?_) (fun h => ?_) <;> (first | exact cndT h (by omega) | exact cndF h (by omega) | (exfalso; simp only [decide_eq_true_eq, decide_eq_false_iff_not] at h; omega) | (exfalso; simp at h; omega) | simp at h | skip)) | refine And.intro (Kept.mk ?_) ?_ | refine Two.mk (And.intro ?_ ?_) | exact trivial | refine side2 ?_ | refine sideL2 ?_ | refine Or.inr ?_ | refine sat_drawH (Tryd.ok ..) (by kernel_rfl) ?_ | refine Exists.intro [_] (And.intro (one_byte rfl) ?_) | refine Exists.intro [_] (And.intro (fun _ => one_byte rfl) ?_) | refine Exists.intro _ (And.intro (And.intro rfl rfl) ?_) | refine Exists.intro _ (And.intro (fun _ => And.intro rfl rfl) ?_) | refine Exists.intro _ (And.intro rfl ?_))
    refine called_row2 310 301 (m1 := (dg b6 (x / y)).length) (m2 := (dg b6 (x % y)).length) (xs1 := iv (dg b6 (x / y))) (xs2 := iv (dg b6 (x % y))) (fun v u => .tuple #[v, u]) (fun A c A' c' => .t [.o 310 A (dg b6 (x / y)).length c, .o 301 A' (dg b6 (x % y)).length c']) (fun _ _ _ _ => rfl) (fun w' hh => rdiv_any x y X A2 capX c2 w' hyx h0 (ro_of_ro hh (id := 100) rfl) (ro_of_row hh (id := 200) rfl) (by omega) hcQ) ?_
    intro A3 cap3 A4 cap4
    repeat' ((conv => whnf); first | refine walk (Tryd.ok ..) ?_ | (refine Cnd.mk (fun h => ?_) (fun h => ?_) <;> (first | exact cndT h (by omega) | exact cndF h (by omega) | (exfalso; simp only [decide_eq_true_eq, decide_eq_false_iff_not] at h; omega) | (exfalso; simp at h; omega) | simp at h | skip)) | refine And.intro (Kept.mk ?_) ?_ | refine Two.mk (And.intro ?_ ?_) | exact trivial | refine side2 ?_ | refine sideL2 ?_ | refine Or.inr ?_ | refine sat_drawH (Tryd.ok ..) (by kernel_rfl) ?_ | refine Exists.intro [_] (And.intro (one_byte rfl) ?_) | refine Exists.intro [_] (And.intro (fun _ => one_byte rfl) ?_) | refine Exists.intro _ (And.intro (And.intro rfl rfl) ?_) | refine Exists.intro _ (And.intro (fun _ => And.intro rfl rfl) ?_) | refine Exists.intro _ (And.intro rfl ?_))
    refine ⟨⟨.c, y, x % y, A2, c2, A4, cap4⟩, ⟨⟨by dsimp only; omega, by dsimp only; omega, hgc2, Nat.le_of_lt hlt⟩, hlt⟩, ?_, ?_, rfl⟩
    · ((repeat' (first | exact trivial | exact rfl | refine And.intro ?_ ?_)) <;> (try (conv => whnf)) <;> (try simp only [SV.real, SV.r2, SV.r1]))
    · ((repeat' (first | exact trivial | exact rfl | refine And.intro ?_ ?_)) <;> (try (conv => whnf)) <;> (try simp only [SV.real, SV.r2, SV.r1]))
  · have hyx : y ≤ x := hk
    repeat' ((conv => whnf); first | refine walk (Tryd.ok ..) ?_ | (refine Cnd.mk (fun h => ?_) (fun h => ?_) <;> (first | exact cndT h (by omega) | exact cndF h (by omega) | (exfalso; simp only [decide_eq_true_eq, decide_eq_false_iff_not] at h; omega) | (exfalso; simp at h; omega) | simp at h | skip)) | refine And.intro (Kept.mk ?_) ?_ | refine Two.mk (And.intro ?_ ?_) | exact trivial | refine side2 ?_ | refine sideL2 ?_ | refine Or.inr ?_ | refine sat_drawH (Tryd.ok ..) (by kernel_rfl) ?_ | refine Exists.intro [_] (And.intro (one_byte rfl) ?_) | refine Exists.intro [_] (And.intro (fun _ => one_byte rfl) ?_) | refine Exists.intro _ (And.intro (And.intro rfl rfl) ?_) | refine Exists.intro _ (And.intro (fun _ => And.intro rfl rfl) ?_) | refine Exists.intro _ (And.intro rfl ?_))
    refine called_row2 310 200 (m1 := (dg b6 (x / y)).length) (m2 := (dg b6 (x % y)).length) (xs1 := iv (dg b6 (x / y))) (xs2 := iv (dg b6 (x % y))) (fun v u => .tuple #[v, u]) (fun A c A' c' => .t [.o 310 A (dg b6 (x / y)).length c, .o 200 A' (dg b6 (x % y)).length c']) (fun _ _ _ _ => rfl) (fun w' hh => rdiv_any x y A1 A2 c1 c2 w' hyx h0 (ro_of_row hh (id := 200) rfl) (ro_of_row hh (id := 301) rfl) (by omega) (row_cap6 hh (id := 200) rfl)) ?_
    intro A3 cap3 A4 cap4
    repeat' ((conv => whnf); first | refine walk (Tryd.ok ..) ?_ | (refine Cnd.mk (fun h => ?_) (fun h => ?_) <;> (first | exact cndT h (by omega) | exact cndF h (by omega) | (exfalso; simp only [decide_eq_true_eq, decide_eq_false_iff_not] at h; omega) | (exfalso; simp at h; omega) | simp at h | skip)) | refine And.intro (Kept.mk ?_) ?_ | refine Two.mk (And.intro ?_ ?_) | exact trivial | refine side2 ?_ | refine sideL2 ?_ | refine Or.inr ?_ | refine sat_drawH (Tryd.ok ..) (by kernel_rfl) ?_ | refine Exists.intro [_] (And.intro (one_byte rfl) ?_) | refine Exists.intro [_] (And.intro (fun _ => one_byte rfl) ?_) | refine Exists.intro _ (And.intro (And.intro rfl rfl) ?_) | refine Exists.intro _ (And.intro (fun _ => And.intro rfl rfl) ?_) | refine Exists.intro _ (And.intro rfl ?_))
    refine ⟨⟨.d, y, x % y, A2, c2, A4, cap4⟩, ⟨⟨by dsimp only; omega, by dsimp only; omega, hgc2, Nat.le_of_lt hlt⟩, hlt⟩, ?_, ?_, rfl⟩
    · ((repeat' (first | exact trivial | exact rfl | refine And.intro ?_ ?_)) <;> (try (conv => whnf)) <;> (try simp only [SV.real, SV.r2, SV.r1]))
    · ((repeat' (first | exact trivial | exact rfl | refine And.intro ?_ ?_)) <;> (try (conv => whnf)) <;> (try simp only [SV.real, SV.r2, SV.r1]))
  · have hyx : y ≤ x := hk
    repeat' ((conv => whnf); first | refine walk (Tryd.ok ..) ?_ | (refine Cnd.mk (fun h => ?_) (fun h => ?_) <;> (first | exact cndT h (by omega) | exact cndF h (by omega) | (exfalso; simp only [decide_eq_true_eq, decide_eq_false_iff_not] at h; omega) | (exfalso; simp at h; omega) | simp at h | skip)) | refine And.intro (Kept.mk ?_) ?_ | refine Two.mk (And.intro ?_ ?_) | exact trivial | refine side2 ?_ | refine sideL2 ?_ | refine Or.inr ?_ | refine sat_drawH (Tryd.ok ..) (by kernel_rfl) ?_ | refine Exists.intro [_] (And.intro (one_byte rfl) ?_) | refine Exists.intro [_] (And.intro (fun _ => one_byte rfl) ?_) | refine Exists.intro _ (And.intro (And.intro rfl rfl) ?_) | refine Exists.intro _ (And.intro (fun _ => And.intro rfl rfl) ?_) | refine Exists.intro _ (And.intro rfl ?_))
    refine called_row2 310 301 (m1 := (dg b6 (x / y)).length) (m2 := (dg b6 (x % y)).length) (xs1 := iv (dg b6 (x / y))) (xs2 := iv (dg b6 (x % y))) (fun v u => .tuple #[v, u]) (fun A c A' c' => .t [.o 310 A (dg b6 (x / y)).length c, .o 301 A' (dg b6 (x % y)).length c']) (fun _ _ _ _ => rfl) (fun w' hh => rdiv_any x y A1 A2 c1 c2 w' hyx h0 (ro_of_row hh (id := 301) rfl) (ro_of_row hh (id := 200) rfl) (by omega) (row_cap6 hh (id := 301) rfl)) ?_
    intro A3 cap3 A4 cap4
    repeat' ((conv => whnf); first | refine walk (Tryd.ok ..) ?_ | (refine Cnd.mk (fun h => ?_) (fun h => ?_) <;> (first | exact cndT h (by omega) | exact cndF h (by omega) | (exfalso; simp only [decide_eq_true_eq, decide_eq_false_iff_not] at h; omega) | (exfalso; simp at h; omega) | simp at h | skip)) | refine And.intro (Kept.mk ?_) ?_ | refine Two.mk (And.intro ?_ ?_) | exact trivial | refine side2 ?_ | refine sideL2 ?_ | refine Or.inr ?_ | refine sat_drawH (Tryd.ok ..) (by kernel_rfl) ?_ | refine Exists.intro [_] (And.intro (one_byte rfl) ?_) | refine Exists.intro [_] (And.intro (fun _ => one_byte rfl) ?_) | refine Exists.intro _ (And.intro (And.intro rfl rfl) ?_) | refine Exists.intro _ (And.intro (fun _ => And.intro rfl rfl) ?_) | refine Exists.intro _ (And.intro rfl ?_))
    refine ⟨⟨.c, y, x % y, A2, c2, A4, cap4⟩, ⟨⟨by dsimp only; omega, by dsimp only; omega, hgc2, Nat.le_of_lt hlt⟩, hlt⟩, ?_, ?_, rfl⟩
    · ((repeat' (first | exact trivial | exact rfl | refine And.intro ?_ ?_)) <;> (try (conv => whnf)) <;> (try simp only [SV.real, SV.r2, SV.r1]))
    · ((repeat' (first | exact trivial | exact rfl | refine And.intro ?_ ?_)) <;> (try (conv => whnf)) <;> (try simp only [SV.real, SV.r2, SV.r1]))
end Go.Proofs.YtlkhafpkcfdlcaaDoor
