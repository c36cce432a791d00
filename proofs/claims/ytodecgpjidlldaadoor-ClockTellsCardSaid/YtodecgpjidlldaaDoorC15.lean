/-
  The walk of the clock package: when a calendar is open.
-/
import Derived.Test.YtodecgpjidlldaaDoorC15D
namespace Go.Proofs.YtodecgpjidlldaaDoor
open Go Sat Go.RowKit Go.PlainAid
set_option linter.unusedSimpArgs false
set_option linter.unusedVariables false
structure SnS where
  m : Nat
  q : Int
  ci : Nat
  cl : SV
  A : Option (Nat × Nat)
  cap : Nat
/-- what is left of the closed spans -/
def ClOk (c : List Sp) (B : Option (Nat × Nat)) (cB : Nat) (cl : SV) (ci : Nat) : Prop :=
  (c.length = 0 ∧ ci = 0 ∧ cl = .o 301 B 0 cB) ∨ ∃ (p : Nat × Nat) (off n cap' : Nat), B = some p ∧ cl = .s 301 p.1 p.2 off n cap' ∧ n + ci = c.length ∧ (0 < n → off = ci * 2) ∧ n ≤ cap'
set_option maxRecDepth 100000 in
set_option maxHeartbeats 8000000 in
theorem spans_any (l c : List Sp) (A B : Option (Nat × Nat)) (cA cB : Nat) (a b : Int) (w : World) (hA : Ro w A l.length 2 (sps l)) (hB : Ro w B c.length 2 (sps c)) (hl : l.length ≤ 4611686018427387903) (hc : c.length ≤ 4611686018427387903) (hcB : c.length ≤ cB) :
    Calls Tryd.prog 31 #[.agg #[.slice (adr A) l.length cA, .slice (adr B) c.length cB], .int .i64 a, .int .i64 b] w fun e w' => ∃ v, e = .returned (.tuple #[v, .int .i64 (snE l c a b)]) ∧ w'.ownsRow w.heap.size 52 2 v (snL l c a b).length (sps (snL l c a b)) ∧ Below w.heap.size w w' := by
  refine calls_sat (cx := Tryd.cx 94 [4, 7, 9, 10] [2] [] w) (Tryd.ok ..) Tryd.func31 rfl [.a [.o 300 A l.length cA, .o 301 B c.length cB], .v (.int .i64 a), .v (.int .i64 b)] rfl (by show 3 ≤ 94; omega) [(300, .ro A l.length 2 (sps l)), (301, .ro B c.length 2 (sps c))] (holds_ros rfl rfl ⟨hA, hB, trivial⟩) ?_
  obtain ⟨p, hp⟩ : ∃ p, p = calOk l c := ⟨_, rfl⟩
  obtain ⟨q, hq⟩ : ∃ q, q = orderedB a b := ⟨_, rfl⟩
  repeat' ((conv => whnf); first
    | refine walk (Tryd.ok ..) ?_
    | refine walk (COk.with_ (Tryd.ok ..) _ _) ?_
    | refine walk (COk.with_ (COk.with_ (Tryd.ok ..) _ _) _ _) ?_
    | (refine Cnd.mk (fun h => ?_) (fun h => ?_) <;> (first | (exfalso; simp only [decide_eq_true_eq, decide_eq_false_iff_not, Bool.not_eq_true', Bool.not_eq_false'] at h; omega) | (exfalso; simp at h; omega) | simp at h | skip))
    | refine And.intro (Kept.mk ?_) ?_
    | refine Two.mk (And.intro ?_ ?_)
    | exact trivial
    | refine side2 ?_
    | refine sideL2 ?_
    | refine Or.inr ?_
    | refine sat_drawH (Tryd.ok ..) (by kernel_rfl) ?_
    | refine sat_drawH (COk.with_ (Tryd.ok ..) _ _) (by kernel_rfl) ?_
    | refine sat_drawH (COk.with_ (COk.with_ (Tryd.ok ..) _ _) _ _) (by kernel_rfl) ?_
    | refine Exists.intro [_] (And.intro (one_byte rfl) ?_)
    | refine Exists.intro [_] (And.intro (fun _ => one_byte rfl) ?_)
    | refine Exists.intro _ (And.intro (And.intro rfl rfl) ?_)
    | refine Exists.intro _ (And.intro (fun _ => And.intro rfl rfl) ?_)
    | refine Exists.intro _ (And.intro rfl ?_))
  intro g3 hg3
  repeat' ((conv => whnf); first
    | refine walk (Tryd.ok ..) ?_
    | refine walk (COk.with_ (Tryd.ok ..) _ _) ?_
    | refine walk (COk.with_ (COk.with_ (Tryd.ok ..) _ _) _ _) ?_
    | (refine Cnd.mk (fun h => ?_) (fun h => ?_) <;> (first | (exfalso; simp only [decide_eq_true_eq, decide_eq_false_iff_not, Bool.not_eq_true', Bool.not_eq_false'] at h; omega) | (exfalso; simp at h; omega) | simp at h | skip))
    | refine And.intro (Kept.mk ?_) ?_
    | refine Two.mk (And.intro ?_ ?_)
    | exact trivial
    | refine side2 ?_
    | refine sideL2 ?_
    | refine Or.inr ?_
    | refine sat_drawH (Tryd.ok ..) (by kernel_rfl) ?_
    | refine sat_drawH (COk.with_ (Tryd.ok ..) _ _) (by kernel_rfl) ?_
    | refine sat_drawH (COk.with_ (COk.with_ (Tryd.ok ..) _ _) _ _) (by kernel_rfl) ?_
    | refine Exists.intro [_] (And.intro (one_byte rfl) ?_)
    | refine Exists.intro [_] (And.intro (fun _ => one_byte rfl) ?_)
    | refine Exists.intro _ (And.intro (And.intro rfl rfl) ?_)
    | refine Exists.intro _ (And.intro (fun _ => And.intro rfl rfl) ?_)
    | refine Exists.intro _ (And.intro rfl ?_))
  intro g4 hg4
  repeat' ((conv => whnf); first
    | refine walk (Tryd.ok ..) ?_
    | refine walk (COk.with_ (Tryd.ok ..) _ _) ?_
    | refine walk (COk.with_ (COk.with_ (Tryd.ok ..) _ _) _ _) ?_
    | (refine Cnd.mk (fun h => ?_) (fun h => ?_) <;> (first | (exfalso; simp only [decide_eq_true_eq, decide_eq_false_iff_not, Bool.not_eq_true', Bool.not_eq_false'] at h; omega) | (exfalso; simp at h; omega) | simp at h | skip))
    | refine And.intro (Kept.mk ?_) ?_
    | refine Two.mk (And.intro ?_ ?_)
    | exact trivial
    | refine side2 ?_
    | refine sideL2 ?_
    | refine Or.inr ?_
    | refine sat_drawH (Tryd.ok ..) (by kernel_rfl) ?_
    | refine sat_drawH (COk.with_ (Tryd.ok ..) _ _) (by kernel_rfl) ?_
    | refine sat_drawH (COk.with_ (COk.with_ (Tryd.ok ..) _ _) _ _) (by kernel_rfl) ?_
    | refine Exists.intro [_] (And.intro (one_byte rfl) ?_)
    | refine Exists.intro [_] (And.intro (fun _ => one_byte rfl) ?_)
    | refine Exists.intro _ (And.intro (And.intro rfl rfl) ?_)
    | refine Exists.intro _ (And.intro (fun _ => And.intro rfl rfl) ?_)
    | refine Exists.intro _ (And.intro rfl ?_))
  intro g5 hg5
  repeat' ((conv => whnf); first
    | refine walk (Tryd.ok ..) ?_
    | refine walk (COk.with_ (Tryd.ok ..) _ _) ?_
    | refine walk (COk.with_ (COk.with_ (Tryd.ok ..) _ _) _ _) ?_
    | (refine Cnd.mk (fun h => ?_) (fun h => ?_) <;> (first | (exfalso; simp only [decide_eq_true_eq, decide_eq_false_iff_not, Bool.not_eq_true', Bool.not_eq_false'] at h; omega) | (exfalso; simp at h; omega) | simp at h | skip))
    | refine And.intro (Kept.mk ?_) ?_
    | refine Two.mk (And.intro ?_ ?_)
    | exact trivial
    | refine side2 ?_
    | refine sideL2 ?_
    | refine Or.inr ?_
    | refine sat_drawH (Tryd.ok ..) (by kernel_rfl) ?_
    | refine sat_drawH (COk.with_ (Tryd.ok ..) _ _) (by kernel_rfl) ?_
    | refine sat_drawH (COk.with_ (COk.with_ (Tryd.ok ..) _ _) _ _) (by kernel_rfl) ?_
    | refine Exists.intro [_] (And.intro (one_byte rfl) ?_)
    | refine Exists.intro [_] (And.intro (fun _ => one_byte rfl) ?_)
    | refine Exists.intro _ (And.intro (And.intro rfl rfl) ?_)
    | refine Exists.intro _ (And.intro (fun _ => And.intro rfl rfl) ?_)
    | refine Exists.intro _ (And.intro rfl ?_))
  refine called_at (.v (.bool p)) rfl (fun w' hh => by rw [hp]; exact right_any l c A B cA cB w' (ro_of_ro hh (id := 300) rfl) (ro_of_ro hh (id := 301) rfl) (by omega) (by omega)) ?_
  repeat' ((conv => whnf); first
    | refine walk (Tryd.ok ..) ?_
    | refine walk (COk.with_ (Tryd.ok ..) _ _) ?_
    | refine walk (COk.with_ (COk.with_ (Tryd.ok ..) _ _) _ _) ?_
    | (refine Cnd.mk (fun h => ?_) (fun h => ?_) <;> (first | (exfalso; simp only [decide_eq_true_eq, decide_eq_false_iff_not, Bool.not_eq_true', Bool.not_eq_false'] at h; omega) | (exfalso; simp at h; omega) | simp at h | skip))
    | refine And.intro (Kept.mk ?_) ?_
    | refine Two.mk (And.intro ?_ ?_)
    | exact trivial
    | refine side2 ?_
    | refine sideL2 ?_
    | refine Or.inr ?_
    | refine sat_drawH (Tryd.ok ..) (by kernel_rfl) ?_
    | refine sat_drawH (COk.with_ (Tryd.ok ..) _ _) (by kernel_rfl) ?_
    | refine sat_drawH (COk.with_ (COk.with_ (Tryd.ok ..) _ _) _ _) (by kernel_rfl) ?_
    | refine Exists.intro [_] (And.intro (one_byte rfl) ?_)
    | refine Exists.intro [_] (And.intro (fun _ => one_byte rfl) ?_)
    | refine Exists.intro _ (And.intro (And.intro rfl rfl) ?_)
    | refine Exists.intro _ (And.intro (fun _ => And.intro rfl rfl) ?_)
    | refine Exists.intro _ (And.intro rfl ?_))
  refine calledQ_pure (.v (.bool q)) rfl (fun _ w' => by rw [hq]; exact ordered_any a b w') ?_
  repeat' ((conv => whnf); first
    | refine walk (Tryd.ok ..) ?_
    | refine walk (COk.with_ (Tryd.ok ..) _ _) ?_
    | refine walk (COk.with_ (COk.with_ (Tryd.ok ..) _ _) _ _) ?_
    | (refine Cnd.mk (fun h => ?_) (fun h => ?_) <;> (first | (exfalso; simp only [decide_eq_true_eq, decide_eq_false_iff_not, Bool.not_eq_true', Bool.not_eq_false'] at h; omega) | (exfalso; simp at h; omega) | simp at h | skip))
    | refine And.intro (Kept.mk ?_) ?_
    | refine Two.mk (And.intro ?_ ?_)
    | exact trivial
    | refine side2 ?_
    | refine sideL2 ?_
    | refine Or.inr ?_
    | refine sat_drawH (Tryd.ok ..) (by kernel_rfl) ?_
    | refine sat_drawH (COk.with_ (Tryd.ok ..) _ _) (by kernel_rfl) ?_
    | refine sat_drawH (COk.with_ (COk.with_ (Tryd.ok ..) _ _) _ _) (by kernel_rfl) ?_
    | refine Exists.intro [_] (And.intro (one_byte rfl) ?_)
    | refine Exists.intro [_] (And.intro (fun _ => one_byte rfl) ?_)
    | refine Exists.intro _ (And.intro (And.intro rfl rfl) ?_)
    | refine Exists.intro _ (And.intro (fun _ => And.intro rfl rfl) ?_)
    | refine Exists.intro _ (And.intro rfl ?_))
  · obtain ⟨h1, h2⟩ := sn_no (l := l) (c := c) (a := a) (b := b) (by
      unfold snOk
      rw [← hp, ← hq]
      rcases h with h | h <;> rw [h] <;> simp)
    rw [h1, h2]
    exact done_nil (mk := fun v => .tuple #[v, .int .i64 2]) rfl rfl rfl
  have hyes : snOk l c a b = true := by
    unfold snOk
    rw [← hp, ← hq, h.1, h.2]
    rfl
  have hcal : calOk l c = true := hp ▸ h.1
  obtain ⟨okl, okc, nl, nc, _, _⟩ := cal_ok hcal
  have hw := cal_week hcal
  obtain ⟨⟨a0, a1⟩, ⟨b0, b1⟩, hab⟩ := ord_of (hq ▸ h.2)
  obtain ⟨i, hi⟩ : ∃ i, i = bhN c a := ⟨_, rfl⟩
  have hbh := bhN_is okc a
  rw [← hi] at hbh
  have hile := hbh.le
  intro g8 hg8
  repeat' ((conv => whnf); first
    | refine walk (Tryd.ok ..) ?_
    | refine walk (COk.with_ (Tryd.ok ..) _ _) ?_
    | refine walk (COk.with_ (COk.with_ (Tryd.ok ..) _ _) _ _) ?_
    | (refine Cnd.mk (fun h => ?_) (fun h => ?_) <;> (first | (exfalso; simp only [decide_eq_true_eq, decide_eq_false_iff_not, Bool.not_eq_true', Bool.not_eq_false'] at h; omega) | (exfalso; simp at h; omega) | simp at h | skip))
    | refine And.intro (Kept.mk ?_) ?_
    | refine Two.mk (And.intro ?_ ?_)
    | exact trivial
    | refine side2 ?_
    | refine sideL2 ?_
    | refine Or.inr ?_
    | refine Exists.intro [_] (And.intro (one_byte rfl) ?_)
    | refine Exists.intro [_] (And.intro (fun _ => one_byte rfl) ?_)
    | refine Exists.intro _ (And.intro (And.intro rfl rfl) ?_)
    | refine Exists.intro _ (And.intro (fun _ => And.intro rfl rfl) ?_)
    | refine Exists.intro _ (And.intro rfl ?_))
  refine sat_join (α := SV × Nat) (fun s => ([(4, .yes, .p 4 g4 0 0), (5, .yes, .p 5 g5 0 0), (3, .yes, .p 3 g3 0 0), (8, .yes, .p 8 g8 0 0), (9, .yes, .p 9 s.2 0 0)],
      [(3, .blk g3 49 [.o 300 A l.length cA, .o 301 B c.length cB]), (4, .blk g4 3 [.v (.int .i64 a)]), (5, .blk g5 3 [.v (.int .i64 b)]), (8, .blk g8 81 [.v (.slice none 0 0)]), (9, .blk s.2 31 [s.1]), (300, .ro A l.length 2 (sps l)), (301, .ro B c.length 2 (sps c))])) (fun s => ClOk c B cB s.1 i) (fun _ => rfl) ?_ ?_
  · refine sat_drawH (Tryd.ok ..) (by kernel_rfl) ?_
    rcases Nat.eq_zero_or_pos c.length with hc0 | hc0
    · have hi0 : i = 0 := by omega
      repeat' ((conv => whnf); first
        | refine walk (Tryd.ok ..) ?_
        | refine walk (COk.with_ (Tryd.ok ..) _ _) ?_
        | refine walk (COk.with_ (COk.with_ (Tryd.ok ..) _ _) _ _) ?_
        | (refine Cnd.mk (fun h => ?_) (fun h => ?_) <;> (first | (exfalso; simp only [decide_eq_true_eq, decide_eq_false_iff_not, Bool.not_eq_true', Bool.not_eq_false'] at h; omega) | (exfalso; simp at h; omega) | simp at h | skip))
        | refine And.intro (Kept.mk ?_) ?_
        | refine Two.mk (And.intro ?_ ?_)
        | exact trivial
        | refine side2 ?_
        | refine sideL2 ?_
        | refine Or.inr ?_
        | refine sat_drawH (Tryd.ok ..) (by kernel_rfl) ?_
        | refine sat_drawH (COk.with_ (Tryd.ok ..) _ _) (by kernel_rfl) ?_
        | refine sat_drawH (COk.with_ (COk.with_ (Tryd.ok ..) _ _) _ _) (by kernel_rfl) ?_
        | refine Exists.intro [_] (And.intro (one_byte rfl) ?_)
        | refine Exists.intro [_] (And.intro (fun _ => one_byte rfl) ?_)
        | refine Exists.intro _ (And.intro (And.intro rfl rfl) ?_)
        | refine Exists.intro _ (And.intro (fun _ => And.intro rfl rfl) ?_)
        | refine Exists.intro _ (And.intro rfl ?_))
      · refine called_at (.v (.int .i64 i)) rfl (fun w' hh => by rw [hi]; exact behind_any c B cB a w' (ro_of_ro hh (id := 301) rfl) hc okc) ?_
        repeat' ((conv => whnf); first
          | refine walk (Tryd.ok ..) ?_
          | refine walk (COk.with_ (Tryd.ok ..) _ _) ?_
          | refine walk (COk.with_ (COk.with_ (Tryd.ok ..) _ _) _ _) ?_
          | (refine Cnd.mk (fun h => ?_) (fun h => ?_) <;> (first | (exfalso; simp only [decide_eq_true_eq, decide_eq_false_iff_not, Bool.not_eq_true', Bool.not_eq_false'] at h; omega) | (exfalso; simp at h; omega) | simp at h | skip))
          | refine And.intro (Kept.mk ?_) ?_
          | refine Two.mk (And.intro ?_ ?_)
          | exact trivial
          | refine side2 ?_
          | refine sideL2 ?_
          | refine Or.inr ?_
          | refine sat_drawH (Tryd.ok ..) (by kernel_rfl) ?_
          | refine sat_drawH (COk.with_ (Tryd.ok ..) _ _) (by kernel_rfl) ?_
          | refine sat_drawH (COk.with_ (COk.with_ (Tryd.ok ..) _ _) _ _) (by kernel_rfl) ?_
          | refine Exists.intro [_] (And.intro (one_byte rfl) ?_)
          | refine Exists.intro [_] (And.intro (fun _ => one_byte rfl) ?_)
          | refine Exists.intro _ (And.intro (And.intro rfl rfl) ?_)
          | refine Exists.intro _ (And.intro (fun _ => And.intro rfl rfl) ?_)
          | refine Exists.intro _ (And.intro rfl ?_))
        intro g9 hg9
        repeat' ((conv => whnf); first
          | refine walk (Tryd.ok ..) ?_
          | refine walk (COk.with_ (Tryd.ok ..) _ _) ?_
          | refine walk (COk.with_ (COk.with_ (Tryd.ok ..) _ _) _ _) ?_
          | (refine Cnd.mk (fun h => ?_) (fun h => ?_) <;> (first | (exfalso; simp only [decide_eq_true_eq, decide_eq_false_iff_not, Bool.not_eq_true', Bool.not_eq_false'] at h; omega) | (exfalso; simp at h; omega) | simp at h | skip))
          | refine And.intro (Kept.mk ?_) ?_
          | refine Two.mk (And.intro ?_ ?_)
          | exact trivial
          | refine side2 ?_
          | refine sideL2 ?_
          | refine Or.inr ?_
          | refine sat_drawH (Tryd.ok ..) (by kernel_rfl) ?_
          | refine sat_drawH (COk.with_ (Tryd.ok ..) _ _) (by kernel_rfl) ?_
          | refine sat_drawH (COk.with_ (COk.with_ (Tryd.ok ..) _ _) _ _) (by kernel_rfl) ?_
          | refine Exists.intro [_] (And.intro (one_byte rfl) ?_)
          | refine Exists.intro [_] (And.intro (fun _ => one_byte rfl) ?_)
          | refine Exists.intro _ (And.intro (And.intro rfl rfl) ?_)
          | refine Exists.intro _ (And.intro (fun _ => And.intro rfl rfl) ?_)
          | refine Exists.intro _ (And.intro rfl ?_))
        refine ⟨(.o 301 B 0 cB, g9), .inl ⟨hc0, hi0, rfl⟩, ?_, ?_, rfl⟩
        · ((repeat' (first | exact trivial | exact rfl | refine And.intro ?_ ?_)) <;> (try (conv => whnf)) <;> (try simp only [SV.real, SV.r2, SV.r1]))
        · dsimp only
          rw [show ((c.length : Int)).toNat = 0 by omega]
          ((repeat' (first | exact trivial | exact rfl | refine And.intro ?_ ?_)) <;> (try (conv => whnf)) <;> (try simp only [SV.real, SV.r2, SV.r1]))
      · intro g9 hg9
        repeat' ((conv => whnf); first
          | refine walk (Tryd.ok ..) ?_
          | refine walk (COk.with_ (Tryd.ok ..) _ _) ?_
          | refine walk (COk.with_ (COk.with_ (Tryd.ok ..) _ _) _ _) ?_
          | (refine Cnd.mk (fun h => ?_) (fun h => ?_) <;> (first | (exfalso; simp only [decide_eq_true_eq, decide_eq_false_iff_not, Bool.not_eq_true', Bool.not_eq_false'] at h; omega) | (exfalso; simp at h; omega) | simp at h | skip))
          | refine And.intro (Kept.mk ?_) ?_
          | refine Two.mk (And.intro ?_ ?_)
          | exact trivial
          | refine side2 ?_
          | refine sideL2 ?_
          | refine Or.inr ?_
          | refine sat_drawH (Tryd.ok ..) (by kernel_rfl) ?_
          | refine sat_drawH (COk.with_ (Tryd.ok ..) _ _) (by kernel_rfl) ?_
          | refine sat_drawH (COk.with_ (COk.with_ (Tryd.ok ..) _ _) _ _) (by kernel_rfl) ?_
          | refine Exists.intro [_] (And.intro (one_byte rfl) ?_)
          | refine Exists.intro [_] (And.intro (fun _ => one_byte rfl) ?_)
          | refine Exists.intro _ (And.intro (And.intro rfl rfl) ?_)
          | refine Exists.intro _ (And.intro (fun _ => And.intro rfl rfl) ?_)
          | refine Exists.intro _ (And.intro rfl ?_))
        refine called_at (.v (.int .i64 i)) rfl (fun w' hh => by rw [hi]; exact behind_any c B cB a w' (ro_of_ro hh (id := 301) rfl) hc okc) ?_
        repeat' ((conv => whnf); first
          | refine walk (Tryd.ok ..) ?_
          | refine walk (COk.with_ (Tryd.ok ..) _ _) ?_
          | refine walk (COk.with_ (COk.with_ (Tryd.ok ..) _ _) _ _) ?_
          | (refine Cnd.mk (fun h => ?_) (fun h => ?_) <;> (first | (exfalso; simp only [decide_eq_true_eq, decide_eq_false_iff_not, Bool.not_eq_true', Bool.not_eq_false'] at h; omega) | (exfalso; simp at h; omega) | simp at h | skip))
          | refine And.intro (Kept.mk ?_) ?_
          | refine Two.mk (And.intro ?_ ?_)
          | exact trivial
          | refine side2 ?_
          | refine sideL2 ?_
          | refine Or.inr ?_
          | refine sat_drawH (Tryd.ok ..) (by kernel_rfl) ?_
          | refine sat_drawH (COk.with_ (Tryd.ok ..) _ _) (by kernel_rfl) ?_
          | refine sat_drawH (COk.with_ (COk.with_ (Tryd.ok ..) _ _) _ _) (by kernel_rfl) ?_
          | refine Exists.intro [_] (And.intro (one_byte rfl) ?_)
          | refine Exists.intro [_] (And.intro (fun _ => one_byte rfl) ?_)
          | refine Exists.intro _ (And.intro (And.intro rfl rfl) ?_)
          | refine Exists.intro _ (And.intro (fun _ => And.intro rfl rfl) ?_)
          | refine Exists.intro _ (And.intro rfl ?_))
        refine ⟨(.o 301 B 0 cB, g9), .inl ⟨hc0, hi0, rfl⟩, ?_, ?_, rfl⟩
        · ((repeat' (first | exact trivial | exact rfl | refine And.intro ?_ ?_)) <;> (try (conv => whnf)) <;> (try simp only [SV.real, SV.r2, SV.r1]))
        · dsimp only
          rw [show ((c.length : Int)).toNat = 0 by omega]
          ((repeat' (first | exact trivial | exact rfl | refine And.intro ?_ ?_)) <;> (try (conv => whnf)) <;> (try simp only [SV.real, SV.r2, SV.r1]))
    · obtain ⟨pB, rfl, _, _⟩ := hB.2 hc0
      repeat' ((conv => whnf); first
        | refine walk (Tryd.ok ..) ?_
        | refine walk (COk.with_ (Tryd.ok ..) _ _) ?_
        | refine walk (COk.with_ (COk.with_ (Tryd.ok ..) _ _) _ _) ?_
        | (refine Cnd.mk (fun h => ?_) (fun h => ?_) <;> (first | (exfalso; simp only [decide_eq_true_eq, decide_eq_false_iff_not, Bool.not_eq_true', Bool.not_eq_false'] at h; omega) | (exfalso; simp at h; omega) | simp at h | skip))
        | refine And.intro (Kept.mk ?_) ?_
        | refine Two.mk (And.intro ?_ ?_)
        | exact trivial
        | refine side2 ?_
        | refine sideL2 ?_
        | refine Or.inr ?_
        | refine sat_drawH (Tryd.ok ..) (by kernel_rfl) ?_
        | refine sat_drawH (COk.with_ (Tryd.ok ..) _ _) (by kernel_rfl) ?_
        | refine sat_drawH (COk.with_ (COk.with_ (Tryd.ok ..) _ _) _ _) (by kernel_rfl) ?_
        | refine Exists.intro [_] (And.intro (one_byte rfl) ?_)
        | refine Exists.intro [_] (And.intro (fun _ => one_byte rfl) ?_)
        | refine Exists.intro _ (And.intro (And.intro rfl rfl) ?_)
        | refine Exists.intro _ (And.intro (fun _ => And.intro rfl rfl) ?_)
        | refine Exists.intro _ (And.intro rfl ?_))
      · refine called_at (.v (.int .i64 i)) rfl (fun w' hh => by rw [hi]; exact behind_any c (some pB) cB a w' (ro_of_ro hh (id := 301) rfl) hc okc) ?_
        repeat' ((conv => whnf); first
          | refine walk (Tryd.ok ..) ?_
          | refine walk (COk.with_ (Tryd.ok ..) _ _) ?_
          | refine walk (COk.with_ (COk.with_ (Tryd.ok ..) _ _) _ _) ?_
          | (refine Cnd.mk (fun h => ?_) (fun h => ?_) <;> (first | (exfalso; simp only [decide_eq_true_eq, decide_eq_false_iff_not, Bool.not_eq_true', Bool.not_eq_false'] at h; omega) | (exfalso; simp at h; omega) | simp at h | skip))
          | refine And.intro (Kept.mk ?_) ?_
          | refine Two.mk (And.intro ?_ ?_)
          | exact trivial
          | refine side2 ?_
          | refine sideL2 ?_
          | refine Or.inr ?_
          | refine sat_drawH (Tryd.ok ..) (by kernel_rfl) ?_
          | refine sat_drawH (COk.with_ (Tryd.ok ..) _ _) (by kernel_rfl) ?_
          | refine sat_drawH (COk.with_ (COk.with_ (Tryd.ok ..) _ _) _ _) (by kernel_rfl) ?_
          | refine Exists.intro [_] (And.intro (one_byte rfl) ?_)
          | refine Exists.intro [_] (And.intro (fun _ => one_byte rfl) ?_)
          | refine Exists.intro _ (And.intro (And.intro rfl rfl) ?_)
          | refine Exists.intro _ (And.intro (fun _ => And.intro rfl rfl) ?_)
          | refine Exists.intro _ (And.intro rfl ?_))
        refine And.intro ⟨by omega, by omega, by omega, rfl⟩ ?_
        repeat' ((conv => whnf); first
          | refine walk (Tryd.ok ..) ?_
          | refine walk (COk.with_ (Tryd.ok ..) _ _) ?_
          | refine walk (COk.with_ (COk.with_ (Tryd.ok ..) _ _) _ _) ?_
          | (refine Cnd.mk (fun h => ?_) (fun h => ?_) <;> (first | (exfalso; simp only [decide_eq_true_eq, decide_eq_false_iff_not, Bool.not_eq_true', Bool.not_eq_false'] at h; omega) | (exfalso; simp at h; omega) | simp at h | skip))
          | refine And.intro (Kept.mk ?_) ?_
          | refine Two.mk (And.intro ?_ ?_)
          | exact trivial
          | refine side2 ?_
          | refine sideL2 ?_
          | refine Or.inr ?_
          | refine sat_drawH (Tryd.ok ..) (by kernel_rfl) ?_
          | refine sat_drawH (COk.with_ (Tryd.ok ..) _ _) (by kernel_rfl) ?_
          | refine sat_drawH (COk.with_ (COk.with_ (Tryd.ok ..) _ _) _ _) (by kernel_rfl) ?_
          | refine Exists.intro [_] (And.intro (one_byte rfl) ?_)
          | refine Exists.intro [_] (And.intro (fun _ => one_byte rfl) ?_)
          | refine Exists.intro _ (And.intro (And.intro rfl rfl) ?_)
          | refine Exists.intro _ (And.intro (fun _ => And.intro rfl rfl) ?_)
          | refine Exists.intro _ (And.intro rfl ?_))
        intro g9 hg9
        repeat' ((conv => whnf); first
          | refine walk (Tryd.ok ..) ?_
          | refine walk (COk.with_ (Tryd.ok ..) _ _) ?_
          | refine walk (COk.with_ (COk.with_ (Tryd.ok ..) _ _) _ _) ?_
          | (refine Cnd.mk (fun h => ?_) (fun h => ?_) <;> (first | (exfalso; simp only [decide_eq_true_eq, decide_eq_false_iff_not, Bool.not_eq_true', Bool.not_eq_false'] at h; omega) | (exfalso; simp at h; omega) | simp at h | skip))
          | refine And.intro (Kept.mk ?_) ?_
          | refine Two.mk (And.intro ?_ ?_)
          | exact trivial
          | refine side2 ?_
          | refine sideL2 ?_
          | refine Or.inr ?_
          | refine sat_drawH (Tryd.ok ..) (by kernel_rfl) ?_
          | refine sat_drawH (COk.with_ (Tryd.ok ..) _ _) (by kernel_rfl) ?_
          | refine sat_drawH (COk.with_ (COk.with_ (Tryd.ok ..) _ _) _ _) (by kernel_rfl) ?_
          | refine Exists.intro [_] (And.intro (one_byte rfl) ?_)
          | refine Exists.intro [_] (And.intro (fun _ => one_byte rfl) ?_)
          | refine Exists.intro _ (And.intro (And.intro rfl rfl) ?_)
          | refine Exists.intro _ (And.intro (fun _ => And.intro rfl rfl) ?_)
          | refine Exists.intro _ (And.intro rfl ?_))
        refine ⟨(.s 301 pB.1 pB.2 (if cB = ((i : Int)).toNat then 0 else mulS ((i : Int)).toNat 2) (c.length - i) (cB - ((i : Int)).toNat), g9), .inr ⟨pB, _, _, _, rfl, rfl, by omega, fun h => ?_, by omega⟩, ?_, ?_, rfl⟩
        · rw [if_neg (by omega), mulS_eq, Int.toNat_natCast]
        · ((repeat' (first | exact trivial | exact rfl | refine And.intro ?_ ?_)) <;> (try (conv => whnf)) <;> (try simp only [SV.real, SV.r2, SV.r1]))
        · dsimp only
          rw [show c.length - i = ((c.length : Int) - (i : Int)).toNat by omega]
          ((repeat' (first | exact trivial | exact rfl | refine And.intro ?_ ?_)) <;> (try (conv => whnf)) <;> (try simp only [SV.real, SV.r2, SV.r1]))
      · intro g9 hg9
        repeat' ((conv => whnf); first
          | refine walk (Tryd.ok ..) ?_
          | refine walk (COk.with_ (Tryd.ok ..) _ _) ?_
          | refine walk (COk.with_ (COk.with_ (Tryd.ok ..) _ _) _ _) ?_
          | (refine Cnd.mk (fun h => ?_) (fun h => ?_) <;> (first | (exfalso; simp only [decide_eq_true_eq, decide_eq_false_iff_not, Bool.not_eq_true', Bool.not_eq_false'] at h; omega) | (exfalso; simp at h; omega) | simp at h | skip))
          | refine And.intro (Kept.mk ?_) ?_
          | refine Two.mk (And.intro ?_ ?_)
          | exact trivial
          | refine side2 ?_
          | refine sideL2 ?_
          | refine Or.inr ?_
          | refine sat_drawH (Tryd.ok ..) (by kernel_rfl) ?_
          | refine sat_drawH (COk.with_ (Tryd.ok ..) _ _) (by kernel_rfl) ?_
          | refine sat_drawH (COk.with_ (COk.with_ (Tryd.ok ..) _ _) _ _) (by kernel_rfl) ?_
          | refine Exists.intro [_] (And.intro (one_byte rfl) ?_)
          | refine Exists.intro [_] (And.intro (fun _ => one_byte rfl) ?_)
          | refine Exists.intro _ (And.intro (And.intro rfl rfl) ?_)
          | refine Exists.intro _ (And.intro (fun _ => And.intro rfl rfl) ?_)
          | refine Exists.intro _ (And.intro rfl ?_))
        refine called_at (.v (.int .i64 i)) rfl (fun w' hh => by rw [hi]; exact behind_any c (some pB) cB a w' (ro_of_ro hh (id := 301) rfl) hc okc) ?_
        repeat' ((conv => whnf); first
          | refine walk (Tryd.ok ..) ?_
          | refine walk (COk.with_ (Tryd.ok ..) _ _) ?_
          | refine walk (COk.with_ (COk.with_ (Tryd.ok ..) _ _) _ _) ?_
          | (refine Cnd.mk (fun h => ?_) (fun h => ?_) <;> (first | (exfalso; simp only [decide_eq_true_eq, decide_eq_false_iff_not, Bool.not_eq_true', Bool.not_eq_false'] at h; omega) | (exfalso; simp at h; omega) | simp at h | skip))
          | refine And.intro (Kept.mk ?_) ?_
          | refine Two.mk (And.intro ?_ ?_)
          | exact trivial
          | refine side2 ?_
          | refine sideL2 ?_
          | refine Or.inr ?_
          | refine sat_drawH (Tryd.ok ..) (by kernel_rfl) ?_
          | refine sat_drawH (COk.with_ (Tryd.ok ..) _ _) (by kernel_rfl) ?_
          | refine sat_drawH (COk.with_ (COk.with_ (Tryd.ok ..) _ _) _ _) (by kernel_rfl) ?_
          | refine Exists.intro [_] (And.intro (one_byte rfl) ?_)
          | refine Exists.intro [_] (And.intro (fun _ => one_byte rfl) ?_)
          | refine Exists.intro _ (And.intro (And.intro rfl rfl) ?_)
          | refine Exists.intro _ (And.intro (fun _ => And.intro rfl rfl) ?_)
          | refine Exists.intro _ (And.intro rfl ?_))
        refine And.intro ⟨by omega, by omega, by omega, rfl⟩ ?_
        repeat' ((conv => whnf); first
          | refine walk (Tryd.ok ..) ?_
          | refine walk (COk.with_ (Tryd.ok ..) _ _) ?_
          | refine walk (COk.with_ (COk.with_ (Tryd.ok ..) _ _) _ _) ?_
          | (refine Cnd.mk (fun h => ?_) (fun h => ?_) <;> (first | (exfalso; simp only [decide_eq_true_eq, decide_eq_false_iff_not, Bool.not_eq_true', Bool.not_eq_false'] at h; omega) | (exfalso; simp at h; omega) | simp at h | skip))
          | refine And.intro (Kept.mk ?_) ?_
          | refine Two.mk (And.intro ?_ ?_)
          | exact trivial
          | refine side2 ?_
          | refine sideL2 ?_
          | refine Or.inr ?_
          | refine sat_drawH (Tryd.ok ..) (by kernel_rfl) ?_
          | refine sat_drawH (COk.with_ (Tryd.ok ..) _ _) (by kernel_rfl) ?_
          | refine sat_drawH (COk.with_ (COk.with_ (Tryd.ok ..) _ _) _ _) (by kernel_rfl) ?_
          | refine Exists.intro [_] (And.intro (one_byte rfl) ?_)
          | refine Exists.intro [_] (And.intro (fun _ => one_byte rfl) ?_)
          | refine Exists.intro _ (And.intro (And.intro rfl rfl) ?_)
          | refine Exists.intro _ (And.intro (fun _ => And.intro rfl rfl) ?_)
          | refine Exists.intro _ (And.intro rfl ?_))
        refine ⟨(.s 301 pB.1 pB.2 (if cB = ((i : Int)).toNat then 0 else mulS ((i : Int)).toNat 2) (c.length - i) (cB - ((i : Int)).toNat), g9), .inr ⟨pB, _, _, _, rfl, rfl, by omega, fun h => ?_, by omega⟩, ?_, ?_, rfl⟩
        · rw [if_neg (by omega), mulS_eq, Int.toNat_natCast]
        · ((repeat' (first | exact trivial | exact rfl | refine And.intro ?_ ?_)) <;> (try (conv => whnf)) <;> (try simp only [SV.real, SV.r2, SV.r1]))
        · dsimp only
          rw [show c.length - i = ((c.length : Int) - (i : Int)).toNat by omega]
          ((repeat' (first | exact trivial | exact rfl | refine And.intro ?_ ?_)) <;> (try (conv => whnf)) <;> (try simp only [SV.real, SV.r2, SV.r1]))
  rintro ⟨cl, g9⟩ hcl
  dsimp only at hcl
  repeat' ((conv => whnf); first
    | refine walk (Tryd.ok ..) ?_
    | refine walk (COk.with_ (Tryd.ok ..) _ _) ?_
    | refine walk (COk.with_ (COk.with_ (Tryd.ok ..) _ _) _ _) ?_
    | (refine Cnd.mk (fun h => ?_) (fun h => ?_) <;> (first | (exfalso; simp only [decide_eq_true_eq, decide_eq_false_iff_not, Bool.not_eq_true', Bool.not_eq_false'] at h; omega) | (exfalso; simp at h; omega) | simp at h | skip))
    | refine And.intro (Kept.mk ?_) ?_
    | refine Two.mk (And.intro ?_ ?_)
    | exact trivial
    | refine side2 ?_
    | refine sideL2 ?_
    | refine Or.inr ?_
    | refine sat_drawH (Tryd.ok ..) (by kernel_rfl) ?_
    | refine sat_drawH (COk.with_ (Tryd.ok ..) _ _) (by kernel_rfl) ?_
    | refine sat_drawH (COk.with_ (COk.with_ (Tryd.ok ..) _ _) _ _) (by kernel_rfl) ?_
    | refine Exists.intro [_] (And.intro (one_byte rfl) ?_)
    | refine Exists.intro [_] (And.intro (fun _ => one_byte rfl) ?_)
    | refine Exists.intro _ (And.intro (And.intro rfl rfl) ?_)
    | refine Exists.intro _ (And.intro (fun _ => And.intro rfl rfl) ?_)
    | refine Exists.intro _ (And.intro rfl ?_))
  refine called_in (Tryd.ok ..) Tryd.func64 rfl (by show 2 ≤ 6; omega) ?_
  repeat' ((conv => whnf); first
    | refine walk (Tryd.ok ..) ?_
    | refine walk (COk.with_ (Tryd.ok ..) _ _) ?_
    | refine walk (COk.with_ (COk.with_ (Tryd.ok ..) _ _) _ _) ?_
    | (refine Cnd.mk (fun h => ?_) (fun h => ?_) <;> (first | (exfalso; simp only [decide_eq_true_eq, decide_eq_false_iff_not, Bool.not_eq_true', Bool.not_eq_false'] at h; omega) | (exfalso; simp at h; omega) | simp at h | skip))
    | refine And.intro (Kept.mk ?_) ?_
    | refine Two.mk (And.intro ?_ ?_)
    | exact trivial
    | refine side2 ?_
    | refine sideL2 ?_
    | refine Or.inr ?_
    | refine sat_drawH (Tryd.ok ..) (by kernel_rfl) ?_
    | refine sat_drawH (COk.with_ (Tryd.ok ..) _ _) (by kernel_rfl) ?_
    | refine sat_drawH (COk.with_ (COk.with_ (Tryd.ok ..) _ _) _ _) (by kernel_rfl) ?_
    | refine Exists.intro [_] (And.intro (one_byte rfl) ?_)
    | refine Exists.intro [_] (And.intro (fun _ => one_byte rfl) ?_)
    | refine Exists.intro _ (And.intro (And.intro rfl rfl) ?_)
    | refine Exists.intro _ (And.intro (fun _ => And.intro rfl rfl) ?_)
    | refine Exists.intro _ (And.intro rfl ?_))
  intro g2 hg2
  repeat' ((conv => whnf); first
    | refine walk (Tryd.ok ..) ?_
    | refine walk (COk.with_ (Tryd.ok ..) _ _) ?_
    | refine walk (COk.with_ (COk.with_ (Tryd.ok ..) _ _) _ _) ?_
    | (refine Cnd.mk (fun h => ?_) (fun h => ?_) <;> (first | (exfalso; simp only [decide_eq_true_eq, decide_eq_false_iff_not, Bool.not_eq_true', Bool.not_eq_false'] at h; omega) | (exfalso; simp at h; omega) | simp at h | skip))
    | refine And.intro (Kept.mk ?_) ?_
    | refine Two.mk (And.intro ?_ ?_)
    | exact trivial
    | refine side2 ?_
    | refine sideL2 ?_
    | refine Or.inr ?_
    | refine sat_drawH (Tryd.ok ..) (by kernel_rfl) ?_
    | refine sat_drawH (COk.with_ (Tryd.ok ..) _ _) (by kernel_rfl) ?_
    | refine sat_drawH (COk.with_ (COk.with_ (Tryd.ok ..) _ _) _ _) (by kernel_rfl) ?_
    | refine Exists.intro [_] (And.intro (one_byte rfl) ?_)
    | refine Exists.intro [_] (And.intro (fun _ => one_byte rfl) ?_)
    | refine Exists.intro _ (And.intro (And.intro rfl rfl) ?_)
    | refine Exists.intro _ (And.intro (fun _ => And.intro rfl rfl) ?_)
    | refine Exists.intro _ (And.intro rfl ?_))
  intro g3b hg3b
  repeat' ((conv => whnf); first
    | refine walk (Tryd.ok ..) ?_
    | refine walk (COk.with_ (Tryd.ok ..) _ _) ?_
    | refine walk (COk.with_ (COk.with_ (Tryd.ok ..) _ _) _ _) ?_
    | (refine Cnd.mk (fun h => ?_) (fun h => ?_) <;> (first | (exfalso; simp only [decide_eq_true_eq, decide_eq_false_iff_not, Bool.not_eq_true', Bool.not_eq_false'] at h; omega) | (exfalso; simp at h; omega) | simp at h | skip))
    | refine And.intro (Kept.mk ?_) ?_
    | refine Two.mk (And.intro ?_ ?_)
    | exact trivial
    | refine side2 ?_
    | refine sideL2 ?_
    | refine Or.inr ?_
    | refine sat_drawH (Tryd.ok ..) (by kernel_rfl) ?_
    | refine sat_drawH (COk.with_ (Tryd.ok ..) _ _) (by kernel_rfl) ?_
    | refine sat_drawH (COk.with_ (COk.with_ (Tryd.ok ..) _ _) _ _) (by kernel_rfl) ?_
    | refine Exists.intro [_] (And.intro (one_byte rfl) ?_)
    | refine Exists.intro [_] (And.intro (fun _ => one_byte rfl) ?_)
    | refine Exists.intro _ (And.intro (And.intro rfl rfl) ?_)
    | refine Exists.intro _ (And.intro (fun _ => And.intro rfl rfl) ?_)
    | refine Exists.intro _ (And.intro rfl ?_))
  refine done_in ?_
  repeat' ((conv => whnf); first
    | refine walk (Tryd.ok ..) ?_
    | refine walk (COk.with_ (Tryd.ok ..) _ _) ?_
    | refine walk (COk.with_ (COk.with_ (Tryd.ok ..) _ _) _ _) ?_
    | (refine Cnd.mk (fun h => ?_) (fun h => ?_) <;> (first | (exfalso; simp only [decide_eq_true_eq, decide_eq_false_iff_not, Bool.not_eq_true', Bool.not_eq_false'] at h; omega) | (exfalso; simp at h; omega) | simp at h | skip))
    | refine And.intro (Kept.mk ?_) ?_
    | refine Two.mk (And.intro ?_ ?_)
    | exact trivial
    | refine side2 ?_
    | refine sideL2 ?_
    | refine Or.inr ?_
    | refine sat_drawH (Tryd.ok ..) (by kernel_rfl) ?_
    | refine sat_drawH (COk.with_ (Tryd.ok ..) _ _) (by kernel_rfl) ?_
    | refine sat_drawH (COk.with_ (COk.with_ (Tryd.ok ..) _ _) _ _) (by kernel_rfl) ?_
    | refine Exists.intro [_] (And.intro (one_byte rfl) ?_)
    | refine Exists.intro [_] (And.intro (fun _ => one_byte rfl) ?_)
    | refine Exists.intro _ (And.intro (And.intro rfl rfl) ?_)
    | refine Exists.intro _ (And.intro (fun _ => And.intro rfl rfl) ?_)
    | refine Exists.intro _ (And.intro rfl ?_))
  intro D L hD hL
  repeat' ((conv => whnf); first
    | refine walk (Tryd.ok ..) ?_
    | refine walk (COk.with_ (Tryd.ok ..) _ _) ?_
    | refine walk (COk.with_ (COk.with_ (Tryd.ok ..) _ _) _ _) ?_
    | (refine Cnd.mk (fun h => ?_) (fun h => ?_) <;> (first | (exfalso; simp only [decide_eq_true_eq, decide_eq_false_iff_not, Bool.not_eq_true', Bool.not_eq_false'] at h; omega) | (exfalso; simp at h; omega) | simp at h | skip))
    | refine And.intro (Kept.mk ?_) ?_
    | refine Two.mk (And.intro ?_ ?_)
    | exact trivial
    | refine side2 ?_
    | refine sideL2 ?_
    | refine Or.inr ?_
    | refine sat_drawH (Tryd.ok ..) (by kernel_rfl) ?_
    | refine sat_drawH (COk.with_ (Tryd.ok ..) _ _) (by kernel_rfl) ?_
    | refine sat_drawH (COk.with_ (COk.with_ (Tryd.ok ..) _ _) _ _) (by kernel_rfl) ?_
    | refine Exists.intro [_] (And.intro (one_byte rfl) ?_)
    | refine Exists.intro [_] (And.intro (fun _ => one_byte rfl) ?_)
    | refine Exists.intro _ (And.intro (And.intro rfl rfl) ?_)
    | refine Exists.intro _ (And.intro (fun _ => And.intro rfl rfl) ?_)
    | refine Exists.intro _ (And.intro rfl ?_))
  generalize hB : HB.lp _ _ _ _ _ _ _ _ _ = BB
  refine called_in (Tryd.ok ..) Tryd.func82 rfl (by show 3 ≤ 33; omega) ?_
  repeat' ((conv => whnf); first
    | refine walk (Tryd.ok ..) ?_
    | refine walk (COk.with_ (Tryd.ok ..) _ _) ?_
    | refine walk (COk.with_ (COk.with_ (Tryd.ok ..) _ _) _ _) ?_
    | (refine Cnd.mk (fun h => ?_) (fun h => ?_) <;> (first | (exfalso; simp only [decide_eq_true_eq, decide_eq_false_iff_not, Bool.not_eq_true', Bool.not_eq_false'] at h; omega) | (exfalso; simp at h; omega) | simp at h | skip))
    | refine And.intro (Kept.mk ?_) ?_
    | refine Two.mk (And.intro ?_ ?_)
    | exact trivial
    | refine side2 ?_
    | refine sideL2 ?_
    | refine Or.inr ?_
    | refine sat_drawH (Tryd.ok ..) (by kernel_rfl) ?_
    | refine sat_drawH (COk.with_ (Tryd.ok ..) _ _) (by kernel_rfl) ?_
    | refine sat_drawH (COk.with_ (COk.with_ (Tryd.ok ..) _ _) _ _) (by kernel_rfl) ?_
    | refine Exists.intro [_] (And.intro (one_byte rfl) ?_)
    | refine Exists.intro [_] (And.intro (fun _ => one_byte rfl) ?_)
    | refine Exists.intro _ (And.intro (And.intro rfl rfl) ?_)
    | refine Exists.intro _ (And.intro (fun _ => And.intro rfl rfl) ?_)
    | refine Exists.intro _ (And.intro rfl ?_))
  have hm0 : 0 ≤ a / 10080 := Int.ediv_nonneg a0 (by omega)
  have hgrow : ∀ q, (toldAt (opn l c) a b q).length ≤ 100000000 := fun q => by
    have := runs_grow (opn l c) a (clip a b q - a).toNat
    unfold toldAt
    unfold clip at this ⊢
    omega
  refine sat_loop (COk.with_ (Tryd.ok ..) _ _) (α := SnS) (fun s => ([(0, .yes, .v (.func (.yield L) #[] #[])), (1, .yes, .p 3 g3b 0 0), (2, .yes, .p 2 g2 0 0), (4, .yes, .v (.int .i64 (10080 * s.m)))],
      [(1000000, .dfr D), (1000001, BB), (2, .blk g2 31 [.o 300 A l.length cA]), (3, .blk g3b 3 [.v (.int .i64 a)]), (8, .blk g8 81 [.o 80 s.A (toldAt (opn l c) a b s.q).length s.cap]), (80, .row s.A 52 2 (toldAt (opn l c) a b s.q).length s.cap (sps (toldAt (opn l c) a b s.q))), (9, .blk g9 31 [s.cl]), (4, .blk g4 3 [.v (.int .i64 a)]), (5, .blk g5 3 [.v (.int .i64 b)]), (300, .ro A l.length 2 (sps l)), (301, .ro B c.length 2 (sps c))])) (fun s => s.m ≤ 20000 ∧ Inn l c a b (beg l s.m 0) s.q s.ci ∧ ClOk c B cB s.cl s.ci) (fun s => 20001 - s.m) (fun _ => rfl) ?_ ?_
  · have hin := sn_first (to := b) okl hw a0 hbh
    have htb : toldAt (opn l c) a b (10080 * (a / 10080)) = [] := toldAt_begin hab (by omega)
    refine ⟨⟨(a / 10080).toNat, 10080 * (a / 10080), i, cl, none, 0⟩, ⟨by dsimp only; omega, by dsimp only; rw [show ((a / 10080).toNat : Int) = a / 10080 by omega]; exact hin, hcl⟩, ?_, ?_, rfl⟩
    · dsimp only
      rw [show (10080 : Int) * ((a / 10080).toNat : Int) = a / 10080 * 10080 by omega]
      ((repeat' (first | exact trivial | exact rfl | refine And.intro ?_ ?_)) <;> (try (conv => whnf)) <;> (try simp only [SV.real, SV.r2, SV.r1]))
    · dsimp only
      rw [htb]
      ((repeat' (first | exact trivial | exact rfl | refine And.intro ?_ ?_)) <;> (try (conv => whnf)) <;> (try simp only [SV.real, SV.r2, SV.r1]))
      all_goals exact heq_refl _
  rintro ⟨m, q, ci, cl, A1, cap1⟩ ⟨m1, hI, hcl⟩
  dsimp only at m1 hI hcl
  by_cases hm : 10080 * (m : Int) ≤ 100000000
  · repeat' ((conv => whnf); first
      | refine walk (Tryd.ok ..) ?_
      | refine walk (COk.with_ (Tryd.ok ..) _ _) ?_
      | refine walk (COk.with_ (COk.with_ (Tryd.ok ..) _ _) _ _) ?_
      | (refine Cnd.mk (fun h => ?_) (fun h => ?_) <;> (first | (exfalso; simp only [decide_eq_true_eq, decide_eq_false_iff_not, Bool.not_eq_true', Bool.not_eq_false'] at h; omega) | (exfalso; simp at h; omega) | simp at h | skip))
      | refine And.intro (Kept.mk ?_) ?_
      | refine Two.mk (And.intro ?_ ?_)
      | exact trivial
      | refine side2 ?_
      | refine sideL2 ?_
      | refine Or.inr ?_
      | refine sat_drawH (Tryd.ok ..) (by kernel_rfl) ?_
      | refine sat_drawH (COk.with_ (Tryd.ok ..) _ _) (by kernel_rfl) ?_
      | refine sat_drawH (COk.with_ (COk.with_ (Tryd.ok ..) _ _) _ _) (by kernel_rfl) ?_
      | refine Exists.intro [_] (And.intro (one_byte rfl) ?_)
      | refine Exists.intro [_] (And.intro (fun _ => one_byte rfl) ?_)
      | refine Exists.intro _ (And.intro (And.intro rfl rfl) ?_)
      | refine Exists.intro _ (And.intro (fun _ => And.intro rfl rfl) ?_)
      | refine Exists.intro _ (And.intro rfl ?_))
    refine sat_block ?_
    repeat' ((conv => whnf); first
      | refine walk (Tryd.ok ..) ?_
      | refine walk (COk.with_ (Tryd.ok ..) _ _) ?_
      | refine walk (COk.with_ (COk.with_ (Tryd.ok ..) _ _) _ _) ?_
      | (refine Cnd.mk (fun h => ?_) (fun h => ?_) <;> (first | (exfalso; simp only [decide_eq_true_eq, decide_eq_false_iff_not, Bool.not_eq_true', Bool.not_eq_false'] at h; omega) | (exfalso; simp at h; omega) | simp at h | skip))
      | refine And.intro (Kept.mk ?_) ?_
      | refine Two.mk (And.intro ?_ ?_)
      | exact trivial
      | refine side2 ?_
      | refine sideL2 ?_
      | refine Or.inr ?_
      | refine sat_drawH (Tryd.ok ..) (by kernel_rfl) ?_
      | refine sat_drawH (COk.with_ (Tryd.ok ..) _ _) (by kernel_rfl) ?_
      | refine sat_drawH (COk.with_ (COk.with_ (Tryd.ok ..) _ _) _ _) (by kernel_rfl) ?_
      | refine Exists.intro [_] (And.intro (one_byte rfl) ?_)
      | refine Exists.intro [_] (And.intro (fun _ => one_byte rfl) ?_)
      | refine Exists.intro _ (And.intro (And.intro rfl rfl) ?_)
      | refine Exists.intro _ (And.intro (fun _ => And.intro rfl rfl) ?_)
      | refine Exists.intro _ (And.intro rfl ?_))
    refine sat_loop (COk.with_ (Tryd.ok ..) _ _) (α := Nat × SnS) (fun x => let s := x.2; ([(0, .yes, .v (.func (.yield L) #[] #[])), (1, .yes, .p 3 g3b 0 0), (2, .yes, .p 2 g2 0 0), (4, .yes, .v (.int .i64 (10080 * s.m))), (14, .yes, .o 300 A l.length cA), (15, .yes, .v (.int .i64 l.length)), (16, .yes, .v (.int .i64 x.1))],
        [(1000000, .dfr D), (1000001, BB), (2, .blk g2 31 [.o 300 A l.length cA]), (3, .blk g3b 3 [.v (.int .i64 a)]), (8, .blk g8 81 [.o 80 s.A (toldAt (opn l c) a b s.q).length s.cap]), (80, .row s.A 52 2 (toldAt (opn l c) a b s.q).length s.cap (sps (toldAt (opn l c) a b s.q))), (9, .blk g9 31 [s.cl]), (4, .blk g4 3 [.v (.int .i64 a)]), (5, .blk g5 3 [.v (.int .i64 b)]), (300, .ro A l.length 2 (sps l)), (301, .ro B c.length 2 (sps c))])) (fun x => x.2.m = m ∧ x.1 ≤ l.length ∧ Inn l c a b (beg l m x.1) x.2.q x.2.ci ∧ ClOk c B cB x.2.cl x.2.ci) (fun x => l.length - x.1) (fun _ => rfl) ?_ ?_
    · refine ⟨(0, ⟨m, q, ci, cl, A1, cap1⟩), ⟨rfl, Nat.zero_le _, hI, hcl⟩, ?_, ?_, rfl⟩
      all_goals ((repeat' (first | exact trivial | exact rfl | refine And.intro ?_ ?_)) <;> (try (conv => whnf)) <;> (try simp only [SV.real, SV.r2, SV.r1]))
      all_goals exact heq_refl _
    rintro ⟨j, m', q, ci, cl, A1, cap1⟩ ⟨k0, k1, hI, hcl⟩
    dsimp only at k0 k1 hI hcl
    subst k0
    by_cases hj : j < l.length
    · obtain ⟨s, hs⟩ : ∃ s, l[j]? = some s := ⟨l[j], List.getElem?_eq_getElem hj⟩
      have ho := ok_own okl hs
      have hs7 := hw j s hs
      have hbeg := beg_at (m := (m' : Int)) hs
      repeat' ((conv => whnf); first
        | refine walk (Tryd.ok ..) ?_
        | refine walk (COk.with_ (Tryd.ok ..) _ _) ?_
        | refine walk (COk.with_ (COk.with_ (Tryd.ok ..) _ _) _ _) ?_
        | (refine Cnd.mk (fun h => ?_) (fun h => ?_) <;> (first | (exfalso; simp only [decide_eq_true_eq, decide_eq_false_iff_not, Bool.not_eq_true', Bool.not_eq_false'] at h; omega) | (exfalso; simp at h; omega) | simp at h | skip))
        | refine And.intro (Kept.mk ?_) ?_
        | refine Two.mk (And.intro ?_ ?_)
        | exact trivial
        | refine side2 ?_
        | refine sideL2 ?_
        | refine Or.inr ?_
        | refine sat_drawH (Tryd.ok ..) (by kernel_rfl) ?_
        | refine sat_drawH (COk.with_ (Tryd.ok ..) _ _) (by kernel_rfl) ?_
        | refine sat_drawH (COk.with_ (COk.with_ (Tryd.ok ..) _ _) _ _) (by kernel_rfl) ?_
        | refine Exists.intro [_] (And.intro (one_byte rfl) ?_)
        | refine Exists.intro [_] (And.intro (fun _ => one_byte rfl) ?_)
        | refine Exists.intro _ (And.intro (And.intro rfl rfl) ?_)
        | refine Exists.intro _ (And.intro (fun _ => And.intro rfl rfl) ?_)
        | refine Exists.intro _ (And.intro rfl ?_))
      refine sat_ops (COk.with_ (Tryd.ok ..) _ _) ?_
      repeat' ((conv => whnf); first
        | refine walk (Tryd.ok ..) ?_
        | refine walk (COk.with_ (Tryd.ok ..) _ _) ?_
        | refine walk (COk.with_ (COk.with_ (Tryd.ok ..) _ _) _ _) ?_
        | (refine Cnd.mk (fun h => ?_) (fun h => ?_) <;> (first | (exfalso; simp only [decide_eq_true_eq, decide_eq_false_iff_not, Bool.not_eq_true', Bool.not_eq_false'] at h; omega) | (exfalso; simp at h; omega) | simp at h | skip))
        | refine And.intro (Kept.mk ?_) ?_
        | refine Two.mk (And.intro ?_ ?_)
        | exact trivial
        | refine side2 ?_
        | refine sideL2 ?_
        | refine Or.inr ?_
        | refine sat_drawH (Tryd.ok ..) (by kernel_rfl) ?_
        | refine sat_drawH (COk.with_ (Tryd.ok ..) _ _) (by kernel_rfl) ?_
        | refine sat_drawH (COk.with_ (COk.with_ (Tryd.ok ..) _ _) _ _) (by kernel_rfl) ?_
        | refine Exists.intro [_] (And.intro (one_byte rfl) ?_)
        | refine Exists.intro [_] (And.intro (fun _ => one_byte rfl) ?_)
        | refine Exists.intro _ (And.intro (And.intro rfl rfl) ?_)
        | refine Exists.intro _ (And.intro (fun _ => And.intro rfl rfl) ?_)
        | refine Exists.intro _ (And.intro rfl ?_)
        | refine Exists.intro _ (And.intro (fun _ => (at_s hs rfl)) ?_)
        | refine Exists.intro _ (And.intro (at_s hs rfl) ?_))
      intro g6 hg6
      repeat' ((conv => whnf); first
        | refine walk (Tryd.ok ..) ?_
        | refine walk (COk.with_ (Tryd.ok ..) _ _) ?_
        | refine walk (COk.with_ (COk.with_ (Tryd.ok ..) _ _) _ _) ?_
        | (refine Cnd.mk (fun h => ?_) (fun h => ?_) <;> (first | (exfalso; simp only [decide_eq_true_eq, decide_eq_false_iff_not, Bool.not_eq_true', Bool.not_eq_false'] at h; omega) | (exfalso; simp at h; omega) | simp at h | skip))
        | refine And.intro (Kept.mk ?_) ?_
        | refine Two.mk (And.intro ?_ ?_)
        | exact trivial
        | refine side2 ?_
        | refine sideL2 ?_
        | refine Or.inr ?_
        | refine sat_drawH (Tryd.ok ..) (by kernel_rfl) ?_
        | refine sat_drawH (COk.with_ (Tryd.ok ..) _ _) (by kernel_rfl) ?_
        | refine sat_drawH (COk.with_ (COk.with_ (Tryd.ok ..) _ _) _ _) (by kernel_rfl) ?_
        | refine Exists.intro [_] (And.intro (one_byte rfl) ?_)
        | refine Exists.intro [_] (And.intro (fun _ => one_byte rfl) ?_)
        | refine Exists.intro _ (And.intro (And.intro rfl rfl) ?_)
        | refine Exists.intro _ (And.intro (fun _ => And.intro rfl rfl) ?_)
        | refine Exists.intro _ (And.intro rfl ?_))
      subst hB
      refine Sat.yielded (COk.with_ (Tryd.ok ..) _ _) (id := 1000001) rfl rfl rfl rfl ?_
      repeat' ((conv => whnf); first
        | refine walk (COk.with_ (COk.with_ (Tryd.ok ..) _ _) _ _) ?_
        | (refine Cnd.mk (fun h => ?_) (fun h => ?_) <;> (first | (exfalso; simp only [decide_eq_true_eq, decide_eq_false_iff_not, Bool.not_eq_true', Bool.not_eq_false'] at h; omega) | (exfalso; simp at h; omega) | simp at h | skip))
        | refine And.intro (Kept.mk ?_) ?_
        | refine Two.mk (And.intro ?_ ?_)
        | exact trivial
        | refine side2 ?_
        | refine sideL2 ?_
        | refine Or.inr ?_
        | refine sat_drawH (COk.with_ (COk.with_ (Tryd.ok ..) _ _) _ _) (by kernel_rfl) ?_
        | refine Exists.intro [_] (And.intro (one_byte rfl) ?_)
        | refine Exists.intro [_] (And.intro (fun _ => one_byte rfl) ?_)
        | refine Exists.intro _ (And.intro (And.intro rfl rfl) ?_)
        | refine Exists.intro _ (And.intro (fun _ => And.intro rfl rfl) ?_)
        | refine Exists.intro _ (And.intro rfl ?_))
      intro g10 hg10
      repeat' ((conv => whnf); first
        | refine walk (COk.with_ (COk.with_ (Tryd.ok ..) _ _) _ _) ?_
        | (refine Cnd.mk (fun h => ?_) (fun h => ?_) <;> (first | (exfalso; simp only [decide_eq_true_eq, decide_eq_false_iff_not, Bool.not_eq_true', Bool.not_eq_false'] at h; omega) | (exfalso; simp at h; omega) | simp at h | skip))
        | refine And.intro (Kept.mk ?_) ?_
        | refine Two.mk (And.intro ?_ ?_)
        | exact trivial
        | refine side2 ?_
        | refine sideL2 ?_
        | refine Or.inr ?_
        | refine Exists.intro [_] (And.intro (one_byte rfl) ?_)
        | refine Exists.intro [_] (And.intro (fun _ => one_byte rfl) ?_)
        | refine Exists.intro _ (And.intro (And.intro rfl rfl) ?_)
        | refine Exists.intro _ (And.intro (fun _ => And.intro rfl rfl) ?_)
        | refine Exists.intro _ (And.intro rfl ?_))
      generalize hB2 : HB.lp _ _ _ _ _ _ _ LoopState.busy _ = B2
      have hmm : 10080 * (m' : Int) ≤ 100000000 := hm
      have hTb : (s.t + 10080 * (m' : Int)) ≤ beg l m' (j + 1) := by
        unfold beg
        split
        · rename_i r hr
          have := ok_next okl hs hr
          omega
        · omega
      have hinT : ∀ y : Int, (s.f + 10080 * (m' : Int)) ≤ y → y < (s.t + 10080 * (m' : Int)) → inB l (y % 10080) = true := fun y h1 h2 => week_in okl hs hs7 h1 h2
      rw [hbeg] at hI
      refine sat_ops (COk.with_ (COk.with_ (Tryd.ok ..) _ _) _ _) ?_
      repeat' ((conv => whnf); first
        | refine walk (COk.with_ (COk.with_ (Tryd.ok ..) _ _) _ _) ?_
        | (refine Cnd.mk (fun h => ?_) (fun h => ?_) <;> (first | (exfalso; simp only [decide_eq_true_eq, decide_eq_false_iff_not, Bool.not_eq_true', Bool.not_eq_false'] at h; omega) | (exfalso; simp at h; omega) | simp at h | skip))
        | refine And.intro (Kept.mk ?_) ?_
        | refine Two.mk (And.intro ?_ ?_)
        | exact trivial
        | refine side2 ?_
        | refine sideL2 ?_
        | refine Or.inr ?_
        | refine Exists.intro [_] (And.intro (one_byte rfl) ?_)
        | refine Exists.intro [_] (And.intro (fun _ => one_byte rfl) ?_)
        | refine Exists.intro _ (And.intro (And.intro rfl rfl) ?_)
        | refine Exists.intro _ (And.intro (fun _ => And.intro rfl rfl) ?_)
        | refine Exists.intro _ (And.intro rfl ?_))
      · rename_i hbrk
        subst hB2
        repeat' ((conv => whnf); first
          | refine walk (Tryd.ok ..) ?_
          | refine walk (COk.with_ (Tryd.ok ..) _ _) ?_
          | refine walk (COk.with_ (COk.with_ (Tryd.ok ..) _ _) _ _) ?_
          | (refine Cnd.mk (fun h => ?_) (fun h => ?_) <;> (first | (exfalso; simp only [decide_eq_true_eq, decide_eq_false_iff_not, Bool.not_eq_true', Bool.not_eq_false'] at h; omega) | (exfalso; simp at h; omega) | simp at h | skip))
          | refine And.intro (Kept.mk ?_) ?_
          | refine Two.mk (And.intro ?_ ?_)
          | exact trivial
          | refine side2 ?_
          | refine sideL2 ?_
          | refine Or.inr ?_
          | refine sat_drawH (Tryd.ok ..) (by kernel_rfl) ?_
          | refine sat_drawH (COk.with_ (Tryd.ok ..) _ _) (by kernel_rfl) ?_
          | refine sat_drawH (COk.with_ (COk.with_ (Tryd.ok ..) _ _) _ _) (by kernel_rfl) ?_
          | refine Exists.intro [_] (And.intro (one_byte rfl) ?_)
          | refine Exists.intro [_] (And.intro (fun _ => one_byte rfl) ?_)
          | refine Exists.intro _ (And.intro (And.intro rfl rfl) ?_)
          | refine Exists.intro _ (And.intro (fun _ => And.intro rfl rfl) ?_)
          | refine Exists.intro _ (And.intro rfl ?_))
        refine done_in ?_
        repeat' ((conv => whnf); first
          | refine walk (Tryd.ok ..) ?_
          | refine walk (COk.with_ (Tryd.ok ..) _ _) ?_
          | refine walk (COk.with_ (COk.with_ (Tryd.ok ..) _ _) _ _) ?_
          | (refine Cnd.mk (fun h => ?_) (fun h => ?_) <;> (first | (exfalso; simp only [decide_eq_true_eq, decide_eq_false_iff_not, Bool.not_eq_true', Bool.not_eq_false'] at h; omega) | (exfalso; simp at h; omega) | simp at h | skip))
          | refine And.intro (Kept.mk ?_) ?_
          | refine Two.mk (And.intro ?_ ?_)
          | exact trivial
          | refine side2 ?_
          | refine sideL2 ?_
          | refine Or.inr ?_
          | refine sat_drawH (Tryd.ok ..) (by kernel_rfl) ?_
          | refine sat_drawH (COk.with_ (Tryd.ok ..) _ _) (by kernel_rfl) ?_
          | refine sat_drawH (COk.with_ (COk.with_ (Tryd.ok ..) _ _) _ _) (by kernel_rfl) ?_
          | refine Exists.intro [_] (And.intro (one_byte rfl) ?_)
          | refine Exists.intro [_] (And.intro (fun _ => one_byte rfl) ?_)
          | refine Exists.intro _ (And.intro (And.intro rfl rfl) ?_)
          | refine Exists.intro _ (And.intro (fun _ => And.intro rfl rfl) ?_)
          | refine Exists.intro _ (And.intro rfl ?_))
        by_cases hbs : b ≤ (s.f + 10080 * (m' : Int))
        · have he : toldAt (opn l c) a b q = snR l c a b := sn_end hab hI hbs
          by_cases hle : (snR l c a b).length ≤ 1000
          · refine called_pure (.t [.o 80 A1 (toldAt (opn l c) a b q).length cap1, .v (.int .i64 0)]) rfl (fun w' => told_few A1 _ cap1 (by rw [he]; exact hle) w') ?_
            repeat' ((conv => whnf); first
              | refine walk (Tryd.ok ..) ?_
              | refine walk (COk.with_ (Tryd.ok ..) _ _) ?_
              | refine walk (COk.with_ (COk.with_ (Tryd.ok ..) _ _) _ _) ?_
              | (refine Cnd.mk (fun h => ?_) (fun h => ?_) <;> (first | (exfalso; simp only [decide_eq_true_eq, decide_eq_false_iff_not, Bool.not_eq_true', Bool.not_eq_false'] at h; omega) | (exfalso; simp at h; omega) | simp at h | skip))
              | refine And.intro (Kept.mk ?_) ?_
              | refine Two.mk (And.intro ?_ ?_)
              | exact trivial
              | refine side2 ?_
              | refine sideL2 ?_
              | refine Or.inr ?_
              | refine sat_drawH (Tryd.ok ..) (by kernel_rfl) ?_
              | refine sat_drawH (COk.with_ (Tryd.ok ..) _ _) (by kernel_rfl) ?_
              | refine sat_drawH (COk.with_ (COk.with_ (Tryd.ok ..) _ _) _ _) (by kernel_rfl) ?_
              | refine Exists.intro [_] (And.intro (one_byte rfl) ?_)
              | refine Exists.intro [_] (And.intro (fun _ => one_byte rfl) ?_)
              | refine Exists.intro _ (And.intro (And.intro rfl rfl) ?_)
              | refine Exists.intro _ (And.intro (fun _ => And.intro rfl rfl) ?_)
              | refine Exists.intro _ (And.intro rfl ?_))
            obtain ⟨h3, h4⟩ := sn_yes hyes hle
            rw [h3, h4, ← he]
            exact done_row (mk := fun v => .tuple #[v, .int .i64 0]) rfl rfl 80 A1 cap1 rfl rfl
          · refine called_pure (.t [.v (.slice none 0 0), .v (.int .i64 5)]) rfl (fun w' => told_many A1 (toldAt (opn l c) a b q).length cap1 (by rw [he]; omega) w') ?_
            repeat' ((conv => whnf); first
              | refine walk (Tryd.ok ..) ?_
              | refine walk (COk.with_ (Tryd.ok ..) _ _) ?_
              | refine walk (COk.with_ (COk.with_ (Tryd.ok ..) _ _) _ _) ?_
              | (refine Cnd.mk (fun h => ?_) (fun h => ?_) <;> (first | (exfalso; simp only [decide_eq_true_eq, decide_eq_false_iff_not, Bool.not_eq_true', Bool.not_eq_false'] at h; omega) | (exfalso; simp at h; omega) | simp at h | skip))
              | refine And.intro (Kept.mk ?_) ?_
              | refine Two.mk (And.intro ?_ ?_)
              | exact trivial
              | refine side2 ?_
              | refine sideL2 ?_
              | refine Or.inr ?_
              | refine sat_drawH (Tryd.ok ..) (by kernel_rfl) ?_
              | refine sat_drawH (COk.with_ (Tryd.ok ..) _ _) (by kernel_rfl) ?_
              | refine sat_drawH (COk.with_ (COk.with_ (Tryd.ok ..) _ _) _ _) (by kernel_rfl) ?_
              | refine Exists.intro [_] (And.intro (one_byte rfl) ?_)
              | refine Exists.intro [_] (And.intro (fun _ => one_byte rfl) ?_)
              | refine Exists.intro _ (And.intro (And.intro rfl rfl) ?_)
              | refine Exists.intro _ (And.intro (fun _ => And.intro rfl rfl) ?_)
              | refine Exists.intro _ (And.intro rfl ?_))
            obtain ⟨h3, h4⟩ := sn_many hyes hle
            rw [h3, h4]
            exact done_nil (mk := fun v => .tuple #[v, .int .i64 5]) rfl rfl rfl

        · have hl1 := toldAt_len (opn l c) (a := q) hab
          refine called_pure (.t [.v (.slice none 0 0), .v (.int .i64 5)]) rfl (fun w' => told_many A1 (toldAt (opn l c) a b q).length cap1 (by omega) w') ?_
          repeat' ((conv => whnf); first
            | refine walk (Tryd.ok ..) ?_
            | refine walk (COk.with_ (Tryd.ok ..) _ _) ?_
            | refine walk (COk.with_ (COk.with_ (Tryd.ok ..) _ _) _ _) ?_
            | (refine Cnd.mk (fun h => ?_) (fun h => ?_) <;> (first | (exfalso; simp only [decide_eq_true_eq, decide_eq_false_iff_not, Bool.not_eq_true', Bool.not_eq_false'] at h; omega) | (exfalso; simp at h; omega) | simp at h | skip))
            | refine And.intro (Kept.mk ?_) ?_
            | refine Two.mk (And.intro ?_ ?_)
            | exact trivial
            | refine side2 ?_
            | refine sideL2 ?_
            | refine Or.inr ?_
            | refine sat_drawH (Tryd.ok ..) (by kernel_rfl) ?_
            | refine sat_drawH (COk.with_ (Tryd.ok ..) _ _) (by kernel_rfl) ?_
            | refine sat_drawH (COk.with_ (COk.with_ (Tryd.ok ..) _ _) _ _) (by kernel_rfl) ?_
            | refine Exists.intro [_] (And.intro (one_byte rfl) ?_)
            | refine Exists.intro [_] (And.intro (fun _ => one_byte rfl) ?_)
            | refine Exists.intro _ (And.intro (And.intro rfl rfl) ?_)
            | refine Exists.intro _ (And.intro (fun _ => And.intro rfl rfl) ?_)
            | refine Exists.intro _ (And.intro rfl ?_))
          obtain ⟨h3, h4⟩ := sn_many hyes (show ¬ (snR l c a b).length ≤ 1000 by unfold snR; omega)
          rw [h3, h4]
          exact done_nil (mk := fun v => .tuple #[v, .int .i64 5]) rfl rfl rfl
      rcases hcl with ⟨hc0, rfl, rfl⟩ | ⟨pB, off, n, cap', rfl, rfl, hn, hoff, hcap⟩
      · refine sat_block ?_
        repeat' ((conv => whnf); first
          | refine walk (COk.with_ (COk.with_ (Tryd.ok ..) _ _) _ _) ?_
          | (refine Cnd.mk (fun h => ?_) (fun h => ?_) <;> (first | (exfalso; simp only [decide_eq_true_eq, decide_eq_false_iff_not, Bool.not_eq_true', Bool.not_eq_false'] at h; omega) | (exfalso; simp at h; omega) | simp at h | skip))
          | refine And.intro (Kept.mk ?_) ?_
          | refine Two.mk (And.intro ?_ ?_)
          | exact trivial
          | refine side2 ?_
          | refine sideL2 ?_
          | refine Or.inr ?_
          | refine Exists.intro [_] (And.intro (one_byte rfl) ?_)
          | refine Exists.intro [_] (And.intro (fun _ => one_byte rfl) ?_)
          | refine Exists.intro _ (And.intro (And.intro rfl rfl) ?_)
          | refine Exists.intro _ (And.intro (fun _ => And.intro rfl rfl) ?_)
          | refine Exists.intro _ (And.intro rfl ?_))
        refine sat_loop (COk.with_ (COk.with_ (Tryd.ok ..) _ _) _ _) (α := Unit) (fun _ => ([(4, .yes, .p 4 g4 0 0), (5, .yes, .p 5 g5 0 0), (8, .yes, .p 8 g8 0 0), (9, .yes, .p 9 g9 0 0), (10, .yes, .p 10 g10 0 0)],
          [(1000000, .dfr D), (1000001, B2), (2, .blk g2 31 [.o 300 A l.length cA]), (3, .blk g3b 3 [.v (.int .i64 a)]), (8, .blk g8 81 [.o 80 A1 (toldAt (opn l c) a b q).length cap1]), (80, .row A1 52 2 (toldAt (opn l c) a b q).length cap1 (sps (toldAt (opn l c) a b q))), (9, .blk g9 31 [.o 301 B 0 cB]), (4, .blk g4 3 [.v (.int .i64 a)]), (5, .blk g5 3 [.v (.int .i64 b)]), (300, .ro A l.length 2 (sps l)), (301, .ro B c.length 2 (sps c)), (10, .blk g10 52 [.v (.int .i64 (s.f + 10080 * (m' : Int))), .v (.int .i64 (s.t + 10080 * (m' : Int)))])])) (fun _ => True) (fun _ => 0) (fun _ => rfl) ?_ ?_
        · refine ⟨(), trivial, ?_, ?_, rfl⟩
          all_goals ((repeat' (first | exact trivial | exact rfl | refine And.intro ?_ ?_)) <;> (try (conv => whnf)) <;> (try simp only [SV.real, SV.r2, SV.r1]))
          all_goals exact heq_refl _
        intro _ _
        repeat' ((conv => whnf); first
          | refine walk (COk.with_ (COk.with_ (Tryd.ok ..) _ _) _ _) ?_
          | (refine Cnd.mk (fun h => ?_) (fun h => ?_) <;> (first | (exfalso; simp only [decide_eq_true_eq, decide_eq_false_iff_not, Bool.not_eq_true', Bool.not_eq_false'] at h; omega) | (exfalso; simp at h; omega) | simp at h | skip))
          | refine And.intro (Kept.mk ?_) ?_
          | refine Two.mk (And.intro ?_ ?_)
          | exact trivial
          | refine side2 ?_
          | refine sideL2 ?_
          | refine Or.inr ?_
          | refine Exists.intro [_] (And.intro (one_byte rfl) ?_)
          | refine Exists.intro [_] (And.intro (fun _ => one_byte rfl) ?_)
          | refine Exists.intro _ (And.intro (And.intro rfl rfl) ?_)
          | refine Exists.intro _ (And.intro (fun _ => And.intro rfl rfl) ?_)
          | refine Exists.intro _ (And.intro rfl ?_)
          | refine Exists.intro _ (And.intro (fun _ => (no_ld rfl)) ?_)
          | refine Exists.intro _ (And.intro (no_ld rfl) ?_))
        have hadd := inn_end (b := (s.t + 10080 * (m' : Int))) okc hab hI (show (s.f + 10080 * (m' : Int)) ≤ (s.t + 10080 * (m' : Int)) by omega) (fun y h1 h2 => hinT y (by omega) h2) (.inr (fun r hr => by have := (List.getElem?_eq_some_iff.1 hr).1; omega))
        refine add_at (l := toldAt (opn l c) a b q) (A := A1) (cap := cap1) (g := g8) rfl 8 80 [(1000000, .dfr D), (1000001, B2), (2, .blk g2 31 [.o 300 A l.length cA]), (3, .blk g3b 3 [.v (.int .i64 a)]), (9, .blk g9 31 [.o 301 B 0 cB]), (4, .blk g4 3 [.v (.int .i64 a)]), (5, .blk g5 3 [.v (.int .i64 b)]), (300, .ro A l.length 2 (sps l)), (301, .ro B c.length 2 (sps c)), (10, .blk g10 52 [.v (.int .i64 (s.f + 10080 * (m' : Int))), .v (.int .i64 (s.t + 10080 * (m' : Int)))])] rfl rfl ?_ ⟨by simp only [InR]; omega, by simp only [InR]; omega⟩ (by have := hgrow q; omega) ?_
        · ((repeat' (first | exact trivial | exact rfl | refine And.intro ?_ ?_)) <;> (try (conv => whnf)) <;> (try simp only [SV.real, SV.r2, SV.r1]))
          all_goals exact heq_refl _
        rw [hadd]
        intro A5 cap5
        subst hB2
        repeat' ((conv => whnf); first
          | refine walk (Tryd.ok ..) ?_
          | refine walk (COk.with_ (Tryd.ok ..) _ _) ?_
          | refine walk (COk.with_ (COk.with_ (Tryd.ok ..) _ _) _ _) ?_
          | (refine Cnd.mk (fun h => ?_) (fun h => ?_) <;> (first | (exfalso; simp only [decide_eq_true_eq, decide_eq_false_iff_not, Bool.not_eq_true', Bool.not_eq_false'] at h; omega) | (exfalso; simp at h; omega) | simp at h | skip))
          | refine And.intro (Kept.mk ?_) ?_
          | refine Two.mk (And.intro ?_ ?_)
          | exact trivial
          | refine side2 ?_
          | refine sideL2 ?_
          | refine Or.inr ?_
          | refine sat_drawH (Tryd.ok ..) (by kernel_rfl) ?_
          | refine sat_drawH (COk.with_ (Tryd.ok ..) _ _) (by kernel_rfl) ?_
          | refine sat_drawH (COk.with_ (COk.with_ (Tryd.ok ..) _ _) _ _) (by kernel_rfl) ?_
          | refine Exists.intro [_] (And.intro (one_byte rfl) ?_)
          | refine Exists.intro [_] (And.intro (fun _ => one_byte rfl) ?_)
          | refine Exists.intro _ (And.intro (And.intro rfl rfl) ?_)
          | refine Exists.intro _ (And.intro (fun _ => And.intro rfl rfl) ?_)
          | refine Exists.intro _ (And.intro rfl ?_))
        refine sat_ops (COk.with_ (Tryd.ok ..) _ _) ?_
        repeat' ((conv => whnf); first
          | refine walk (Tryd.ok ..) ?_
          | refine walk (COk.with_ (Tryd.ok ..) _ _) ?_
          | refine walk (COk.with_ (COk.with_ (Tryd.ok ..) _ _) _ _) ?_
          | (refine Cnd.mk (fun h => ?_) (fun h => ?_) <;> (first | (exfalso; simp only [decide_eq_true_eq, decide_eq_false_iff_not, Bool.not_eq_true', Bool.not_eq_false'] at h; omega) | (exfalso; simp at h; omega) | simp at h | skip))
          | refine And.intro (Kept.mk ?_) ?_
          | refine Two.mk (And.intro ?_ ?_)
          | exact trivial
          | refine side2 ?_
          | refine sideL2 ?_
          | refine Or.inr ?_
          | refine sat_drawH (Tryd.ok ..) (by kernel_rfl) ?_
          | refine sat_drawH (COk.with_ (Tryd.ok ..) _ _) (by kernel_rfl) ?_
          | refine sat_drawH (COk.with_ (COk.with_ (Tryd.ok ..) _ _) _ _) (by kernel_rfl) ?_
          | refine Exists.intro [_] (And.intro (one_byte rfl) ?_)
          | refine Exists.intro [_] (And.intro (fun _ => one_byte rfl) ?_)
          | refine Exists.intro _ (And.intro (And.intro rfl rfl) ?_)
          | refine Exists.intro _ (And.intro (fun _ => And.intro rfl rfl) ?_)
          | refine Exists.intro _ (And.intro rfl ?_))
        refine ⟨(j + 1, ⟨m', (s.t + 10080 * (m' : Int)), 0, .o 301 B 0 cB, A5, cap5⟩), ⟨⟨rfl, hj, inn_next hI (show (s.f + 10080 * (m' : Int)) ≤ (s.t + 10080 * (m' : Int)) by omega) hTb (fun y h1 h2 _ _ => next_gap okl hw hs h1 h2), .inl ⟨hc0, rfl, rfl⟩⟩, by show l.length - (j + 1) < l.length - j; omega⟩, ?_, ?_, rfl⟩
        all_goals ((repeat' (first | exact trivial | exact rfl | refine And.intro ?_ ?_)) <;> (try (conv => whnf)) <;> (try simp only [SV.real, SV.r2, SV.r1]))
      · refine sat_join0 (α := Int × Int × Nat × Nat × Nat × Nat × Option (Nat × Nat) × Nat) (fun x => ([(4, .yes, .p 4 g4 0 0), (5, .yes, .p 5 g5 0 0), (8, .yes, .p 8 g8 0 0), (9, .yes, .p 9 g9 0 0), (10, .yes, .p 10 g10 0 0)],
          [(1000000, .dfr D), (1000001, B2), (2, .blk g2 31 [.o 300 A l.length cA]), (3, .blk g3b 3 [.v (.int .i64 a)]), (8, .blk g8 81 [.o 80 x.2.2.2.2.2.2.1 (toldAt (opn l c) a b x.2.1).length x.2.2.2.2.2.2.2]), (80, .row x.2.2.2.2.2.2.1 52 2 (toldAt (opn l c) a b x.2.1).length x.2.2.2.2.2.2.2 (sps (toldAt (opn l c) a b x.2.1))), (9, .blk g9 31 [.s 301 pB.1 pB.2 x.2.2.2.2.1 x.2.2.2.1 x.2.2.2.2.2.1]), (4, .blk g4 3 [.v (.int .i64 a)]), (5, .blk g5 3 [.v (.int .i64 b)]), (300, .ro A l.length 2 (sps l)), (301, .ro (some pB) c.length 2 (sps c)), (10, .blk g10 52 [.v (.int .i64 x.1), .v (.int .i64 (s.t + 10080 * (m' : Int)))])]))
          (fun x => (((s.f + 10080 * (m' : Int)) ≤ x.1 ∧ x.1 ≤ (s.t + 10080 * (m' : Int))) ∧ Inn l c a b x.1 x.2.1 x.2.2.1 ∧ x.2.2.2.1 + x.2.2.1 = c.length ∧ (0 < x.2.2.2.1 → x.2.2.2.2.1 = x.2.2.1 * 2) ∧ x.2.2.2.1 ≤ x.2.2.2.2.2.1) ∧ (x.1 = (s.t + 10080 * (m' : Int)) ∨ ∀ r : Sp, c[x.2.2.1]? = some r → (s.t + 10080 * (m' : Int)) ≤ r.f)) (fun _ => rfl) ?_ ?_
        · refine sat_block ?_
          repeat' ((conv => whnf); first
            | refine walk (COk.with_ (COk.with_ (Tryd.ok ..) _ _) _ _) ?_
            | (refine Cnd.mk (fun h => ?_) (fun h => ?_) <;> (first | (exfalso; simp only [decide_eq_true_eq, decide_eq_false_iff_not, Bool.not_eq_true', Bool.not_eq_false'] at h; omega) | (exfalso; simp at h; omega) | simp at h | skip))
            | refine And.intro (Kept.mk ?_) ?_
            | refine Two.mk (And.intro ?_ ?_)
            | exact trivial
            | refine side2 ?_
            | refine sideL2 ?_
            | refine Or.inr ?_
            | refine Exists.intro [_] (And.intro (one_byte rfl) ?_)
            | refine Exists.intro [_] (And.intro (fun _ => one_byte rfl) ?_)
            | refine Exists.intro _ (And.intro (And.intro rfl rfl) ?_)
            | refine Exists.intro _ (And.intro (fun _ => And.intro rfl rfl) ?_)
            | refine Exists.intro _ (And.intro rfl ?_))
          refine sat_loop (COk.with_ (COk.with_ (Tryd.ok ..) _ _) _ _) (α := Int × Int × Nat × Nat × Nat × Nat × Option (Nat × Nat) × Nat) (fun x => ([(4, .yes, .p 4 g4 0 0), (5, .yes, .p 5 g5 0 0), (8, .yes, .p 8 g8 0 0), (9, .yes, .p 9 g9 0 0), (10, .yes, .p 10 g10 0 0)],
            [(1000000, .dfr D), (1000001, B2), (2, .blk g2 31 [.o 300 A l.length cA]), (3, .blk g3b 3 [.v (.int .i64 a)]), (8, .blk g8 81 [.o 80 x.2.2.2.2.2.2.1 (toldAt (opn l c) a b x.2.1).length x.2.2.2.2.2.2.2]), (80, .row x.2.2.2.2.2.2.1 52 2 (toldAt (opn l c) a b x.2.1).length x.2.2.2.2.2.2.2 (sps (toldAt (opn l c) a b x.2.1))), (9, .blk g9 31 [.s 301 pB.1 pB.2 x.2.2.2.2.1 x.2.2.2.1 x.2.2.2.2.2.1]), (4, .blk g4 3 [.v (.int .i64 a)]), (5, .blk g5 3 [.v (.int .i64 b)]), (300, .ro A l.length 2 (sps l)), (301, .ro (some pB) c.length 2 (sps c)), (10, .blk g10 52 [.v (.int .i64 x.1), .v (.int .i64 (s.t + 10080 * (m' : Int)))])]))
            (fun x => ((s.f + 10080 * (m' : Int)) ≤ x.1 ∧ x.1 ≤ (s.t + 10080 * (m' : Int))) ∧ Inn l c a b x.1 x.2.1 x.2.2.1 ∧ x.2.2.2.1 + x.2.2.1 = c.length ∧ (0 < x.2.2.2.1 → x.2.2.2.2.1 = x.2.2.1 * 2) ∧ x.2.2.2.1 ≤ x.2.2.2.2.2.1) (fun x => x.2.2.2.1) (fun _ => rfl) ?_ ?_
          · refine ⟨((s.f + 10080 * (m' : Int)), q, ci, n, off, cap', A1, cap1), ⟨⟨Int.le_refl _, by show (s.f + 10080 * (m' : Int)) ≤ (s.t + 10080 * (m' : Int)); omega⟩, hI, hn, hoff, hcap⟩, ?_, ?_, rfl⟩
            all_goals ((repeat' (first | exact trivial | exact rfl | refine And.intro ?_ ?_)) <;> (try (conv => whnf)) <;> (try simp only [SV.real, SV.r2, SV.r1]))
            all_goals exact heq_refl _
          rintro ⟨a', q, ci, n, off, cap', A1, cap1⟩ ⟨⟨j1, j2⟩, hI, hn, hoff, hcap⟩
          dsimp only at j1 j2 hI hn hoff hcap
          rcases Nat.eq_zero_or_pos n with hn0 | hn0
          · subst hn0
            repeat' ((conv => whnf); first
              | refine walk (COk.with_ (COk.with_ (Tryd.ok ..) _ _) _ _) ?_
              | (refine Cnd.mk (fun h => ?_) (fun h => ?_) <;> (first | (exfalso; simp only [decide_eq_true_eq, decide_eq_false_iff_not, Bool.not_eq_true', Bool.not_eq_false'] at h; omega) | (exfalso; simp at h; omega) | simp at h | skip))
              | refine And.intro (Kept.mk ?_) ?_
              | refine Two.mk (And.intro ?_ ?_)
              | exact trivial
              | refine side2 ?_
              | refine sideL2 ?_
              | refine Or.inr ?_
              | refine Exists.intro [_] (And.intro (one_byte rfl) ?_)
              | refine Exists.intro [_] (And.intro (fun _ => one_byte rfl) ?_)
              | refine Exists.intro _ (And.intro (And.intro rfl rfl) ?_)
              | refine Exists.intro _ (And.intro (fun _ => And.intro rfl rfl) ?_)
              | refine Exists.intro _ (And.intro rfl ?_)
              | refine Exists.intro _ (And.intro (fun _ => (no_ld rfl)) ?_)
              | refine Exists.intro _ (And.intro (no_ld rfl) ?_))
            refine ⟨(a', q, ci, 0, off, cap', A1, cap1), ⟨⟨⟨j1, j2⟩, hI, hn, hoff, hcap⟩, .inr (fun r hr => by have := (List.getElem?_eq_some_iff.1 hr).1; dsimp only at this; omega)⟩, ?_, ?_, rfl⟩
            all_goals ((repeat' (first | exact trivial | exact rfl | refine And.intro ?_ ?_)) <;> (try (conv => whnf)) <;> (try simp only [SV.real, SV.r2, SV.r1]))
            all_goals exact heq_refl _
          · obtain ⟨r, hr⟩ : ∃ r, c[ci]? = some r := ⟨c[ci]'(by omega), List.getElem?_eq_getElem _⟩
            have hro := ok_own okc hr
            have hoff2 := hoff hn0
            have hf0 : (sps c)[off + mulS (0 : Int).toNat 2]? = some (.int .i64 r.f) := by
              rw [hoff2]
              exact (sps_get hr).1
            have ht0 : (sps c)[off + mulS (0 : Int).toNat 2 + 1]? = some (.int .i64 r.t) := by
              rw [hoff2]
              exact (sps_get hr).2
            repeat' ((conv => whnf); first
              | refine walk (COk.with_ (COk.with_ (Tryd.ok ..) _ _) _ _) ?_
              | (refine Cnd.mk (fun h => ?_) (fun h => ?_) <;> (first | (exfalso; simp only [decide_eq_true_eq, decide_eq_false_iff_not, Bool.not_eq_true', Bool.not_eq_false'] at h; omega) | (exfalso; simp at h; omega) | simp at h | skip))
              | refine And.intro (Kept.mk ?_) ?_
              | refine Two.mk (And.intro ?_ ?_)
              | exact trivial
              | refine side2 ?_
              | refine sideL2 ?_
              | refine Or.inr ?_
              | refine Exists.intro [_] (And.intro (one_byte rfl) ?_)
              | refine Exists.intro [_] (And.intro (fun _ => one_byte rfl) ?_)
              | refine Exists.intro _ (And.intro (And.intro rfl rfl) ?_)
              | refine Exists.intro _ (And.intro (fun _ => And.intro rfl rfl) ?_)
              | refine Exists.intro _ (And.intro rfl ?_)
              | refine Exists.intro _ (And.intro (fun _ => (fun _ => hf0)) ?_)
              | refine Exists.intro _ (And.intro (fun _ => hf0) ?_))
            · refine sat_draw (COk.with_ (COk.with_ (Tryd.ok ..) _ _) _ _) [] [(10, .blk g10 52 [.v (.int .i64 a'), .v (.int .i64 (s.t + 10080 * (m' : Int)))]), (9, .blk g9 31 [.s 301 pB.1 pB.2 off n cap']), (4, .blk g4 3 [.v (.int .i64 a)]), (5, .blk g5 3 [.v (.int .i64 b)]), (301, .ro (some pB) c.length 2 (sps c))] (by kernel_rfl) (fun w hw => hw.sub ?_) ?_
              · ((repeat' (first | exact trivial | exact rfl | refine And.intro ?_ ?_)) <;> (try (conv => whnf)) <;> (try simp only [SV.real, SV.r2, SV.r1]))
              repeat' ((conv => whnf); first
                | refine walk (Tryd.ok ..) ?_
                | refine walk (COk.with_ (Tryd.ok ..) _ _) ?_
                | refine walk (COk.with_ (COk.with_ (Tryd.ok ..) _ _) _ _) ?_
                | (refine Cnd.mk (fun h => ?_) (fun h => ?_) <;> (first | (exfalso; simp only [decide_eq_true_eq, decide_eq_false_iff_not, Bool.not_eq_true', Bool.not_eq_false'] at h; omega) | (exfalso; simp at h; omega) | simp at h | skip))
                | refine And.intro (Kept.mk ?_) ?_
                | refine Two.mk (And.intro ?_ ?_)
                | exact trivial
                | refine side2 ?_
                | refine sideL2 ?_
                | refine Or.inr ?_
                | refine sat_drawH (Tryd.ok ..) (by kernel_rfl) ?_
                | refine sat_drawH (COk.with_ (Tryd.ok ..) _ _) (by kernel_rfl) ?_
                | refine sat_drawH (COk.with_ (COk.with_ (Tryd.ok ..) _ _) _ _) (by kernel_rfl) ?_
                | refine Exists.intro [_] (And.intro (one_byte rfl) ?_)
                | refine Exists.intro [_] (And.intro (fun _ => one_byte rfl) ?_)
                | refine Exists.intro _ (And.intro (And.intro rfl rfl) ?_)
                | refine Exists.intro _ (And.intro (fun _ => And.intro rfl rfl) ?_)
                | refine Exists.intro _ (And.intro rfl ?_)
                | refine Exists.intro _ (And.intro (fun _ => (hf0)) ?_)
                | refine Exists.intro _ (And.intro (hf0) ?_))
              obtain ⟨q', w1, w2, w3⟩ := inn_step (b := (s.t + 10080 * (m' : Int))) okc hab hI hr j2 (by omega) (fun y h1 h2 => hinT y (by omega) h2)
              refine add_at (l := toldAt (opn l c) a b q) (A := A1) (cap := cap1) (g := g8) rfl 8 80 [(1000000, .dfr D), (1000001, B2), (2, .blk g2 31 [.o 300 A l.length cA]), (3, .blk g3b 3 [.v (.int .i64 a)]), (9, .blk g9 31 [.s 301 pB.1 pB.2 off n cap']), (4, .blk g4 3 [.v (.int .i64 a)]), (5, .blk g5 3 [.v (.int .i64 b)]), (300, .ro A l.length 2 (sps l)), (301, .ro (some pB) c.length 2 (sps c)), (10, .blk g10 52 [.v (.int .i64 a'), .v (.int .i64 (s.t + 10080 * (m' : Int)))])] rfl rfl ?_ ⟨by simp only [InR]; omega, by simp only [InR]; omega⟩ (by have := hgrow q; omega) ?_
              · ((repeat' (first | exact trivial | exact rfl | refine And.intro ?_ ?_)) <;> (try (conv => whnf)) <;> (try simp only [SV.real, SV.r2, SV.r1]))
                all_goals exact heq_refl _
              rw [w2]
              intro A2 cap2
              repeat' ((conv => whnf); first
                | refine walk (COk.with_ (COk.with_ (Tryd.ok ..) _ _) _ _) ?_
                | (refine Cnd.mk (fun h => ?_) (fun h => ?_) <;> (first | (exfalso; simp only [decide_eq_true_eq, decide_eq_false_iff_not, Bool.not_eq_true', Bool.not_eq_false'] at h; omega) | (exfalso; simp at h; omega) | simp at h | skip))
                | refine And.intro (Kept.mk ?_) ?_
                | refine Two.mk (And.intro ?_ ?_)
                | exact trivial
                | refine side2 ?_
                | refine sideL2 ?_
                | refine Or.inr ?_
                | refine Exists.intro [_] (And.intro (one_byte rfl) ?_)
                | refine Exists.intro [_] (And.intro (fun _ => one_byte rfl) ?_)
                | refine Exists.intro _ (And.intro (And.intro rfl rfl) ?_)
                | refine Exists.intro _ (And.intro (fun _ => And.intro rfl rfl) ?_)
                | refine Exists.intro _ (And.intro rfl ?_))
              refine sat_draw (COk.with_ (COk.with_ (Tryd.ok ..) _ _) _ _) [1, 3] [(9, .blk g9 31 [.s 301 pB.1 pB.2 off n cap']), (301, .ro (some pB) c.length 2 (sps c))] (by kernel_rfl) (fun w hw => hw.sub ?_) ?_
              · ((repeat' (first | exact trivial | exact rfl | refine And.intro ?_ ?_)) <;> (try (conv => whnf)) <;> (try simp only [SV.real, SV.r2, SV.r1]))
              repeat' ((conv => whnf); first
                | refine walk (COk.with_ (COk.with_ (Tryd.ok ..) _ _) _ _) ?_
                | (refine Cnd.mk (fun h => ?_) (fun h => ?_) <;> (first | (exfalso; simp only [decide_eq_true_eq, decide_eq_false_iff_not, Bool.not_eq_true', Bool.not_eq_false'] at h; omega) | (exfalso; simp at h; omega) | simp at h | skip))
                | refine And.intro (Kept.mk ?_) ?_
                | refine Two.mk (And.intro ?_ ?_)
                | exact trivial
                | refine side2 ?_
                | refine sideL2 ?_
                | refine Or.inr ?_
                | refine Exists.intro [_] (And.intro (one_byte rfl) ?_)
                | refine Exists.intro [_] (And.intro (fun _ => one_byte rfl) ?_)
                | refine Exists.intro _ (And.intro (And.intro rfl rfl) ?_)
                | refine Exists.intro _ (And.intro (fun _ => And.intro rfl rfl) ?_)
                | refine Exists.intro _ (And.intro rfl ?_)
                | refine Exists.intro _ (And.intro (fun _ => (ht0)) ?_)
                | refine Exists.intro _ (And.intro (ht0) ?_))
              all_goals (try (refine ⟨(max a' (min (s.t + 10080 * (m' : Int)) r.t), q', ci, n, off, cap', A2, cap2), ⟨⟨⟨by dsimp only; omega, by dsimp only; omega⟩, w1, hn, hoff, hcap⟩, .inl (by dsimp only; omega)⟩, ?_, ?_, rfl⟩ <;> (((repeat' (first | exact trivial | exact rfl | refine And.intro ?_ ?_)) <;> (try (conv => whnf)) <;> (try simp only [SV.real, SV.r2, SV.r1])) <;> exact heq_refl _)))
              all_goals (try (refine ⟨(max a' (min (s.t + 10080 * (m' : Int)) r.t), q', ci + 1, ((n : Int) - 1).toNat, (if cap' = (1 : Int).toNat then off else off + mulS (1 : Int).toNat 2), cap' - (1 : Int).toNat, A2, cap2), ⟨⟨⟨by dsimp only; omega, by dsimp only; omega⟩, w3 (by omega), by dsimp only; omega, fun h0 => by dsimp only at h0 ⊢; rw [if_neg (by omega), mulS_eq, hoff2]; omega, by dsimp only; omega⟩, by dsimp only; omega⟩, ?_, ?_, rfl⟩ <;> (((repeat' (first | exact trivial | exact rfl | refine And.intro ?_ ?_)) <;> (try (conv => whnf)) <;> (try simp only [SV.real, SV.r2, SV.r1])) <;> exact heq_refl _)))
            · have hTr : (s.t + 10080 * (m' : Int)) ≤ r.f := by omega
              refine ⟨(a', q, ci, n, off, cap', A1, cap1), ⟨⟨⟨j1, j2⟩, hI, hn, hoff, hcap⟩, .inr (fun s2 hs2 => by dsimp only at hs2; rw [hr] at hs2; cases hs2; exact hTr)⟩, ?_, ?_, rfl⟩
              all_goals ((repeat' (first | exact trivial | exact rfl | refine And.intro ?_ ?_)) <;> (try (conv => whnf)) <;> (try simp only [SV.real, SV.r2, SV.r1]))
              all_goals exact heq_refl _
        rintro ⟨a', q, ci, n, off, cap', A1, cap1⟩ ⟨⟨⟨j1, j2⟩, hI, hn, hoff, hcap⟩, hend⟩
        dsimp only at j1 j2 hI hn hoff hcap hend
        repeat' ((conv => whnf); first
          | refine walk (COk.with_ (COk.with_ (Tryd.ok ..) _ _) _ _) ?_
          | (refine Cnd.mk (fun h => ?_) (fun h => ?_) <;> (first | (exfalso; simp only [decide_eq_true_eq, decide_eq_false_iff_not, Bool.not_eq_true', Bool.not_eq_false'] at h; omega) | (exfalso; simp at h; omega) | simp at h | skip))
          | refine And.intro (Kept.mk ?_) ?_
          | refine Two.mk (And.intro ?_ ?_)
          | exact trivial
          | refine side2 ?_
          | refine sideL2 ?_
          | refine Or.inr ?_
          | refine Exists.intro [_] (And.intro (one_byte rfl) ?_)
          | refine Exists.intro [_] (And.intro (fun _ => one_byte rfl) ?_)
          | refine Exists.intro _ (And.intro (And.intro rfl rfl) ?_)
          | refine Exists.intro _ (And.intro (fun _ => And.intro rfl rfl) ?_)
          | refine Exists.intro _ (And.intro rfl ?_))
        have hadd := inn_end (b := (s.t + 10080 * (m' : Int))) okc hab hI j2 (fun y h1 h2 => hinT y (by omega) h2) hend
        refine add_at (l := toldAt (opn l c) a b q) (A := A1) (cap := cap1) (g := g8) rfl 8 80 [(1000000, .dfr D), (1000001, B2), (2, .blk g2 31 [.o 300 A l.length cA]), (3, .blk g3b 3 [.v (.int .i64 a)]), (9, .blk g9 31 [.s 301 pB.1 pB.2 off n cap']), (4, .blk g4 3 [.v (.int .i64 a)]), (5, .blk g5 3 [.v (.int .i64 b)]), (300, .ro A l.length 2 (sps l)), (301, .ro (some pB) c.length 2 (sps c)), (10, .blk g10 52 [.v (.int .i64 a'), .v (.int .i64 (s.t + 10080 * (m' : Int)))])] rfl rfl ?_ ⟨by simp only [InR]; omega, by simp only [InR]; omega⟩ (by have := hgrow q; omega) ?_
        · ((repeat' (first | exact trivial | exact rfl | refine And.intro ?_ ?_)) <;> (try (conv => whnf)) <;> (try simp only [SV.real, SV.r2, SV.r1]))
          all_goals exact heq_refl _
        rw [hadd]
        intro A5 cap5
        subst hB2
        repeat' ((conv => whnf); first
          | refine walk (Tryd.ok ..) ?_
          | refine walk (COk.with_ (Tryd.ok ..) _ _) ?_
          | refine walk (COk.with_ (COk.with_ (Tryd.ok ..) _ _) _ _) ?_
          | (refine Cnd.mk (fun h => ?_) (fun h => ?_) <;> (first | (exfalso; simp only [decide_eq_true_eq, decide_eq_false_iff_not, Bool.not_eq_true', Bool.not_eq_false'] at h; omega) | (exfalso; simp at h; omega) | simp at h | skip))
          | refine And.intro (Kept.mk ?_) ?_
          | refine Two.mk (And.intro ?_ ?_)
          | exact trivial
          | refine side2 ?_
          | refine sideL2 ?_
          | refine Or.inr ?_
          | refine sat_drawH (Tryd.ok ..) (by kernel_rfl) ?_
          | refine sat_drawH (COk.with_ (Tryd.ok ..) _ _) (by kernel_rfl) ?_
          | refine sat_drawH (COk.with_ (COk.with_ (Tryd.ok ..) _ _) _ _) (by kernel_rfl) ?_
          | refine Exists.intro [_] (And.intro (one_byte rfl) ?_)
          | refine Exists.intro [_] (And.intro (fun _ => one_byte rfl) ?_)
          | refine Exists.intro _ (And.intro (And.intro rfl rfl) ?_)
          | refine Exists.intro _ (And.intro (fun _ => And.intro rfl rfl) ?_)
          | refine Exists.intro _ (And.intro rfl ?_))
        refine sat_ops (COk.with_ (Tryd.ok ..) _ _) ?_
        repeat' ((conv => whnf); first
          | refine walk (Tryd.ok ..) ?_
          | refine walk (COk.with_ (Tryd.ok ..) _ _) ?_
          | refine walk (COk.with_ (COk.with_ (Tryd.ok ..) _ _) _ _) ?_
          | (refine Cnd.mk (fun h => ?_) (fun h => ?_) <;> (first | (exfalso; simp only [decide_eq_true_eq, decide_eq_false_iff_not, Bool.not_eq_true', Bool.not_eq_false'] at h; omega) | (exfalso; simp at h; omega) | simp at h | skip))
          | refine And.intro (Kept.mk ?_) ?_
          | refine Two.mk (And.intro ?_ ?_)
          | exact trivial
          | refine side2 ?_
          | refine sideL2 ?_
          | refine Or.inr ?_
          | refine sat_drawH (Tryd.ok ..) (by kernel_rfl) ?_
          | refine sat_drawH (COk.with_ (Tryd.ok ..) _ _) (by kernel_rfl) ?_
          | refine sat_drawH (COk.with_ (COk.with_ (Tryd.ok ..) _ _) _ _) (by kernel_rfl) ?_
          | refine Exists.intro [_] (And.intro (one_byte rfl) ?_)
          | refine Exists.intro [_] (And.intro (fun _ => one_byte rfl) ?_)
          | refine Exists.intro _ (And.intro (And.intro rfl rfl) ?_)
          | refine Exists.intro _ (And.intro (fun _ => And.intro rfl rfl) ?_)
          | refine Exists.intro _ (And.intro rfl ?_))
        refine ⟨(j + 1, ⟨m', (s.t + 10080 * (m' : Int)), ci, .s 301 pB.1 pB.2 off n cap', A5, cap5⟩), ⟨⟨rfl, hj, inn_next hI j2 hTb (fun y h1 h2 _ _ => next_gap okl hw hs h1 h2), .inr ⟨pB, off, n, cap', rfl, rfl, hn, hoff, hcap⟩⟩, by show l.length - (j + 1) < l.length - j; omega⟩, ?_, ?_, rfl⟩
        all_goals ((repeat' (first | exact trivial | exact rfl | refine And.intro ?_ ?_)) <;> (try (conv => whnf)) <;> (try simp only [SV.real, SV.r2, SV.r1]))
    · obtain rfl : j = l.length := by omega
      rw [beg_end (Nat.le_refl _)] at hI
      repeat' ((conv => whnf); first
        | refine walk (Tryd.ok ..) ?_
        | refine walk (COk.with_ (Tryd.ok ..) _ _) ?_
        | refine walk (COk.with_ (COk.with_ (Tryd.ok ..) _ _) _ _) ?_
        | (refine Cnd.mk (fun h => ?_) (fun h => ?_) <;> (first | (exfalso; simp only [decide_eq_true_eq, decide_eq_false_iff_not, Bool.not_eq_true', Bool.not_eq_false'] at h; omega) | (exfalso; simp at h; omega) | simp at h | skip))
        | refine And.intro (Kept.mk ?_) ?_
        | refine Two.mk (And.intro ?_ ?_)
        | exact trivial
        | refine side2 ?_
        | refine sideL2 ?_
        | refine Or.inr ?_
        | refine sat_drawH (Tryd.ok ..) (by kernel_rfl) ?_
        | refine sat_drawH (COk.with_ (Tryd.ok ..) _ _) (by kernel_rfl) ?_
        | refine sat_drawH (COk.with_ (COk.with_ (Tryd.ok ..) _ _) _ _) (by kernel_rfl) ?_
        | refine Exists.intro [_] (And.intro (one_byte rfl) ?_)
        | refine Exists.intro [_] (And.intro (fun _ => one_byte rfl) ?_)
        | refine Exists.intro _ (And.intro (And.intro rfl rfl) ?_)
        | refine Exists.intro _ (And.intro (fun _ => And.intro rfl rfl) ?_)
        | refine Exists.intro _ (And.intro rfl ?_))
      refine sat_ops (COk.with_ (Tryd.ok ..) _ _) ?_
      repeat' ((conv => whnf); first
        | refine walk (Tryd.ok ..) ?_
        | refine walk (COk.with_ (Tryd.ok ..) _ _) ?_
        | refine walk (COk.with_ (COk.with_ (Tryd.ok ..) _ _) _ _) ?_
        | (refine Cnd.mk (fun h => ?_) (fun h => ?_) <;> (first | (exfalso; simp only [decide_eq_true_eq, decide_eq_false_iff_not, Bool.not_eq_true', Bool.not_eq_false'] at h; omega) | (exfalso; simp at h; omega) | simp at h | skip))
        | refine And.intro (Kept.mk ?_) ?_
        | refine Two.mk (And.intro ?_ ?_)
        | exact trivial
        | refine side2 ?_
        | refine sideL2 ?_
        | refine Or.inr ?_
        | refine sat_drawH (Tryd.ok ..) (by kernel_rfl) ?_
        | refine sat_drawH (COk.with_ (Tryd.ok ..) _ _) (by kernel_rfl) ?_
        | refine sat_drawH (COk.with_ (COk.with_ (Tryd.ok ..) _ _) _ _) (by kernel_rfl) ?_
        | refine Exists.intro [_] (And.intro (one_byte rfl) ?_)
        | refine Exists.intro [_] (And.intro (fun _ => one_byte rfl) ?_)
        | refine Exists.intro _ (And.intro (And.intro rfl rfl) ?_)
        | refine Exists.intro _ (And.intro (fun _ => And.intro rfl rfl) ?_)
        | refine Exists.intro _ (And.intro rfl ?_))
      refine ⟨⟨m' + 1, q, ci, cl, A1, cap1⟩, ⟨⟨by show m' + 1 ≤ 20000; omega, sn_week okl hw (by
        show Inn l c a b (10080 * ((m' + 1 : Nat) : Int)) q ci
        rw [show (10080 : Int) * ((m' + 1 : Nat) : Int) = 10080 * (m' : Int) + 10080 by omega]
        exact hI), hcl⟩, by show 20001 - (m' + 1) < 20001 - m'; omega⟩, ?_, ?_, rfl⟩
      · dsimp only
        rw [show (10080 : Int) * ((m' + 1 : Nat) : Int) = 10080 * (m' : Int) + 10080 by omega]
        ((repeat' (first | exact trivial | exact rfl | refine And.intro ?_ ?_)) <;> (try (conv => whnf)) <;> (try simp only [SV.real, SV.r2, SV.r1]))
      · ((repeat' (first | exact trivial | exact rfl | refine And.intro ?_ ?_)) <;> (try (conv => whnf)) <;> (try simp only [SV.real, SV.r2, SV.r1]))
        all_goals exact heq_refl _
  · have he : toldAt (opn l c) a b q = snR l c a b := sn_end hab hI (by have := beg_ge okl m 0; omega)
    repeat' ((conv => whnf); first
      | refine walk (Tryd.ok ..) ?_
      | refine walk (COk.with_ (Tryd.ok ..) _ _) ?_
      | refine walk (COk.with_ (COk.with_ (Tryd.ok ..) _ _) _ _) ?_
      | (refine Cnd.mk (fun h => ?_) (fun h => ?_) <;> (first | (exfalso; simp only [decide_eq_true_eq, decide_eq_false_iff_not, Bool.not_eq_true', Bool.not_eq_false'] at h; omega) | (exfalso; simp at h; omega) | simp at h | skip))
      | refine And.intro (Kept.mk ?_) ?_
      | refine Two.mk (And.intro ?_ ?_)
      | exact trivial
      | refine side2 ?_
      | refine sideL2 ?_
      | refine Or.inr ?_
      | refine sat_drawH (Tryd.ok ..) (by kernel_rfl) ?_
      | refine sat_drawH (COk.with_ (Tryd.ok ..) _ _) (by kernel_rfl) ?_
      | refine sat_drawH (COk.with_ (COk.with_ (Tryd.ok ..) _ _) _ _) (by kernel_rfl) ?_
      | refine Exists.intro [_] (And.intro (one_byte rfl) ?_)
      | refine Exists.intro [_] (And.intro (fun _ => one_byte rfl) ?_)
      | refine Exists.intro _ (And.intro (And.intro rfl rfl) ?_)
      | refine Exists.intro _ (And.intro (fun _ => And.intro rfl rfl) ?_)
      | refine Exists.intro _ (And.intro rfl ?_))
    subst hB
    refine done_in ?_
    repeat' ((conv => whnf); first
      | refine walk (Tryd.ok ..) ?_
      | refine walk (COk.with_ (Tryd.ok ..) _ _) ?_
      | refine walk (COk.with_ (COk.with_ (Tryd.ok ..) _ _) _ _) ?_
      | (refine Cnd.mk (fun h => ?_) (fun h => ?_) <;> (first | (exfalso; simp only [decide_eq_true_eq, decide_eq_false_iff_not, Bool.not_eq_true', Bool.not_eq_false'] at h; omega) | (exfalso; simp at h; omega) | simp at h | skip))
      | refine And.intro (Kept.mk ?_) ?_
      | refine Two.mk (And.intro ?_ ?_)
      | exact trivial
      | refine side2 ?_
      | refine sideL2 ?_
      | refine Or.inr ?_
      | refine sat_drawH (Tryd.ok ..) (by kernel_rfl) ?_
      | refine sat_drawH (COk.with_ (Tryd.ok ..) _ _) (by kernel_rfl) ?_
      | refine sat_drawH (COk.with_ (COk.with_ (Tryd.ok ..) _ _) _ _) (by kernel_rfl) ?_
      | refine Exists.intro [_] (And.intro (one_byte rfl) ?_)
      | refine Exists.intro [_] (And.intro (fun _ => one_byte rfl) ?_)
      | refine Exists.intro _ (And.intro (And.intro rfl rfl) ?_)
      | refine Exists.intro _ (And.intro (fun _ => And.intro rfl rfl) ?_)
      | refine Exists.intro _ (And.intro rfl ?_))
    by_cases hle : (snR l c a b).length ≤ 1000
    · refine called_pure (.t [.o 80 A1 (toldAt (opn l c) a b q).length cap1, .v (.int .i64 0)]) rfl (fun w' => told_few A1 _ cap1 (by rw [he]; exact hle) w') ?_
      repeat' ((conv => whnf); first
        | refine walk (Tryd.ok ..) ?_
        | refine walk (COk.with_ (Tryd.ok ..) _ _) ?_
        | refine walk (COk.with_ (COk.with_ (Tryd.ok ..) _ _) _ _) ?_
        | (refine Cnd.mk (fun h => ?_) (fun h => ?_) <;> (first | (exfalso; simp only [decide_eq_true_eq, decide_eq_false_iff_not, Bool.not_eq_true', Bool.not_eq_false'] at h; omega) | (exfalso; simp at h; omega) | simp at h | skip))
        | refine And.intro (Kept.mk ?_) ?_
        | refine Two.mk (And.intro ?_ ?_)
        | exact trivial
        | refine side2 ?_
        | refine sideL2 ?_
        | refine Or.inr ?_
        | refine sat_drawH (Tryd.ok ..) (by kernel_rfl) ?_
        | refine sat_drawH (COk.with_ (Tryd.ok ..) _ _) (by kernel_rfl) ?_
        | refine sat_drawH (COk.with_ (COk.with_ (Tryd.ok ..) _ _) _ _) (by kernel_rfl) ?_
        | refine Exists.intro [_] (And.intro (one_byte rfl) ?_)
        | refine Exists.intro [_] (And.intro (fun _ => one_byte rfl) ?_)
        | refine Exists.intro _ (And.intro (And.intro rfl rfl) ?_)
        | refine Exists.intro _ (And.intro (fun _ => And.intro rfl rfl) ?_)
        | refine Exists.intro _ (And.intro rfl ?_))
      obtain ⟨h3, h4⟩ := sn_yes hyes hle
      rw [h3, h4, ← he]
      exact done_row (mk := fun v => .tuple #[v, .int .i64 0]) rfl rfl 80 A1 cap1 rfl rfl
    · refine called_pure (.t [.v (.slice none 0 0), .v (.int .i64 5)]) rfl (fun w' => told_many A1 (toldAt (opn l c) a b q).length cap1 (by rw [he]; omega) w') ?_
      repeat' ((conv => whnf); first
        | refine walk (Tryd.ok ..) ?_
        | refine walk (COk.with_ (Tryd.ok ..) _ _) ?_
        | refine walk (COk.with_ (COk.with_ (Tryd.ok ..) _ _) _ _) ?_
        | (refine Cnd.mk (fun h => ?_) (fun h => ?_) <;> (first | (exfalso; simp only [decide_eq_true_eq, decide_eq_false_iff_not, Bool.not_eq_true', Bool.not_eq_false'] at h; omega) | (exfalso; simp at h; omega) | simp at h | skip))
        | refine And.intro (Kept.mk ?_) ?_
        | refine Two.mk (And.intro ?_ ?_)
        | exact trivial
        | refine side2 ?_
        | refine sideL2 ?_
        | refine Or.inr ?_
        | refine sat_drawH (Tryd.ok ..) (by kernel_rfl) ?_
        | refine sat_drawH (COk.with_ (Tryd.ok ..) _ _) (by kernel_rfl) ?_
        | refine sat_drawH (COk.with_ (COk.with_ (Tryd.ok ..) _ _) _ _) (by kernel_rfl) ?_
        | refine Exists.intro [_] (And.intro (one_byte rfl) ?_)
        | refine Exists.intro [_] (And.intro (fun _ => one_byte rfl) ?_)
        | refine Exists.intro _ (And.intro (And.intro rfl rfl) ?_)
        | refine Exists.intro _ (And.intro (fun _ => And.intro rfl rfl) ?_)
        | refine Exists.intro _ (And.intro rfl ?_))
      obtain ⟨h3, h4⟩ := sn_many hyes hle
      rw [h3, h4]
      exact done_nil (mk := fun v => .tuple #[v, .int .i64 5]) rfl rfl rfl
theorem spansAny : SpansAny := fun l c A B cA cB a b w hA hB hl hc hcB => spans_any l c A B cA cB a b w hA hB hl hc hcB
end Go.Proofs.YtodecgpjidlldaaDoor
