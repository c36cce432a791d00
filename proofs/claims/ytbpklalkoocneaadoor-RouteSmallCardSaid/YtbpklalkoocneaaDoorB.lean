/-
  The walks of the route package: what a right route is.
-/
import Derived.Test.YtbpklalkoocneaaDoorA
namespace Go.Proofs.YtbpklalkoocneaaDoor
open Go Sat Go.RowKit Go.PlainAid
set_option linter.unusedSimpArgs false
set_option linter.unusedVariables false
theorem at_c {l : List Cl} {i : Int} {k : Nat} {c : Cl} (hc : l[k]? = some c) (hi : i = k) : (cC c).length = 3 ∧ ∀ j, j < 3 → (cells l)[mulS i.toNat 3 + j]? = (cC c)[j]? := by
  refine ⟨rfl, fun j hj => ?_⟩
  rw [mulS_eq, hi, Int.toNat_natCast]
  have h := cells_get hc
  rcases j with _ | _ | _ | j
  · exact h.1
  · exact h.2.1
  · exact h.2.2
  · omega
theorem real2 {a a' b b' : Int} (h : a = a') (h2 : b = b') : (SV.t [.v (.int .i64 a), .v (.int .i64 b)]).real = .tuple #[.int .i64 a', .int .i64 b'] := by subst h; subst h2; rfl
set_option maxRecDepth 100000 in
set_option maxHeartbeats 8000000 in
theorem valid_any (l : List Cl) (A : Option (Nat × Nat)) (cap : Nat) (w : World) (hro : Ro w A l.length 3 (cells l)) (hl : l.length ≤ 9223372036854775807) : Calls Tryd.prog 18 #[.slice (adr A) l.length cap] w fun e w' => e = .returned (.tuple #[.int .i64 (valI l), .int .i64 (valE l)]) ∧ Below w.heap.size w w' := by
  refine calls_sat (cx := Tryd.cx 49 [3, 10] [] [] w) (Tryd.ok ..) Tryd.func18 rfl [.o 100 A l.length cap] rfl (by show 1 ≤ 49; omega) [(100, .ro A l.length 3 (cells l))] (holds_ros rfl rfl ⟨hro, trivial⟩) ?_
  repeat' ((conv => whnf); first
    | refine walk (Tryd.ok ..) ?_
    | refine walk (COk.with_ (Tryd.ok ..) _ _) ?_
    | refine walk (COk.with_ (COk.with_ (Tryd.ok ..) _ _) _ _) ?_
    | (refine Cnd.mk (fun h => ?_) (fun h => ?_) <;> (first | (exfalso; simp only [decide_eq_true_eq, decide_eq_false_iff_not, Bool.not_eq_true', Bool.not_eq_false'] at h; omega) | (exfalso; simp at h; omega) | simp at h | skip))
    | refine And.intro (Kept.mk ?_) ?_
    | refine Two.mk (And.intro ?_ ?_)
    | exact trivial
    | refine side ?_
    | refine sideL ?_
    | refine Or.inr ?_
    | refine sat_drawH (Tryd.ok ..) (by kernel_rfl) ?_
    | refine sat_drawH (COk.with_ (Tryd.ok ..) _ _) (by kernel_rfl) ?_
    | refine sat_drawH (COk.with_ (COk.with_ (Tryd.ok ..) _ _) _ _) (by kernel_rfl) ?_
    | refine Exists.intro [_] (And.intro (one_byte rfl) ?_)
    | refine Exists.intro [_] (And.intro (fun _ => one_byte rfl) ?_)
    | refine Exists.intro _ (And.intro (And.intro rfl rfl) ?_)
    | refine Exists.intro _ (And.intro (fun _ => And.intro rfl rfl) ?_)
    | refine Exists.intro _ (And.intro rfl ?_)
    | intro g hg)
  all_goals (try (conv => whnf))
  · exact done_pure rfl rfl (real2 (by unfold valI; rw [if_pos (by omega)]) (by unfold valE; rw [if_pos (by omega)]))
  refine sat_ops (Tryd.ok ..) ?_
  repeat' ((conv => whnf); first
    | refine walk (Tryd.ok ..) ?_
    | refine walk (COk.with_ (Tryd.ok ..) _ _) ?_
    | refine walk (COk.with_ (COk.with_ (Tryd.ok ..) _ _) _ _) ?_
    | (refine Cnd.mk (fun h => ?_) (fun h => ?_) <;> (first | (exfalso; simp only [decide_eq_true_eq, decide_eq_false_iff_not, Bool.not_eq_true', Bool.not_eq_false'] at h; omega) | (exfalso; simp at h; omega) | simp at h | skip))
    | refine And.intro (Kept.mk ?_) ?_
    | refine Two.mk (And.intro ?_ ?_)
    | exact trivial
    | refine side ?_
    | refine sideL ?_
    | refine Or.inr ?_
    | refine sat_drawH (Tryd.ok ..) (by kernel_rfl) ?_
    | refine sat_drawH (COk.with_ (Tryd.ok ..) _ _) (by kernel_rfl) ?_
    | refine sat_drawH (COk.with_ (COk.with_ (Tryd.ok ..) _ _) _ _) (by kernel_rfl) ?_
    | refine Exists.intro [_] (And.intro (one_byte rfl) ?_)
    | refine Exists.intro [_] (And.intro (fun _ => one_byte rfl) ?_)
    | refine Exists.intro _ (And.intro (And.intro rfl rfl) ?_)
    | refine Exists.intro _ (And.intro (fun _ => And.intro rfl rfl) ?_)
    | refine Exists.intro _ (And.intro rfl ?_)
    | intro g hg)
  · exact done_pure rfl rfl (real2 (by unfold valI; rw [if_pos (by omega)]) (by unfold valE; rw [if_neg (by omega), if_pos (by omega)]))
  obtain ⟨c0, hc0⟩ : ∃ c, l[0]? = some c := ⟨l[0], List.getElem?_eq_getElem (by omega)⟩
  repeat' ((conv => whnf); first
    | refine walk (Tryd.ok ..) ?_
    | refine walk (COk.with_ (Tryd.ok ..) _ _) ?_
    | refine walk (COk.with_ (COk.with_ (Tryd.ok ..) _ _) _ _) ?_
    | (refine Cnd.mk (fun h => ?_) (fun h => ?_) <;> (first | (exfalso; simp only [decide_eq_true_eq, decide_eq_false_iff_not, Bool.not_eq_true', Bool.not_eq_false'] at h; omega) | (exfalso; simp at h; omega) | simp at h | skip))
    | refine And.intro (Kept.mk ?_) ?_
    | refine Two.mk (And.intro ?_ ?_)
    | exact trivial
    | refine side ?_
    | refine sideL ?_
    | refine Or.inr ?_
    | refine sat_drawH (Tryd.ok ..) (by kernel_rfl) ?_
    | refine sat_drawH (COk.with_ (Tryd.ok ..) _ _) (by kernel_rfl) ?_
    | refine sat_drawH (COk.with_ (COk.with_ (Tryd.ok ..) _ _) _ _) (by kernel_rfl) ?_
    | refine Exists.intro [_] (And.intro (one_byte rfl) ?_)
    | refine Exists.intro [_] (And.intro (fun _ => one_byte rfl) ?_)
    | refine Exists.intro _ (And.intro (And.intro rfl rfl) ?_)
    | refine Exists.intro _ (And.intro (fun _ => And.intro rfl rfl) ?_)
    | refine Exists.intro _ (And.intro rfl ?_)
    | refine Exists.intro _ (And.intro (fun _ => (at_c hc0 rfl)) ?_)
    | refine Exists.intro _ (And.intro (at_c hc0 rfl) ?_)
    | intro g hg)
  all_goals (try (conv => whnf))
  refine called_pure (.v (.bool (rightC c0))) rfl (fun w' => right_any c0 w') ?_
  repeat' ((conv => whnf); first
    | refine walk (Tryd.ok ..) ?_
    | refine walk (COk.with_ (Tryd.ok ..) _ _) ?_
    | refine walk (COk.with_ (COk.with_ (Tryd.ok ..) _ _) _ _) ?_
    | (refine Cnd.mk (fun h => ?_) (fun h => ?_) <;> (first | (exfalso; simp only [decide_eq_true_eq, decide_eq_false_iff_not, Bool.not_eq_true', Bool.not_eq_false'] at h; omega) | (exfalso; simp at h; omega) | simp at h | skip))
    | refine And.intro (Kept.mk ?_) ?_
    | refine Two.mk (And.intro ?_ ?_)
    | exact trivial
    | refine side ?_
    | refine sideL ?_
    | refine Or.inr ?_
    | refine sat_drawH (Tryd.ok ..) (by kernel_rfl) ?_
    | refine sat_drawH (COk.with_ (Tryd.ok ..) _ _) (by kernel_rfl) ?_
    | refine sat_drawH (COk.with_ (COk.with_ (Tryd.ok ..) _ _) _ _) (by kernel_rfl) ?_
    | refine Exists.intro [_] (And.intro (one_byte rfl) ?_)
    | refine Exists.intro [_] (And.intro (fun _ => one_byte rfl) ?_)
    | refine Exists.intro _ (And.intro (And.intro rfl rfl) ?_)
    | refine Exists.intro _ (And.intro (fun _ => And.intro rfl rfl) ?_)
    | refine Exists.intro _ (And.intro rfl ?_)
    | intro g hg)
  all_goals (try (conv => whnf))
  · have hb0 : badAt l 0 = true := by
      unfold badAt
      rw [hc0]
      simp [h]
    have hfb : firstBad l = some 0 := firstBad_at (by omega) hb0 (fun j hj => absurd hj (by omega))
    exact done_pure rfl rfl (real2 (by unfold valI; rw [if_neg (by omega), hfb]; rfl) (by unfold valE; rw [if_neg (by omega), if_neg (by omega), hfb]))
  refine called_in (Tryd.ok ..) Tryd.func36 rfl (by show 1 ≤ 4; omega) ?_
  repeat' ((conv => whnf); first
    | refine walk (Tryd.ok ..) ?_
    | refine walk (COk.with_ (Tryd.ok ..) _ _) ?_
    | refine walk (COk.with_ (COk.with_ (Tryd.ok ..) _ _) _ _) ?_
    | (refine Cnd.mk (fun h => ?_) (fun h => ?_) <;> (first | (exfalso; simp only [decide_eq_true_eq, decide_eq_false_iff_not, Bool.not_eq_true', Bool.not_eq_false'] at h; omega) | (exfalso; simp at h; omega) | simp at h | skip))
    | refine And.intro (Kept.mk ?_) ?_
    | refine Two.mk (And.intro ?_ ?_)
    | exact trivial
    | refine side ?_
    | refine sideL ?_
    | refine Or.inr ?_
    | refine sat_drawH (Tryd.ok ..) (by kernel_rfl) ?_
    | refine sat_drawH (COk.with_ (Tryd.ok ..) _ _) (by kernel_rfl) ?_
    | refine sat_drawH (COk.with_ (COk.with_ (Tryd.ok ..) _ _) _ _) (by kernel_rfl) ?_
    | refine Exists.intro [_] (And.intro (one_byte rfl) ?_)
    | refine Exists.intro [_] (And.intro (fun _ => one_byte rfl) ?_)
    | refine Exists.intro _ (And.intro (And.intro rfl rfl) ?_)
    | refine Exists.intro _ (And.intro (fun _ => And.intro rfl rfl) ?_)
    | refine Exists.intro _ (And.intro rfl ?_)
    | intro g hg)
  all_goals (try (conv => whnf))
  refine done_in ?_
  repeat' ((conv => whnf); first
    | refine walk (Tryd.ok ..) ?_
    | refine walk (COk.with_ (Tryd.ok ..) _ _) ?_
    | refine walk (COk.with_ (COk.with_ (Tryd.ok ..) _ _) _ _) ?_
    | (refine Cnd.mk (fun h => ?_) (fun h => ?_) <;> (first | (exfalso; simp only [decide_eq_true_eq, decide_eq_false_iff_not, Bool.not_eq_true', Bool.not_eq_false'] at h; omega) | (exfalso; simp at h; omega) | simp at h | skip))
    | refine And.intro (Kept.mk ?_) ?_
    | refine Two.mk (And.intro ?_ ?_)
    | exact trivial
    | refine side ?_
    | refine sideL ?_
    | refine Or.inr ?_
    | refine sat_drawH (Tryd.ok ..) (by kernel_rfl) ?_
    | refine sat_drawH (COk.with_ (Tryd.ok ..) _ _) (by kernel_rfl) ?_
    | refine sat_drawH (COk.with_ (COk.with_ (Tryd.ok ..) _ _) _ _) (by kernel_rfl) ?_
    | refine Exists.intro [_] (And.intro (one_byte rfl) ?_)
    | refine Exists.intro [_] (And.intro (fun _ => one_byte rfl) ?_)
    | refine Exists.intro _ (And.intro (And.intro rfl rfl) ?_)
    | refine Exists.intro _ (And.intro (fun _ => And.intro rfl rfl) ?_)
    | refine Exists.intro _ (And.intro rfl ?_))
  all_goals (try (conv => whnf))
  intro D L hD hL
  repeat' ((conv => whnf); first
    | refine walk (Tryd.ok ..) ?_
    | refine walk (COk.with_ (Tryd.ok ..) _ _) ?_
    | refine walk (COk.with_ (COk.with_ (Tryd.ok ..) _ _) _ _) ?_
    | (refine Cnd.mk (fun h => ?_) (fun h => ?_) <;> (first | (exfalso; simp only [decide_eq_true_eq, decide_eq_false_iff_not, Bool.not_eq_true', Bool.not_eq_false'] at h; omega) | (exfalso; simp at h; omega) | simp at h | skip))
    | refine And.intro (Kept.mk ?_) ?_
    | refine Two.mk (And.intro ?_ ?_)
    | exact trivial
    | refine side ?_
    | refine sideL ?_
    | refine Or.inr ?_
    | refine sat_drawH (Tryd.ok ..) (by kernel_rfl) ?_
    | refine sat_drawH (COk.with_ (Tryd.ok ..) _ _) (by kernel_rfl) ?_
    | refine sat_drawH (COk.with_ (COk.with_ (Tryd.ok ..) _ _) _ _) (by kernel_rfl) ?_
    | refine Exists.intro [_] (And.intro (one_byte rfl) ?_)
    | refine Exists.intro [_] (And.intro (fun _ => one_byte rfl) ?_)
    | refine Exists.intro _ (And.intro (And.intro rfl rfl) ?_)
    | refine Exists.intro _ (And.intro (fun _ => And.intro rfl rfl) ?_)
    | refine Exists.intro _ (And.intro rfl ?_))
  all_goals (try (conv => whnf))
  generalize hB : HB.lp _ _ _ _ _ _ _ _ _ = B
  refine called_in (Tryd.ok ..) Tryd.func54 rfl (by show 2 ≤ 25; omega) ?_
  repeat' ((conv => whnf); first
    | refine walk (Tryd.ok ..) ?_
    | refine walk (COk.with_ (Tryd.ok ..) _ _) ?_
    | refine walk (COk.with_ (COk.with_ (Tryd.ok ..) _ _) _ _) ?_
    | (refine Cnd.mk (fun h => ?_) (fun h => ?_) <;> (first | (exfalso; simp only [decide_eq_true_eq, decide_eq_false_iff_not, Bool.not_eq_true', Bool.not_eq_false'] at h; omega) | (exfalso; simp at h; omega) | simp at h | skip))
    | refine And.intro (Kept.mk ?_) ?_
    | refine Two.mk (And.intro ?_ ?_)
    | exact trivial
    | refine side ?_
    | refine sideL ?_
    | refine Or.inr ?_
    | refine sat_drawH (Tryd.ok ..) (by kernel_rfl) ?_
    | refine sat_drawH (COk.with_ (Tryd.ok ..) _ _) (by kernel_rfl) ?_
    | refine sat_drawH (COk.with_ (COk.with_ (Tryd.ok ..) _ _) _ _) (by kernel_rfl) ?_
    | refine Exists.intro [_] (And.intro (one_byte rfl) ?_)
    | refine Exists.intro [_] (And.intro (fun _ => one_byte rfl) ?_)
    | refine Exists.intro _ (And.intro (And.intro rfl rfl) ?_)
    | refine Exists.intro _ (And.intro (fun _ => And.intro rfl rfl) ?_)
    | refine Exists.intro _ (And.intro rfl ?_))
  all_goals (try (conv => whnf))
  rename_i g2 hg2 g3 hg3 hlo hhi
  refine sat_loop (COk.with_ (Tryd.ok ..) _ _) (α := Nat) (fun x => ([(0, .yes, .v (.func (.yield L) #[] #[])), (1, .yes, .p 1 g 0 0), (6, .yes, .v (.int .i64 (l.length - 1))), (7, .yes, .v (.int .i64 x))], [(1000000, .dfr D), (1000001, B), (1, .blk g 22 [.o 100 A l.length cap]), (100, .ro A l.length 3 (cells l)), (2, .blk g2 3 [.v (.int .i64 0)]), (3, .blk g3 30 [.v (.int .i64 0)])])) (fun x => x < l.length ∧ ∀ j, j ≤ x → badAt l j = false) (fun x => l.length - x) (fun _ => rfl) ?_ ?_
  · skip
    refine ⟨0, ⟨by omega, ?_⟩, ?_, ?_, rfl⟩
    · intro j hj
      obtain rfl : j = 0 := by omega
      unfold badAt
      rw [hc0]
      simp [h]
    all_goals ((repeat' (first | exact trivial | exact rfl | refine And.intro ?_ ?_)) <;> (try (conv => whnf)) <;> (try simp only [SV.real, SV.r2, SV.r1]))
    all_goals (subst hB)
    all_goals ((repeat' (first | exact trivial | exact rfl | refine And.intro ?_ ?_)) <;> (try (conv => whnf)) <;> (try simp only [SV.real, SV.r2, SV.r1]))
  rintro k ⟨hk, hok⟩
  obtain ⟨ca, hca⟩ : ∃ c, l[k]? = some c := ⟨l[k], List.getElem?_eq_getElem hk⟩
  by_cases hk1 : k + 1 < l.length
  · obtain ⟨cb, hcb⟩ : ∃ c, l[k + 1]? = some c := ⟨l[k + 1], List.getElem?_eq_getElem hk1⟩
    repeat' ((conv => whnf); first
      | refine walk (Tryd.ok ..) ?_
      | refine walk (COk.with_ (Tryd.ok ..) _ _) ?_
      | refine walk (COk.with_ (COk.with_ (Tryd.ok ..) _ _) _ _) ?_
      | (refine Cnd.mk (fun h => ?_) (fun h => ?_) <;> (first | (exfalso; simp only [decide_eq_true_eq, decide_eq_false_iff_not, Bool.not_eq_true', Bool.not_eq_false'] at h; omega) | (exfalso; simp at h; omega) | simp at h | skip))
      | refine And.intro (Kept.mk ?_) ?_
      | refine Two.mk (And.intro ?_ ?_)
      | exact trivial
      | refine side ?_
      | refine sideL ?_
      | refine Or.inr ?_
      | refine Exists.intro [_] (And.intro (one_byte rfl) ?_)
      | refine Exists.intro [_] (And.intro (fun _ => one_byte rfl) ?_)
      | refine Exists.intro _ (And.intro (And.intro rfl rfl) ?_)
      | refine Exists.intro _ (And.intro (fun _ => And.intro rfl rfl) ?_)
      | refine Exists.intro _ (And.intro rfl ?_))
    refine sat_draw (COk.with_ (Tryd.ok ..) _ _) [] [(1, .blk g 22 [.o 100 A l.length cap]), (100, .ro A l.length 3 (cells l))] (by kernel_rfl) (fun w hw => hw.sub ?_) ?_
    · ((repeat' (first | exact trivial | exact rfl | refine And.intro ?_ ?_)) <;> (try (conv => whnf)) <;> (try simp only [SV.real, SV.r2, SV.r1]))
    repeat' ((conv => whnf); first
      | refine walk (Tryd.ok ..) ?_
      | refine walk (COk.with_ (Tryd.ok ..) _ _) ?_
      | refine walk (COk.with_ (COk.with_ (Tryd.ok ..) _ _) _ _) ?_
      | (refine Cnd.mk (fun h => ?_) (fun h => ?_) <;> (first | (exfalso; simp only [decide_eq_true_eq, decide_eq_false_iff_not, Bool.not_eq_true', Bool.not_eq_false'] at h; omega) | (exfalso; simp at h; omega) | simp at h | skip))
      | refine And.intro (Kept.mk ?_) ?_
      | refine Two.mk (And.intro ?_ ?_)
      | exact trivial
      | refine side ?_
      | refine sideL ?_
      | refine Or.inr ?_
      | refine sat_drawH (Tryd.ok ..) (by kernel_rfl) ?_
      | refine sat_drawH (COk.with_ (Tryd.ok ..) _ _) (by kernel_rfl) ?_
      | refine sat_drawH (COk.with_ (COk.with_ (Tryd.ok ..) _ _) _ _) (by kernel_rfl) ?_
      | refine Exists.intro [_] (And.intro (one_byte rfl) ?_)
      | refine Exists.intro [_] (And.intro (fun _ => one_byte rfl) ?_)
      | refine Exists.intro _ (And.intro (And.intro rfl rfl) ?_)
      | refine Exists.intro _ (And.intro (fun _ => And.intro rfl rfl) ?_)
      | refine Exists.intro _ (And.intro rfl ?_)
      | refine Exists.intro _ (And.intro (fun _ => (at_c hca rfl)) ?_)
      | refine Exists.intro _ (And.intro (at_c hca rfl) ?_)
      | refine Exists.intro _ (And.intro (fun _ => (at_c hcb rfl)) ?_)
      | refine Exists.intro _ (And.intro (at_c hcb rfl) ?_))
    subst hB
    refine Sat.yielded (COk.with_ (Tryd.ok ..) _ _) (id := 1000001) rfl rfl rfl rfl ?_
    repeat' ((conv => whnf); first
      | refine walk (Tryd.ok ..) ?_
      | refine walk (COk.with_ (Tryd.ok ..) _ _) ?_
      | refine walk (COk.with_ (COk.with_ (Tryd.ok ..) _ _) _ _) ?_
      | (refine Cnd.mk (fun h => ?_) (fun h => ?_) <;> (first | (exfalso; simp only [decide_eq_true_eq, decide_eq_false_iff_not, Bool.not_eq_true', Bool.not_eq_false'] at h; omega) | (exfalso; simp at h; omega) | simp at h | skip))
      | refine And.intro (Kept.mk ?_) ?_
      | refine Two.mk (And.intro ?_ ?_)
      | exact trivial
      | refine side ?_
      | refine sideL ?_
      | refine Or.inr ?_
      | refine sat_drawH (Tryd.ok ..) (by kernel_rfl) ?_
      | refine sat_drawH (COk.with_ (Tryd.ok ..) _ _) (by kernel_rfl) ?_
      | refine sat_drawH (COk.with_ (COk.with_ (Tryd.ok ..) _ _) _ _) (by kernel_rfl) ?_
      | refine Exists.intro [_] (And.intro (one_byte rfl) ?_)
      | refine Exists.intro [_] (And.intro (fun _ => one_byte rfl) ?_)
      | refine Exists.intro _ (And.intro (And.intro rfl rfl) ?_)
      | refine Exists.intro _ (And.intro (fun _ => And.intro rfl rfl) ?_)
      | refine Exists.intro _ (And.intro rfl ?_))
    all_goals (try (conv => whnf))
    intro g5 hg5
    repeat' ((conv => whnf); first
      | refine walk (Tryd.ok ..) ?_
      | refine walk (COk.with_ (Tryd.ok ..) _ _) ?_
      | refine walk (COk.with_ (COk.with_ (Tryd.ok ..) _ _) _ _) ?_
      | (refine Cnd.mk (fun h => ?_) (fun h => ?_) <;> (first | (exfalso; simp only [decide_eq_true_eq, decide_eq_false_iff_not, Bool.not_eq_true', Bool.not_eq_false'] at h; omega) | (exfalso; simp at h; omega) | simp at h | skip))
      | refine And.intro (Kept.mk ?_) ?_
      | refine Two.mk (And.intro ?_ ?_)
      | exact trivial
      | refine side ?_
      | refine sideL ?_
      | refine Or.inr ?_
      | refine Exists.intro [_] (And.intro (one_byte rfl) ?_)
      | refine Exists.intro [_] (And.intro (fun _ => one_byte rfl) ?_)
      | refine Exists.intro _ (And.intro (And.intro rfl rfl) ?_)
      | refine Exists.intro _ (And.intro (fun _ => And.intro rfl rfl) ?_)
      | refine Exists.intro _ (And.intro rfl ?_))
    generalize hB2 : HB.lp _ _ _ _ _ _ _ LoopState.busy _ = B2
    refine sat_join (α := Nat × Nat) (fun x => ([(2, .yes, .p 2 g2 0 0), (3, .yes, .p 3 g3 0 0), (4, .yes, .v (.int .i64 k)), (6, .yes, .p 6 x.1 0 0), (7, .yes, .p 7 x.2 0 0)], [(1000000, .dfr D), (1000001, B2), (1, .blk g 22 [.o 100 A l.length cap]), (100, .ro A l.length 3 (cells l)), (2, .blk g2 3 [.v (.int .i64 0)]), (3, .blk g3 30 [.v (.int .i64 0)]), (6, .blk x.1 26 [.v (.string ca.p), .v (.int .i64 ca.t), .v (.int .i64 ca.d)]), (7, .blk x.2 26 [.v (.string cb.p), .v (.int .i64 cb.t), .v (.int .i64 cb.d)])])) (fun _ => True) (fun _ => rfl) ?_ ?_
    · refine sat_draw (COk.with_ (COk.with_ (Tryd.ok ..) _ _) _ _) [] [(5, .blk g5 71 [.v (.string ca.p), .v (.int .i64 ca.t), .v (.int .i64 ca.d), .v (.string cb.p), .v (.int .i64 cb.t), .v (.int .i64 cb.d)])] (by kernel_rfl) (fun w hw => hw.sub ?_) ?_
      · ((repeat' (first | exact trivial | exact rfl | refine And.intro ?_ ?_)) <;> (try (conv => whnf)) <;> (try simp only [SV.real, SV.r2, SV.r1]))
      repeat' ((conv => whnf); first
        | refine walk (Tryd.ok ..) ?_
        | refine walk (COk.with_ (Tryd.ok ..) _ _) ?_
        | refine walk (COk.with_ (COk.with_ (Tryd.ok ..) _ _) _ _) ?_
        | (refine Cnd.mk (fun h => ?_) (fun h => ?_) <;> (first | (exfalso; simp only [decide_eq_true_eq, decide_eq_false_iff_not, Bool.not_eq_true', Bool.not_eq_false'] at h; omega) | (exfalso; simp at h; omega) | simp at h | skip))
        | refine And.intro (Kept.mk ?_) ?_
        | refine Two.mk (And.intro ?_ ?_)
        | exact trivial
        | refine side ?_
        | refine sideL ?_
        | refine Or.inr ?_
        | refine sat_drawH (Tryd.ok ..) (by kernel_rfl) ?_
        | refine sat_drawH (COk.with_ (Tryd.ok ..) _ _) (by kernel_rfl) ?_
        | refine sat_drawH (COk.with_ (COk.with_ (Tryd.ok ..) _ _) _ _) (by kernel_rfl) ?_
        | refine Exists.intro [_] (And.intro (one_byte rfl) ?_)
        | refine Exists.intro [_] (And.intro (fun _ => one_byte rfl) ?_)
        | refine Exists.intro _ (And.intro (And.intro rfl rfl) ?_)
        | refine Exists.intro _ (And.intro (fun _ => And.intro rfl rfl) ?_)
        | refine Exists.intro _ (And.intro rfl ?_)
        | intro g hg)
      · rename_i ga hga
        refine ⟨(ga, g), trivial, ?_, ?_, rfl⟩
        all_goals ((repeat' (first | exact trivial | exact rfl | refine And.intro ?_ ?_)) <;> (try (conv => whnf)) <;> (try simp only [SV.real, SV.r2, SV.r1]))
        all_goals (subst hB2)
        all_goals ((repeat' (first | exact trivial | exact rfl | refine And.intro ?_ ?_)) <;> (try (conv => whnf)) <;> (try simp only [SV.real, SV.r2, SV.r1]))
      · rename_i ga hga
        refine ⟨(g, ga), trivial, ?_, ?_, rfl⟩
        all_goals ((repeat' (first | exact trivial | exact rfl | refine And.intro ?_ ?_)) <;> (try (conv => whnf)) <;> (try simp only [SV.real, SV.r2, SV.r1]))
        all_goals (subst hB2)
        all_goals ((repeat' (first | exact trivial | exact rfl | refine And.intro ?_ ?_)) <;> (try (conv => whnf)) <;> (try simp only [SV.real, SV.r2, SV.r1]))
    rintro ⟨g6, g7⟩ _
    repeat' ((conv => whnf); first
      | refine walk (Tryd.ok ..) ?_
      | refine walk (COk.with_ (Tryd.ok ..) _ _) ?_
      | refine walk (COk.with_ (COk.with_ (Tryd.ok ..) _ _) _ _) ?_
      | (refine Cnd.mk (fun h => ?_) (fun h => ?_) <;> (first | (exfalso; simp only [decide_eq_true_eq, decide_eq_false_iff_not, Bool.not_eq_true', Bool.not_eq_false'] at h; omega) | (exfalso; simp at h; omega) | simp at h | skip))
      | refine And.intro (Kept.mk ?_) ?_
      | refine Two.mk (And.intro ?_ ?_)
      | exact trivial
      | refine side ?_
      | refine sideL ?_
      | refine Or.inr ?_
      | refine sat_drawH (Tryd.ok ..) (by kernel_rfl) ?_
      | refine sat_drawH (COk.with_ (Tryd.ok ..) _ _) (by kernel_rfl) ?_
      | refine sat_drawH (COk.with_ (COk.with_ (Tryd.ok ..) _ _) _ _) (by kernel_rfl) ?_
      | refine Exists.intro [_] (And.intro (one_byte rfl) ?_)
      | refine Exists.intro [_] (And.intro (fun _ => one_byte rfl) ?_)
      | refine Exists.intro _ (And.intro (And.intro rfl rfl) ?_)
      | refine Exists.intro _ (And.intro (fun _ => And.intro rfl rfl) ?_)
      | refine Exists.intro _ (And.intro rfl ?_))
    refine called_pure (.v (.bool (rightC cb))) rfl (fun w' => right_any cb w') ?_
    repeat' ((conv => whnf); first
      | refine walk (Tryd.ok ..) ?_
      | refine walk (COk.with_ (Tryd.ok ..) _ _) ?_
      | refine walk (COk.with_ (COk.with_ (Tryd.ok ..) _ _) _ _) ?_
      | (refine Cnd.mk (fun h => ?_) (fun h => ?_) <;> (first | (exfalso; simp only [decide_eq_true_eq, decide_eq_false_iff_not, Bool.not_eq_true', Bool.not_eq_false'] at h; omega) | (exfalso; simp at h; omega) | simp at h | skip))
      | refine And.intro (Kept.mk ?_) ?_
      | refine Two.mk (And.intro ?_ ?_)
      | exact trivial
      | refine side ?_
      | refine sideL ?_
      | refine Or.inr ?_
      | refine sat_drawH (Tryd.ok ..) (by kernel_rfl) ?_
      | refine sat_drawH (COk.with_ (Tryd.ok ..) _ _) (by kernel_rfl) ?_
      | refine sat_drawH (COk.with_ (COk.with_ (Tryd.ok ..) _ _) _ _) (by kernel_rfl) ?_
      | refine Exists.intro [_] (And.intro (one_byte rfl) ?_)
      | refine Exists.intro [_] (And.intro (fun _ => one_byte rfl) ?_)
      | refine Exists.intro _ (And.intro (And.intro rfl rfl) ?_)
      | refine Exists.intro _ (And.intro (fun _ => And.intro rfl rfl) ?_)
      | refine Exists.intro _ (And.intro rfl ?_))
    · have hcond := h
      subst hB2
      repeat' ((conv => whnf); first
        | refine walk (Tryd.ok ..) ?_
        | refine walk (COk.with_ (Tryd.ok ..) _ _) ?_
        | refine walk (COk.with_ (COk.with_ (Tryd.ok ..) _ _) _ _) ?_
        | (refine Cnd.mk (fun h => ?_) (fun h => ?_) <;> (first | (exfalso; simp only [decide_eq_true_eq, decide_eq_false_iff_not, Bool.not_eq_true', Bool.not_eq_false'] at h; omega) | (exfalso; simp at h; omega) | simp at h | skip))
        | refine And.intro (Kept.mk ?_) ?_
        | refine Two.mk (And.intro ?_ ?_)
        | exact trivial
        | refine side ?_
        | refine sideL ?_
        | refine Or.inr ?_
        | refine sat_drawH (Tryd.ok ..) (by kernel_rfl) ?_
        | refine sat_drawH (COk.with_ (Tryd.ok ..) _ _) (by kernel_rfl) ?_
        | refine sat_drawH (COk.with_ (COk.with_ (Tryd.ok ..) _ _) _ _) (by kernel_rfl) ?_
        | refine Exists.intro [_] (And.intro (one_byte rfl) ?_)
        | refine Exists.intro [_] (And.intro (fun _ => one_byte rfl) ?_)
        | refine Exists.intro _ (And.intro (And.intro rfl rfl) ?_)
        | refine Exists.intro _ (And.intro (fun _ => And.intro rfl rfl) ?_)
        | refine Exists.intro _ (And.intro rfl ?_))
      refine done_in ?_
      repeat' ((conv => whnf); first
        | refine walk (Tryd.ok ..) ?_
        | refine walk (COk.with_ (Tryd.ok ..) _ _) ?_
        | refine walk (COk.with_ (COk.with_ (Tryd.ok ..) _ _) _ _) ?_
        | (refine Cnd.mk (fun h => ?_) (fun h => ?_) <;> (first | (exfalso; simp only [decide_eq_true_eq, decide_eq_false_iff_not, Bool.not_eq_true', Bool.not_eq_false'] at h; omega) | (exfalso; simp at h; omega) | simp at h | skip))
        | refine And.intro (Kept.mk ?_) ?_
        | refine Two.mk (And.intro ?_ ?_)
        | exact trivial
        | refine side ?_
        | refine sideL ?_
        | refine Or.inr ?_
        | refine sat_drawH (Tryd.ok ..) (by kernel_rfl) ?_
        | refine sat_drawH (COk.with_ (Tryd.ok ..) _ _) (by kernel_rfl) ?_
        | refine sat_drawH (COk.with_ (COk.with_ (Tryd.ok ..) _ _) _ _) (by kernel_rfl) ?_
        | refine Exists.intro [_] (And.intro (one_byte rfl) ?_)
        | refine Exists.intro [_] (And.intro (fun _ => one_byte rfl) ?_)
        | refine Exists.intro _ (And.intro (And.intro rfl rfl) ?_)
        | refine Exists.intro _ (And.intro (fun _ => And.intro rfl rfl) ?_)
        | refine Exists.intro _ (And.intro rfl ?_))
      have hbad : badAt l (k + 1) = true := by
        unfold badAt
        rw [hcb]
        simp [hca]
        exact or_assoc.1 hcond
      have hfb : firstBad l = some (k + 1) := firstBad_at hk1 hbad (fun j hj => hok j (by omega))
      exact done_pure rfl rfl (real2 (by unfold valI; rw [if_neg (by omega), hfb]; rfl) (by unfold valE; rw [if_neg (by omega), if_neg (by omega), hfb]))
    · have hcond := h
      subst hB2
      repeat' ((conv => whnf); first
        | refine walk (Tryd.ok ..) ?_
        | refine walk (COk.with_ (Tryd.ok ..) _ _) ?_
        | refine walk (COk.with_ (COk.with_ (Tryd.ok ..) _ _) _ _) ?_
        | (refine Cnd.mk (fun h => ?_) (fun h => ?_) <;> (first | (exfalso; simp only [decide_eq_true_eq, decide_eq_false_iff_not, Bool.not_eq_true', Bool.not_eq_false'] at h; omega) | (exfalso; simp at h; omega) | simp at h | skip))
        | refine And.intro (Kept.mk ?_) ?_
        | refine Two.mk (And.intro ?_ ?_)
        | exact trivial
        | refine side ?_
        | refine sideL ?_
        | refine Or.inr ?_
        | refine sat_drawH (Tryd.ok ..) (by kernel_rfl) ?_
        | refine sat_drawH (COk.with_ (Tryd.ok ..) _ _) (by kernel_rfl) ?_
        | refine sat_drawH (COk.with_ (COk.with_ (Tryd.ok ..) _ _) _ _) (by kernel_rfl) ?_
        | refine Exists.intro [_] (And.intro (one_byte rfl) ?_)
        | refine Exists.intro [_] (And.intro (fun _ => one_byte rfl) ?_)
        | refine Exists.intro _ (And.intro (And.intro rfl rfl) ?_)
        | refine Exists.intro _ (And.intro (fun _ => And.intro rfl rfl) ?_)
        | refine Exists.intro _ (And.intro rfl ?_))
      refine ⟨k + 1, ⟨⟨hk1, ?_⟩, by omega⟩, ?_, ?_, rfl⟩
      · intro j hj
        by_cases hjk : j ≤ k
        · exact hok j hjk
        obtain rfl : j = k + 1 := by omega
        unfold badAt
        rw [hcb]
        simp [hca, hcond.1.1, hcond.1.2, hcond.2]
      all_goals ((repeat' (first | exact trivial | exact rfl | refine And.intro ?_ ?_)) <;> (try (conv => whnf)) <;> (try simp only [SV.real, SV.r2, SV.r1]))
  · repeat' ((conv => whnf); first
      | refine walk (Tryd.ok ..) ?_
      | refine walk (COk.with_ (Tryd.ok ..) _ _) ?_
      | refine walk (COk.with_ (COk.with_ (Tryd.ok ..) _ _) _ _) ?_
      | (refine Cnd.mk (fun h => ?_) (fun h => ?_) <;> (first | (exfalso; simp only [decide_eq_true_eq, decide_eq_false_iff_not, Bool.not_eq_true', Bool.not_eq_false'] at h; omega) | (exfalso; simp at h; omega) | simp at h | skip))
      | refine And.intro (Kept.mk ?_) ?_
      | refine Two.mk (And.intro ?_ ?_)
      | exact trivial
      | refine side ?_
      | refine sideL ?_
      | refine Or.inr ?_
      | refine sat_drawH (Tryd.ok ..) (by kernel_rfl) ?_
      | refine sat_drawH (COk.with_ (Tryd.ok ..) _ _) (by kernel_rfl) ?_
      | refine sat_drawH (COk.with_ (COk.with_ (Tryd.ok ..) _ _) _ _) (by kernel_rfl) ?_
      | refine Exists.intro [_] (And.intro (one_byte rfl) ?_)
      | refine Exists.intro [_] (And.intro (fun _ => one_byte rfl) ?_)
      | refine Exists.intro _ (And.intro (And.intro rfl rfl) ?_)
      | refine Exists.intro _ (And.intro (fun _ => And.intro rfl rfl) ?_)
      | refine Exists.intro _ (And.intro rfl ?_))
    subst hB
    refine done_in ?_
    repeat' ((conv => whnf); first
      | refine walk (Tryd.ok ..) ?_
      | refine walk (COk.with_ (Tryd.ok ..) _ _) ?_
      | refine walk (COk.with_ (COk.with_ (Tryd.ok ..) _ _) _ _) ?_
      | (refine Cnd.mk (fun h => ?_) (fun h => ?_) <;> (first | (exfalso; simp only [decide_eq_true_eq, decide_eq_false_iff_not, Bool.not_eq_true', Bool.not_eq_false'] at h; omega) | (exfalso; simp at h; omega) | simp at h | skip))
      | refine And.intro (Kept.mk ?_) ?_
      | refine Two.mk (And.intro ?_ ?_)
      | exact trivial
      | refine side ?_
      | refine sideL ?_
      | refine Or.inr ?_
      | refine sat_drawH (Tryd.ok ..) (by kernel_rfl) ?_
      | refine sat_drawH (COk.with_ (Tryd.ok ..) _ _) (by kernel_rfl) ?_
      | refine sat_drawH (COk.with_ (COk.with_ (Tryd.ok ..) _ _) _ _) (by kernel_rfl) ?_
      | refine Exists.intro [_] (And.intro (one_byte rfl) ?_)
      | refine Exists.intro [_] (And.intro (fun _ => one_byte rfl) ?_)
      | refine Exists.intro _ (And.intro (And.intro rfl rfl) ?_)
      | refine Exists.intro _ (And.intro (fun _ => And.intro rfl rfl) ?_)
      | refine Exists.intro _ (And.intro rfl ?_))
    have hfb : firstBad l = none := firstBad_none (fun j hj => hok j (by omega))
    exact done_pure rfl rfl (real2 (by unfold valI; rw [if_neg (by omega), hfb]) (by unfold valE; rw [if_neg (by omega), if_neg (by omega), hfb]))
end Go.Proofs.YtbpklalkoocneaaDoor

