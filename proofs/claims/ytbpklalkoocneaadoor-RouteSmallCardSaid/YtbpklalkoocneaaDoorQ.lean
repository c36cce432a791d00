/-
  The walks of the route package's reference: a route that is later.
-/
import Derived.Test.YtbpklalkoocneaaDoorN
namespace Go.Proofs.YtbpklalkoocneaaDoor
open Go Sat Go.RowKit Go.PlainAid
set_option linter.unusedSimpArgs false
set_option linter.unusedVariables false
theorem delTo_succ {l : List Cl} {k by_ : Int} {n : Nat} {c : Cl} (hc : l[n]? = some c) : delTo l k by_ (n + 1) = delTo l k by_ n ++ [later k by_ n c] := by rw [delTo, hc]
set_option maxRecDepth 100000 in
set_option maxHeartbeats 8000000 in
theorem rdelay_any (l : List Cl) (A : Option (Nat × Nat)) (cap : Nat) (k by_ : Int) (w : World) (hro : Ro w A l.length 3 (cells l)) (hl : l.length ≤ 9223372036854775806) : Calls Tryd.prog 31 #[.slice (adr A) l.length cap, .int .i64 k, .int .i64 by_] w fun e w' => ∃ v, e = .returned (.tuple #[v, .int .i64 (delE l k by_)]) ∧ w'.ownsRow w.heap.size 26 3 v (delN l k by_) (delX l k by_) ∧ Below w.heap.size w w' := by
  refine calls_sat (cx := Tryd.cx 60 [] [] [] w) (Tryd.ok ..) Tryd.func31 rfl [.o 100 A l.length cap, .v (.int .i64 k), .v (.int .i64 by_)] rfl (by show 3 ≤ 60; omega) [(100, .ro A l.length 3 (cells l))] (holds_ros rfl rfl ⟨hro, trivial⟩) ?_
  repeat' ((conv => whnf); first
    | refine walk (Tryd.ok ..) ?_
    | refine walk (COk.with_ (Tryd.ok ..) _ _) ?_
    | refine walk (COk.with_ (COk.with_ (Tryd.ok ..) _ _) _ _) ?_
    | (refine Cnd.mk (fun h => ?_) (fun h => ?_) <;> (first | (exfalso; simp only [decide_eq_true_eq, decide_eq_false_iff_not, Bool.not_eq_true', Bool.not_eq_false'] at h; omega) | (exfalso; simp at h; omega) | simp at h | skip))
    | refine And.intro (Kept.mk ?_) ?_
    | refine Two.mk (And.intro ?_ ?_)
    | exact trivial
    | refine side ?_
    | refine sideL ?_
    | refine Or.inr ?_
    | refine sat_drawH (Tryd.ok ..) (by kernel_rfl) ?_
    | refine sat_drawH (COk.with_ (Tryd.ok ..) _ _) (by kernel_rfl) ?_
    | refine sat_drawH (COk.with_ (COk.with_ (Tryd.ok ..) _ _) _ _) (by kernel_rfl) ?_
    | refine Exists.intro [_] (And.intro (one_byte rfl) ?_)
    | refine Exists.intro [_] (And.intro (fun _ => one_byte rfl) ?_)
    | refine Exists.intro _ (And.intro (And.intro rfl rfl) ?_)
    | refine Exists.intro _ (And.intro (fun _ => And.intro rfl rfl) ?_)
    | refine Exists.intro _ (And.intro rfl ?_))
  refine called_at (.t [.v (.int .i64 (valI l)), .v (.int .i64 (valE l))]) rfl (fun w' hw => rvalid_any l A cap w' (ro_of_ro hw (id := 100) rfl) hl) ?_
  have nilcase : ∀ (E : Int) (H : Heap), E ≠ 0 → delE l k by_ = E → Done (Tryd.cx 60 [] [] [] w) (fun e w' => ∃ v, e = .returned (.tuple #[v, .int .i64 (delE l k by_)]) ∧ w'.ownsRow w.heap.size 26 3 v (delN l k by_) (delX l k by_) ∧ Below w.heap.size w w') (.t [.v (.slice none 0 0), .v (.int .i64 E)]) H := by
    intro E H hE he
    have h1 : delN l k by_ = 0 := by unfold delN; rw [if_neg (by omega)]
    have h2 : delX l k by_ = [] := by unfold delX; rw [if_neg (by omega)]
    rw [h1, h2, he]
    exact done_nil (cx := Tryd.cx 60 [] [] [] w) (mk := fun v => .tuple #[v, .int .i64 E]) rfl rfl rfl
  repeat' ((conv => whnf); first
    | refine walk (Tryd.ok ..) ?_
    | refine walk (COk.with_ (Tryd.ok ..) _ _) ?_
    | refine walk (COk.with_ (COk.with_ (Tryd.ok ..) _ _) _ _) ?_
    | (refine Cnd.mk (fun h => ?_) (fun h => ?_) <;> (first | (exfalso; simp only [decide_eq_true_eq, decide_eq_false_iff_not, Bool.not_eq_true', Bool.not_eq_false'] at h; omega) | (exfalso; simp at h; omega) | simp at h | skip))
    | refine And.intro (Kept.mk ?_) ?_
    | refine Two.mk (And.intro ?_ ?_)
    | exact trivial
    | refine side ?_
    | refine sideL ?_
    | refine Or.inr ?_
    | refine sat_drawH (Tryd.ok ..) (by kernel_rfl) ?_
    | refine sat_drawH (COk.with_ (Tryd.ok ..) _ _) (by kernel_rfl) ?_
    | refine sat_drawH (COk.with_ (COk.with_ (Tryd.ok ..) _ _) _ _) (by kernel_rfl) ?_
    | refine Exists.intro [_] (And.intro (one_byte rfl) ?_)
    | refine Exists.intro [_] (And.intro (fun _ => one_byte rfl) ?_)
    | refine Exists.intro _ (And.intro (And.intro rfl rfl) ?_)
    | refine Exists.intro _ (And.intro (fun _ => And.intro rfl rfl) ?_)
    | refine Exists.intro _ (And.intro rfl ?_))
  · exact nilcase 200 _ (by omega) (by unfold delE; rw [if_pos h])
  · rename_i hv
    exact nilcase 2 _ (by omega) (by unfold delE; rw [if_neg (by omega), if_pos (by omega)])
  rename_i hv
  have hkb := h
  have hvo := val_ok hv
  have hlo := hvo.1
  have hhi := hvo.2.1
  obtain ⟨cl, hcl⟩ : ∃ c, l[l.length - 1]? = some c := ⟨l[l.length - 1]'(by omega), List.getElem?_eq_getElem (by omega)⟩
  have hlast := lastT_eq hcl
  have hbl := rightC_bd (val_right hv hcl)
  refine sat_loop (Tryd.ok ..) (α := Nat × Option (Nat × Nat) × Nat) (fun x => ([(0, .yes, .o 100 A l.length cap), (1, .yes, .v (.int .i64 k)), (2, .yes, .v (.int .i64 by_)), (10, .yes, .o 58 x.2.1 x.1 x.2.2), (11, .yes, .v (.int .i64 x.1))], [(100, .ro A l.length 3 (cells l)), (58, .row x.2.1 26 3 x.1 x.2.2 (cells (delTo l k by_ x.1)))])) (fun x => x.1 ≤ l.length ∧ ∀ j c, j < x.1 → k ≤ j → l[j]? = some c → by_ ≤ 100000000 - c.t) (fun x => l.length - x.1) (fun _ => rfl) ?_ ?_
  · refine ⟨(0, none, 0), ⟨by show 0 ≤ l.length; omega, fun j c hj => absurd hj (Nat.not_lt_zero _)⟩, ?_, ?_, rfl⟩
    all_goals ((repeat' (first | exact trivial | exact rfl | refine And.intro ?_ ?_)) <;> (try (conv => whnf)) <;> (try simp only [SV.real, SV.r2, SV.r1]))
  rintro ⟨x, A2, cap2⟩ ⟨hx, hok⟩
  dsimp only at hx hok
  by_cases hx1 : x < l.length
  · obtain ⟨c, hc⟩ : ∃ c, l[x]? = some c := ⟨l[x], List.getElem?_eq_getElem hx1⟩
    have hcr := rightC_bd (val_right hv hc)
    have hct := val_incr hv (show x ≤ l.length - 1 by omega) hc hcl
    repeat' ((conv => whnf); first
      | refine walk (Tryd.ok ..) ?_
      | refine walk (COk.with_ (Tryd.ok ..) _ _) ?_
      | refine walk (COk.with_ (COk.with_ (Tryd.ok ..) _ _) _ _) ?_
      | (refine Cnd.mk (fun h => ?_) (fun h => ?_) <;> (first | (exfalso; simp only [decide_eq_true_eq, decide_eq_false_iff_not, Bool.not_eq_true', Bool.not_eq_false'] at h; omega) | (exfalso; simp at h; omega) | simp at h | skip))
      | refine And.intro (Kept.mk ?_) ?_
      | refine Two.mk (And.intro ?_ ?_)
      | exact trivial
      | refine side ?_
      | refine sideL ?_
      | refine Or.inr ?_
      | refine sat_drawH (Tryd.ok ..) (by kernel_rfl) ?_
      | refine sat_drawH (COk.with_ (Tryd.ok ..) _ _) (by kernel_rfl) ?_
      | refine sat_drawH (COk.with_ (COk.with_ (Tryd.ok ..) _ _) _ _) (by kernel_rfl) ?_
      | refine Exists.intro [_] (And.intro (one_byte rfl) ?_)
      | refine Exists.intro [_] (And.intro (fun _ => one_byte rfl) ?_)
      | refine Exists.intro _ (And.intro (And.intro rfl rfl) ?_)
      | refine Exists.intro _ (And.intro (fun _ => And.intro rfl rfl) ?_)
      | refine Exists.intro _ (And.intro rfl ?_)
      | refine Exists.intro _ (And.intro (fun _ => (at_c hc rfl)) ?_)
      | refine Exists.intro _ (And.intro (at_c hc rfl) ?_))
    intro g12 hg12
    repeat' ((conv => whnf); first
      | refine walk (Tryd.ok ..) ?_
      | refine walk (COk.with_ (Tryd.ok ..) _ _) ?_
      | refine walk (COk.with_ (COk.with_ (Tryd.ok ..) _ _) _ _) ?_
      | (refine Cnd.mk (fun h => ?_) (fun h => ?_) <;> (first | (exfalso; simp only [decide_eq_true_eq, decide_eq_false_iff_not, Bool.not_eq_true', Bool.not_eq_false'] at h; omega) | (exfalso; simp at h; omega) | simp at h | skip))
      | refine And.intro (Kept.mk ?_) ?_
      | refine Two.mk (And.intro ?_ ?_)
      | exact trivial
      | refine side ?_
      | refine sideL ?_
      | refine Or.inr ?_
      | refine sat_drawH (Tryd.ok ..) (by kernel_rfl) ?_
      | refine sat_drawH (COk.with_ (Tryd.ok ..) _ _) (by kernel_rfl) ?_
      | refine sat_drawH (COk.with_ (COk.with_ (Tryd.ok ..) _ _) _ _) (by kernel_rfl) ?_
      | refine Exists.intro [_] (And.intro (one_byte rfl) ?_)
      | refine Exists.intro [_] (And.intro (fun _ => one_byte rfl) ?_)
      | refine Exists.intro _ (And.intro (And.intro rfl rfl) ?_)
      | refine Exists.intro _ (And.intro (fun _ => And.intro rfl rfl) ?_)
      | refine Exists.intro _ (And.intro rfl ?_))
    · have hnk := h
      exact nilcase 4 _ (by omega) (by unfold delE; rw [if_neg (by omega), if_neg (by omega), if_pos (by omega)])
    · have hby := h
      have hl : later k by_ x c = ⟨c.p, c.t + by_, c.d⟩ := by unfold later; rw [if_pos (by omega)]
      intro g57 hg57
      repeat' ((conv => whnf); first
        | refine walk (Tryd.ok ..) ?_
        | refine walk (COk.with_ (Tryd.ok ..) _ _) ?_
        | refine walk (COk.with_ (COk.with_ (Tryd.ok ..) _ _) _ _) ?_
        | (refine Cnd.mk (fun h => ?_) (fun h => ?_) <;> (first | (exfalso; simp only [decide_eq_true_eq, decide_eq_false_iff_not, Bool.not_eq_true', Bool.not_eq_false'] at h; omega) | (exfalso; simp at h; omega) | simp at h | skip))
        | refine And.intro (Kept.mk ?_) ?_
        | refine Two.mk (And.intro ?_ ?_)
        | exact trivial
        | refine side ?_
        | refine sideL ?_
        | refine Or.inr ?_
        | refine sat_drawH (Tryd.ok ..) (by kernel_rfl) ?_
        | refine sat_drawH (COk.with_ (Tryd.ok ..) _ _) (by kernel_rfl) ?_
        | refine sat_drawH (COk.with_ (COk.with_ (Tryd.ok ..) _ _) _ _) (by kernel_rfl) ?_
        | refine Exists.intro [_] (And.intro (one_byte rfl) ?_)
        | refine Exists.intro [_] (And.intro (fun _ => one_byte rfl) ?_)
        | refine Exists.intro _ (And.intro (And.intro rfl rfl) ?_)
        | refine Exists.intro _ (And.intro (fun _ => And.intro rfl rfl) ?_)
        | refine Exists.intro _ (And.intro rfl ?_))
      intro A3 cap3
      repeat' ((conv => whnf); first
        | refine walk (Tryd.ok ..) ?_
        | refine walk (COk.with_ (Tryd.ok ..) _ _) ?_
        | refine walk (COk.with_ (COk.with_ (Tryd.ok ..) _ _) _ _) ?_
        | (refine Cnd.mk (fun h => ?_) (fun h => ?_) <;> (first | (exfalso; simp only [decide_eq_true_eq, decide_eq_false_iff_not, Bool.not_eq_true', Bool.not_eq_false'] at h; omega) | (exfalso; simp at h; omega) | simp at h | skip))
        | refine And.intro (Kept.mk ?_) ?_
        | refine Two.mk (And.intro ?_ ?_)
        | exact trivial
        | refine side ?_
        | refine sideL ?_
        | refine Or.inr ?_
        | refine sat_drawH (Tryd.ok ..) (by kernel_rfl) ?_
        | refine sat_drawH (COk.with_ (Tryd.ok ..) _ _) (by kernel_rfl) ?_
        | refine sat_drawH (COk.with_ (COk.with_ (Tryd.ok ..) _ _) _ _) (by kernel_rfl) ?_
        | refine Exists.intro [_] (And.intro (one_byte rfl) ?_)
        | refine Exists.intro [_] (And.intro (fun _ => one_byte rfl) ?_)
        | refine Exists.intro _ (And.intro (And.intro rfl rfl) ?_)
        | refine Exists.intro _ (And.intro (fun _ => And.intro rfl rfl) ?_)
        | refine Exists.intro _ (And.intro rfl ?_))
      refine ⟨(x + 1, A3, cap3), ⟨⟨by show x + 1 ≤ l.length; omega, fun j d hj hkj hd => ?_⟩, by show l.length - (x + 1) < l.length - x; omega⟩, ?_, ?_, rfl⟩
      · rcases Nat.lt_succ_iff_lt_or_eq.1 hj with h4 | h4
        · exact hok j d h4 hkj hd
        · rw [h4, hc] at hd; cases hd; exact hby
      · ((repeat' (first | exact trivial | exact rfl | refine And.intro ?_ ?_)) <;> (try (conv => whnf)) <;> (try simp only [SV.real, SV.r2, SV.r1]))
      · dsimp only
        rw [delTo_succ hc, hl, cells_app]
        ((repeat' (first | exact trivial | exact rfl | refine And.intro ?_ ?_)) <;> (try (conv => whnf)) <;> (try simp only [SV.real, SV.r2, SV.r1]))
    · have hnk := h
      have hl : later k by_ x c = c := by unfold later; rw [if_neg (by omega)]
      intro g57 hg57
      repeat' ((conv => whnf); first
        | refine walk (Tryd.ok ..) ?_
        | refine walk (COk.with_ (Tryd.ok ..) _ _) ?_
        | refine walk (COk.with_ (COk.with_ (Tryd.ok ..) _ _) _ _) ?_
        | (refine Cnd.mk (fun h => ?_) (fun h => ?_) <;> (first | (exfalso; simp only [decide_eq_true_eq, decide_eq_false_iff_not, Bool.not_eq_true', Bool.not_eq_false'] at h; omega) | (exfalso; simp at h; omega) | simp at h | skip))
        | refine And.intro (Kept.mk ?_) ?_
        | refine Two.mk (And.intro ?_ ?_)
        | exact trivial
        | refine side ?_
        | refine sideL ?_
        | refine Or.inr ?_
        | refine sat_drawH (Tryd.ok ..) (by kernel_rfl) ?_
        | refine sat_drawH (COk.with_ (Tryd.ok ..) _ _) (by kernel_rfl) ?_
        | refine sat_drawH (COk.with_ (COk.with_ (Tryd.ok ..) _ _) _ _) (by kernel_rfl) ?_
        | refine Exists.intro [_] (And.intro (one_byte rfl) ?_)
        | refine Exists.intro [_] (And.intro (fun _ => one_byte rfl) ?_)
        | refine Exists.intro _ (And.intro (And.intro rfl rfl) ?_)
        | refine Exists.intro _ (And.intro (fun _ => And.intro rfl rfl) ?_)
        | refine Exists.intro _ (And.intro rfl ?_))
      intro A3 cap3
      repeat' ((conv => whnf); first
        | refine walk (Tryd.ok ..) ?_
        | refine walk (COk.with_ (Tryd.ok ..) _ _) ?_
        | refine walk (COk.with_ (COk.with_ (Tryd.ok ..) _ _) _ _) ?_
        | (refine Cnd.mk (fun h => ?_) (fun h => ?_) <;> (first | (exfalso; simp only [decide_eq_true_eq, decide_eq_false_iff_not, Bool.not_eq_true', Bool.not_eq_false'] at h; omega) | (exfalso; simp at h; omega) | simp at h | skip))
        | refine And.intro (Kept.mk ?_) ?_
        | refine Two.mk (And.intro ?_ ?_)
        | exact trivial
        | refine side ?_
        | refine sideL ?_
        | refine Or.inr ?_
        | refine sat_drawH (Tryd.ok ..) (by kernel_rfl) ?_
        | refine sat_drawH (COk.with_ (Tryd.ok ..) _ _) (by kernel_rfl) ?_
        | refine sat_drawH (COk.with_ (COk.with_ (Tryd.ok ..) _ _) _ _) (by kernel_rfl) ?_
        | refine Exists.intro [_] (And.intro (one_byte rfl) ?_)
        | refine Exists.intro [_] (And.intro (fun _ => one_byte rfl) ?_)
        | refine Exists.intro _ (And.intro (And.intro rfl rfl) ?_)
        | refine Exists.intro _ (And.intro (fun _ => And.intro rfl rfl) ?_)
        | refine Exists.intro _ (And.intro rfl ?_))
      refine ⟨(x + 1, A3, cap3), ⟨⟨by show x + 1 ≤ l.length; omega, fun j d hj hkj hd => ?_⟩, by show l.length - (x + 1) < l.length - x; omega⟩, ?_, ?_, rfl⟩
      · rcases Nat.lt_succ_iff_lt_or_eq.1 hj with h4 | h4
        · exact hok j d h4 hkj hd
        · omega
      · ((repeat' (first | exact trivial | exact rfl | refine And.intro ?_ ?_)) <;> (try (conv => whnf)) <;> (try simp only [SV.real, SV.r2, SV.r1]))
      · dsimp only
        rw [delTo_succ hc, hl, cells_app]
        ((repeat' (first | exact trivial | exact rfl | refine And.intro ?_ ?_)) <;> (try (conv => whnf)) <;> (try simp only [SV.real, SV.r2, SV.r1]))
  · obtain rfl : x = l.length := by omega
    repeat' ((conv => whnf); first
      | refine walk (Tryd.ok ..) ?_
      | refine walk (COk.with_ (Tryd.ok ..) _ _) ?_
      | refine walk (COk.with_ (COk.with_ (Tryd.ok ..) _ _) _ _) ?_
      | (refine Cnd.mk (fun h => ?_) (fun h => ?_) <;> (first | (exfalso; simp only [decide_eq_true_eq, decide_eq_false_iff_not, Bool.not_eq_true', Bool.not_eq_false'] at h; omega) | (exfalso; simp at h; omega) | simp at h | skip))
      | refine And.intro (Kept.mk ?_) ?_
      | refine Two.mk (And.intro ?_ ?_)
      | exact trivial
      | refine side ?_
      | refine sideL ?_
      | refine Or.inr ?_
      | refine sat_drawH (Tryd.ok ..) (by kernel_rfl) ?_
      | refine sat_drawH (COk.with_ (Tryd.ok ..) _ _) (by kernel_rfl) ?_
      | refine sat_drawH (COk.with_ (COk.with_ (Tryd.ok ..) _ _) _ _) (by kernel_rfl) ?_
      | refine Exists.intro [_] (And.intro (one_byte rfl) ?_)
      | refine Exists.intro [_] (And.intro (fun _ => one_byte rfl) ?_)
      | refine Exists.intro _ (And.intro (And.intro rfl rfl) ?_)
      | refine Exists.intro _ (And.intro (fun _ => And.intro rfl rfl) ?_)
      | refine Exists.intro _ (And.intro rfl ?_))
    have hE : delE l k by_ = 0 := delE_ok hv (by omega) (by have := hok (l.length - 1) cl (by omega) (by omega) hcl; omega)
    rw [hE]
    refine done_row2 (mk := fun v => .tuple #[v, .int .i64 0]) rfl rfl 58 A2 cap2 rfl ?_ ?_ rfl
    · unfold delN
      rw [if_pos hE]
    · unfold delX
      rw [if_pos hE]
      rfl
end Go.Proofs.YtbpklalkoocneaaDoor

