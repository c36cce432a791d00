/-
  The walks of the laws of routes: what is told of a route.
-/
import Derived.Test.YtbpklalkoocneaaDoorPlain3
namespace Go.Proofs.YtbpklalkoocneaaDoor
open Go Sat Go.RowKit Go.PlainAid
set_option linter.unusedSimpArgs false
set_option linter.unusedVariables false
def lastC : Cl := ⟨⟨#[76, 65, 83, 84]⟩, 0, 0⟩
theorem own_last (A : Option (Nat × Nat)) (cap : Nat) (l : List Cl) : HB.row A 26 3 (l.length + 1) cap (cells l ++ cC lastC) = HB.row A 26 3 (l.length + 1) cap (cells (l ++ [lastC])) := by
  rw [cells_app]
  rfl
set_option maxRecDepth 100000 in
set_option maxHeartbeats 8000000 in
theorem tells_any (l : List Cl) (A : Option (Nat × Nat)) (cap : Nat) (k t : Int) (s : ByteArray) (w : World) (hro : Ro w A l.length 3 (cells l)) (hl : l.length * 32 ≤ 140737488351232) : Calls Tryd.prog 28 #[.slice (adr A) l.length cap, .int .i64 k, .int .i64 t, .string s] w fun e w' => e = .returned (.bool true) ∧ Below w.heap.size w w' := by
  refine calls_sat (cx := Tryd.cx 148 [2] [] [] w) (Tryd.ok ..) Tryd.func28 rfl [.o 100 A l.length cap, .v (.int .i64 k), .v (.int .i64 t), .v (.string s)] rfl (by show 4 ≤ 148; omega) [(100, .ro A l.length 3 (cells l))] (holds_ros rfl rfl ⟨hro, trivial⟩) ?_
  repeat' ((conv => whnf); first
    | refine walk (Tryd.ok ..) ?_
    | refine walk (COk.with_ (Tryd.ok ..) _ _) ?_
    | refine walk (COk.with_ (COk.with_ (Tryd.ok ..) _ _) _ _) ?_
    | (refine Cnd.mk (fun h => ?_) (fun h => ?_) <;> (first | (exfalso; simp only [decide_eq_true_eq, decide_eq_false_iff_not, Bool.not_eq_true', Bool.not_eq_false'] at h; omega) | (exfalso; simp at h; omega) | simp at h | skip))
    | refine And.intro (Kept.mk ?_) ?_
    | refine Two.mk (And.intro ?_ ?_)
    | exact trivial
    | refine side ?_
    | refine sideL ?_
    | refine Or.inr ?_
    | refine sat_drawH (Tryd.ok ..) (by kernel_rfl) ?_
    | refine sat_drawH (COk.with_ (Tryd.ok ..) _ _) (by kernel_rfl) ?_
    | refine sat_drawH (COk.with_ (COk.with_ (Tryd.ok ..) _ _) _ _) (by kernel_rfl) ?_
    | refine Exists.intro [_] (And.intro (one_byte rfl) ?_)
    | refine Exists.intro [_] (And.intro (fun _ => one_byte rfl) ?_)
    | refine Exists.intro _ (And.intro (And.intro rfl rfl) ?_)
    | refine Exists.intro _ (And.intro (fun _ => And.intro rfl rfl) ?_)
    | refine Exists.intro _ (And.intro rfl ?_))
  intro g21 hg21
  repeat' ((conv => whnf); first
    | refine walk (Tryd.ok ..) ?_
    | refine walk (COk.with_ (Tryd.ok ..) _ _) ?_
    | refine walk (COk.with_ (COk.with_ (Tryd.ok ..) _ _) _ _) ?_
    | (refine Cnd.mk (fun h => ?_) (fun h => ?_) <;> (first | (exfalso; simp only [decide_eq_true_eq, decide_eq_false_iff_not, Bool.not_eq_true', Bool.not_eq_false'] at h; omega) | (exfalso; simp at h; omega) | simp at h | skip))
    | refine And.intro (Kept.mk ?_) ?_
    | refine Two.mk (And.intro ?_ ?_)
    | exact trivial
    | refine side ?_
    | refine sideL ?_
    | refine Or.inr ?_
    | refine sat_drawH (Tryd.ok ..) (by kernel_rfl) ?_
    | refine sat_drawH (COk.with_ (Tryd.ok ..) _ _) (by kernel_rfl) ?_
    | refine sat_drawH (COk.with_ (COk.with_ (Tryd.ok ..) _ _) _ _) (by kernel_rfl) ?_
    | refine Exists.intro [_] (And.intro (one_byte rfl) ?_)
    | refine Exists.intro [_] (And.intro (fun _ => one_byte rfl) ?_)
    | refine Exists.intro _ (And.intro (And.intro rfl rfl) ?_)
    | refine Exists.intro _ (And.intro (fun _ => And.intro rfl rfl) ?_)
    | refine Exists.intro _ (And.intro rfl ?_))
  refine And.intro (by rw [cells_len]; exact Nat.le_refl _) ?_
  refine And.intro (allV_of (fun u hu => cC_one u (List.mem_of_mem_take hu))) ?_
  repeat' ((conv => whnf); first
    | refine walk (Tryd.ok ..) ?_
    | refine walk (COk.with_ (Tryd.ok ..) _ _) ?_
    | refine walk (COk.with_ (COk.with_ (Tryd.ok ..) _ _) _ _) ?_
    | (refine Cnd.mk (fun h => ?_) (fun h => ?_) <;> (first | (exfalso; simp only [decide_eq_true_eq, decide_eq_false_iff_not, Bool.not_eq_true', Bool.not_eq_false'] at h; omega) | (exfalso; simp at h; omega) | simp at h | skip))
    | refine And.intro (Kept.mk ?_) ?_
    | refine Two.mk (And.intro ?_ ?_)
    | exact trivial
    | refine side ?_
    | refine sideL ?_
    | refine Or.inr ?_
    | refine sat_drawH (Tryd.ok ..) (by kernel_rfl) ?_
    | refine sat_drawH (COk.with_ (Tryd.ok ..) _ _) (by kernel_rfl) ?_
    | refine sat_drawH (COk.with_ (COk.with_ (Tryd.ok ..) _ _) _ _) (by kernel_rfl) ?_
    | refine Exists.intro [_] (And.intro (one_byte rfl) ?_)
    | refine Exists.intro [_] (And.intro (fun _ => one_byte rfl) ?_)
    | refine Exists.intro _ (And.intro (And.intro rfl rfl) ?_)
    | refine Exists.intro _ (And.intro (fun _ => And.intro rfl rfl) ?_)
    | refine Exists.intro _ (And.intro rfl ?_))
  intro A2 cap2
  generalize hR : HB.row A2 26 _ _ cap2 _ = R
  rw [own_v]
  have hR2 : R = HB.row A2 26 3 l.length cap2 (cells l) := by rw [← hR]; exact own_eq A2 26 cap2 l
  clear hR
  subst hR2
  repeat' ((conv => whnf); first
    | refine walk (Tryd.ok ..) ?_
    | refine walk (COk.with_ (Tryd.ok ..) _ _) ?_
    | refine walk (COk.with_ (COk.with_ (Tryd.ok ..) _ _) _ _) ?_
    | (refine Cnd.mk (fun h => ?_) (fun h => ?_) <;> (first | (exfalso; simp only [decide_eq_true_eq, decide_eq_false_iff_not, Bool.not_eq_true', Bool.not_eq_false'] at h; omega) | (exfalso; simp at h; omega) | simp at h | skip))
    | refine And.intro (Kept.mk ?_) ?_
    | refine Two.mk (And.intro ?_ ?_)
    | exact trivial
    | refine side ?_
    | refine sideL ?_
    | refine Or.inr ?_
    | refine sat_drawH (Tryd.ok ..) (by kernel_rfl) ?_
    | refine sat_drawH (COk.with_ (Tryd.ok ..) _ _) (by kernel_rfl) ?_
    | refine sat_drawH (COk.with_ (COk.with_ (Tryd.ok ..) _ _) _ _) (by kernel_rfl) ?_
    | refine Exists.intro [_] (And.intro (one_byte rfl) ?_)
    | refine Exists.intro [_] (And.intro (fun _ => one_byte rfl) ?_)
    | refine Exists.intro _ (And.intro (And.intro rfl rfl) ?_)
    | refine Exists.intro _ (And.intro (fun _ => And.intro rfl rfl) ?_)
    | refine Exists.intro _ (And.intro rfl ?_))
  intro g25 hg25
  repeat' ((conv => whnf); first
    | refine walk (Tryd.ok ..) ?_
    | refine walk (COk.with_ (Tryd.ok ..) _ _) ?_
    | refine walk (COk.with_ (COk.with_ (Tryd.ok ..) _ _) _ _) ?_
    | (refine Cnd.mk (fun h => ?_) (fun h => ?_) <;> (first | (exfalso; simp only [decide_eq_true_eq, decide_eq_false_iff_not, Bool.not_eq_true', Bool.not_eq_false'] at h; omega) | (exfalso; simp at h; omega) | simp at h | skip))
    | refine And.intro (Kept.mk ?_) ?_
    | refine Two.mk (And.intro ?_ ?_)
    | exact trivial
    | refine side ?_
    | refine sideL ?_
    | refine Or.inr ?_
    | refine sat_drawH (Tryd.ok ..) (by kernel_rfl) ?_
    | refine sat_drawH (COk.with_ (Tryd.ok ..) _ _) (by kernel_rfl) ?_
    | refine sat_drawH (COk.with_ (COk.with_ (Tryd.ok ..) _ _) _ _) (by kernel_rfl) ?_
    | refine Exists.intro [_] (And.intro (one_byte rfl) ?_)
    | refine Exists.intro [_] (And.intro (fun _ => one_byte rfl) ?_)
    | refine Exists.intro _ (And.intro (And.intro rfl rfl) ?_)
    | refine Exists.intro _ (And.intro (fun _ => And.intro rfl rfl) ?_)
    | refine Exists.intro _ (And.intro rfl ?_))
  intro A3 cap3
  generalize hR : HB.row A3 26 _ _ cap3 _ = R
  have hR2 : R = HB.row A3 26 3 (l.length + 1) cap3 (cells (l ++ [lastC])) := by rw [← hR]; exact own_last A3 cap3 l
  clear hR
  subst hR2
  repeat' ((conv => whnf); first
    | refine walk (Tryd.ok ..) ?_
    | refine walk (COk.with_ (Tryd.ok ..) _ _) ?_
    | refine walk (COk.with_ (COk.with_ (Tryd.ok ..) _ _) _ _) ?_
    | (refine Cnd.mk (fun h => ?_) (fun h => ?_) <;> (first | (exfalso; simp only [decide_eq_true_eq, decide_eq_false_iff_not, Bool.not_eq_true', Bool.not_eq_false'] at h; omega) | (exfalso; simp at h; omega) | simp at h | skip))
    | refine And.intro (Kept.mk ?_) ?_
    | refine Two.mk (And.intro ?_ ?_)
    | exact trivial
    | refine side ?_
    | refine sideL ?_
    | refine Or.inr ?_
    | refine sat_drawH (Tryd.ok ..) (by kernel_rfl) ?_
    | refine sat_drawH (COk.with_ (Tryd.ok ..) _ _) (by kernel_rfl) ?_
    | refine sat_drawH (COk.with_ (COk.with_ (Tryd.ok ..) _ _) _ _) (by kernel_rfl) ?_
    | refine Exists.intro [_] (And.intro (one_byte rfl) ?_)
    | refine Exists.intro [_] (And.intro (fun _ => one_byte rfl) ?_)
    | refine Exists.intro _ (And.intro (And.intro rfl rfl) ?_)
    | refine Exists.intro _ (And.intro (fun _ => And.intro rfl rfl) ?_)
    | refine Exists.intro _ (And.intro rfl ?_))
  refine sat_row 21 rfl fun hcap hsome => ?_
  obtain ⟨p, rfl⟩ := hsome (by omega)
  obtain ⟨m, hm⟩ : ∃ m, m = l ++ [lastC] := ⟨_, rfl⟩
  have hml : m.length = l.length + 1 := by rw [hm]; simp
  have hmt : (cells m).take (l.length * 3) = cells l := by rw [hm, cells_app, List.take_append_of_le_length (by rw [cells_len]; exact Nat.le_refl _), List.take_of_length_le (by rw [cells_len]; exact Nat.le_refl _)]
  rw [← hm]
  obtain ⟨vI, hvI⟩ : ∃ x, x = valI l := ⟨_, rfl⟩
  obtain ⟨vE, hvE⟩ : ∃ x, x = valE l := ⟨_, rfl⟩
  obtain ⟨LI, hLI⟩ : ∃ x, x = limI l k := ⟨_, rfl⟩
  obtain ⟨RW, hRW⟩ : ∃ x, x = rwI l t := ⟨_, rfl⟩
  obtain ⟨RF, hRF⟩ : ∃ x, x = rfI l s k := ⟨_, rfl⟩
  have hfi := fi_eq l s k
  rw [← hRF] at hfi
  have hrol : ∀ {cx : Cx} {H : Heap} {w' : World}, Holds cx H w' → hfind H 21 = some (HB.row (some p) 26 3 (l.length + 1) cap3 (cells m)) → Ro w' (some p) l.length 3 (cells l) := by
    intro cx H w' hh hf
    have := (ro_of_row hh hf).take_ (m := l.length) (by omega)
    rw [hmt] at this
    exact this
  refine sat_ops (Tryd.ok ..) ?_
  repeat' ((conv => whnf); first
    | refine walk (Tryd.ok ..) ?_
    | refine walk (COk.with_ (Tryd.ok ..) _ _) ?_
    | refine walk (COk.with_ (COk.with_ (Tryd.ok ..) _ _) _ _) ?_
    | (refine Cnd.mk (fun h => ?_) (fun h => ?_) <;> (first | (exfalso; simp only [decide_eq_true_eq, decide_eq_false_iff_not, Bool.not_eq_true', Bool.not_eq_false'] at h; omega) | (exfalso; simp at h; omega) | simp at h | skip))
    | refine And.intro (Kept.mk ?_) ?_
    | refine Two.mk (And.intro ?_ ?_)
    | exact trivial
    | refine side ?_
    | refine sideL ?_
    | refine Or.inr ?_
    | refine sat_drawH (Tryd.ok ..) (by kernel_rfl) ?_
    | refine sat_drawH (COk.with_ (Tryd.ok ..) _ _) (by kernel_rfl) ?_
    | refine sat_drawH (COk.with_ (COk.with_ (Tryd.ok ..) _ _) _ _) (by kernel_rfl) ?_
    | refine Exists.intro [_] (And.intro (one_byte rfl) ?_)
    | refine Exists.intro [_] (And.intro (fun _ => one_byte rfl) ?_)
    | refine Exists.intro _ (And.intro (And.intro rfl rfl) ?_)
    | refine Exists.intro _ (And.intro (fun _ => And.intro rfl rfl) ?_)
    | refine Exists.intro _ (And.intro rfl ?_))
  refine called_at (.t [.v (.int .i64 vI), .v (.int .i64 vE)]) rfl (fun w' hh => by rw [hvI, hvE]; exact valid_any l (some p) cap3 w' (hrol hh rfl) (by omega)) ?_
  repeat' ((conv => whnf); first
    | refine walk (Tryd.ok ..) ?_
    | refine walk (COk.with_ (Tryd.ok ..) _ _) ?_
    | refine walk (COk.with_ (COk.with_ (Tryd.ok ..) _ _) _ _) ?_
    | (refine Cnd.mk (fun h => ?_) (fun h => ?_) <;> (first | (exfalso; simp only [decide_eq_true_eq, decide_eq_false_iff_not, Bool.not_eq_true', Bool.not_eq_false'] at h; omega) | (exfalso; simp at h; omega) | simp at h | skip))
    | refine And.intro (Kept.mk ?_) ?_
    | refine Two.mk (And.intro ?_ ?_)
    | exact trivial
    | refine side ?_
    | refine sideL ?_
    | refine Or.inr ?_
    | refine sat_drawH (Tryd.ok ..) (by kernel_rfl) ?_
    | refine sat_drawH (COk.with_ (Tryd.ok ..) _ _) (by kernel_rfl) ?_
    | refine sat_drawH (COk.with_ (COk.with_ (Tryd.ok ..) _ _) _ _) (by kernel_rfl) ?_
    | refine Exists.intro [_] (And.intro (one_byte rfl) ?_)
    | refine Exists.intro [_] (And.intro (fun _ => one_byte rfl) ?_)
    | refine Exists.intro _ (And.intro (And.intro rfl rfl) ?_)
    | refine Exists.intro _ (And.intro (fun _ => And.intro rfl rfl) ?_)
    | refine Exists.intro _ (And.intro rfl ?_))
  refine called_at (.t [.v (.int .i64 vI), .v (.int .i64 vE)]) rfl (fun w' hh => by rw [hvI, hvE]; exact rvalid_any l A cap w' (ro_of_ro hh (id := 100) rfl) (by omega)) ?_
  repeat' ((conv => whnf); first
    | refine walk (Tryd.ok ..) ?_
    | refine walk (COk.with_ (Tryd.ok ..) _ _) ?_
    | refine walk (COk.with_ (COk.with_ (Tryd.ok ..) _ _) _ _) ?_
    | (refine Cnd.mk (fun h => ?_) (fun h => ?_) <;> (first | (exfalso; simp only [decide_eq_true_eq, decide_eq_false_iff_not, Bool.not_eq_true', Bool.not_eq_false'] at h; omega) | (exfalso; simp at h; omega) | simp at h | skip))
    | refine And.intro (Kept.mk ?_) ?_
    | refine Two.mk (And.intro ?_ ?_)
    | exact trivial
    | refine side ?_
    | refine sideL ?_
    | refine Or.inr ?_
    | refine sat_drawH (Tryd.ok ..) (by kernel_rfl) ?_
    | refine sat_drawH (COk.with_ (Tryd.ok ..) _ _) (by kernel_rfl) ?_
    | refine sat_drawH (COk.with_ (COk.with_ (Tryd.ok ..) _ _) _ _) (by kernel_rfl) ?_
    | refine Exists.intro [_] (And.intro (one_byte rfl) ?_)
    | refine Exists.intro [_] (And.intro (fun _ => one_byte rfl) ?_)
    | refine Exists.intro _ (And.intro (And.intro rfl rfl) ?_)
    | refine Exists.intro _ (And.intro (fun _ => And.intro rfl rfl) ?_)
    | refine Exists.intro _ (And.intro rfl ?_))
  refine calledQ_at (.v (.int .i64 LI)) rfl (fun _ w' hh => by rw [hLI]; exact limit_any l (some p) cap3 k w' (hrol hh rfl) (by omega) (by omega)) ?_
  repeat' ((conv => whnf); first
    | refine walk (Tryd.ok ..) ?_
    | refine walk (COk.with_ (Tryd.ok ..) _ _) ?_
    | refine walk (COk.with_ (COk.with_ (Tryd.ok ..) _ _) _ _) ?_
    | (refine Cnd.mk (fun h => ?_) (fun h => ?_) <;> (first | (exfalso; simp only [decide_eq_true_eq, decide_eq_false_iff_not, Bool.not_eq_true', Bool.not_eq_false'] at h; omega) | (exfalso; simp at h; omega) | simp at h | skip))
    | refine And.intro (Kept.mk ?_) ?_
    | refine Two.mk (And.intro ?_ ?_)
    | exact trivial
    | refine side ?_
    | refine sideL ?_
    | refine Or.inr ?_
    | refine sat_drawH (Tryd.ok ..) (by kernel_rfl) ?_
    | refine sat_drawH (COk.with_ (Tryd.ok ..) _ _) (by kernel_rfl) ?_
    | refine sat_drawH (COk.with_ (COk.with_ (Tryd.ok ..) _ _) _ _) (by kernel_rfl) ?_
    | refine Exists.intro [_] (And.intro (one_byte rfl) ?_)
    | refine Exists.intro [_] (And.intro (fun _ => one_byte rfl) ?_)
    | refine Exists.intro _ (And.intro (And.intro rfl rfl) ?_)
    | refine Exists.intro _ (And.intro (fun _ => And.intro rfl rfl) ?_)
    | refine Exists.intro _ (And.intro rfl ?_))
  refine calledQ_at (.v (.int .i64 LI)) rfl (fun _ w' hh => by rw [hLI, lim_eq]; exact rlimit_any l A cap k w' (ro_of_ro hh (id := 100) rfl) (by omega)) ?_
  repeat' ((conv => whnf); first
    | refine walk (Tryd.ok ..) ?_
    | refine walk (COk.with_ (Tryd.ok ..) _ _) ?_
    | refine walk (COk.with_ (COk.with_ (Tryd.ok ..) _ _) _ _) ?_
    | (refine Cnd.mk (fun h => ?_) (fun h => ?_) <;> (first | (exfalso; simp only [decide_eq_true_eq, decide_eq_false_iff_not, Bool.not_eq_true', Bool.not_eq_false'] at h; omega) | (exfalso; simp at h; omega) | simp at h | skip))
    | refine And.intro (Kept.mk ?_) ?_
    | refine Two.mk (And.intro ?_ ?_)
    | exact trivial
    | refine side ?_
    | refine sideL ?_
    | refine Or.inr ?_
    | refine sat_drawH (Tryd.ok ..) (by kernel_rfl) ?_
    | refine sat_drawH (COk.with_ (Tryd.ok ..) _ _) (by kernel_rfl) ?_
    | refine sat_drawH (COk.with_ (COk.with_ (Tryd.ok ..) _ _) _ _) (by kernel_rfl) ?_
    | refine Exists.intro [_] (And.intro (one_byte rfl) ?_)
    | refine Exists.intro [_] (And.intro (fun _ => one_byte rfl) ?_)
    | refine Exists.intro _ (And.intro (And.intro rfl rfl) ?_)
    | refine Exists.intro _ (And.intro (fun _ => And.intro rfl rfl) ?_)
    | refine Exists.intro _ (And.intro rfl ?_))
  refine calledQ_at (.v (.int .i64 RW)) rfl (fun _ w' hh => by rw [hRW]; exact rwhere_any l A cap t w' (ro_of_ro hh (id := 100) rfl) (by omega)) ?_
  repeat' ((conv => whnf); first
    | refine walk (Tryd.ok ..) ?_
    | refine walk (COk.with_ (Tryd.ok ..) _ _) ?_
    | refine walk (COk.with_ (COk.with_ (Tryd.ok ..) _ _) _ _) ?_
    | (refine Cnd.mk (fun h => ?_) (fun h => ?_) <;> (first | (exfalso; simp only [decide_eq_true_eq, decide_eq_false_iff_not, Bool.not_eq_true', Bool.not_eq_false'] at h; omega) | (exfalso; simp at h; omega) | simp at h | skip))
    | refine And.intro (Kept.mk ?_) ?_
    | refine Two.mk (And.intro ?_ ?_)
    | exact trivial
    | refine side ?_
    | refine sideL ?_
    | refine Or.inr ?_
    | refine sat_drawH (Tryd.ok ..) (by kernel_rfl) ?_
    | refine sat_drawH (COk.with_ (Tryd.ok ..) _ _) (by kernel_rfl) ?_
    | refine sat_drawH (COk.with_ (COk.with_ (Tryd.ok ..) _ _) _ _) (by kernel_rfl) ?_
    | refine Exists.intro [_] (And.intro (one_byte rfl) ?_)
    | refine Exists.intro [_] (And.intro (fun _ => one_byte rfl) ?_)
    | refine Exists.intro _ (And.intro (And.intro rfl rfl) ?_)
    | refine Exists.intro _ (And.intro (fun _ => And.intro rfl rfl) ?_)
    | refine Exists.intro _ (And.intro rfl ?_))
  refine calledQ_at (.v (.bool true)) rfl (fun _ w' hh => by have := at_any l (some p) cap3 t RW w' (hrol hh rfl) (by omega); rw [hRW, at_eq] at this; rw [hRW]; exact this) ?_
  repeat' ((conv => whnf); first
    | refine walk (Tryd.ok ..) ?_
    | refine walk (COk.with_ (Tryd.ok ..) _ _) ?_
    | refine walk (COk.with_ (COk.with_ (Tryd.ok ..) _ _) _ _) ?_
    | (refine Cnd.mk (fun h => ?_) (fun h => ?_) <;> (first | (exfalso; simp only [decide_eq_true_eq, decide_eq_false_iff_not, Bool.not_eq_true', Bool.not_eq_false'] at h; omega) | (exfalso; simp at h; omega) | simp at h | skip))
    | refine And.intro (Kept.mk ?_) ?_
    | refine Two.mk (And.intro ?_ ?_)
    | exact trivial
    | refine side ?_
    | refine sideL ?_
    | refine Or.inr ?_
    | refine sat_drawH (Tryd.ok ..) (by kernel_rfl) ?_
    | refine sat_drawH (COk.with_ (Tryd.ok ..) _ _) (by kernel_rfl) ?_
    | refine sat_drawH (COk.with_ (COk.with_ (Tryd.ok ..) _ _) _ _) (by kernel_rfl) ?_
    | refine Exists.intro [_] (And.intro (one_byte rfl) ?_)
    | refine Exists.intro [_] (And.intro (fun _ => one_byte rfl) ?_)
    | refine Exists.intro _ (And.intro (And.intro rfl rfl) ?_)
    | refine Exists.intro _ (And.intro (fun _ => And.intro rfl rfl) ?_)
    | refine Exists.intro _ (And.intro rfl ?_))
  refine called_at (.t [.v (.int .i64 (max RF 0)), .v (.bool (decide (0 ≤ RF)))]) rfl (fun w' hh => by rw [← hfi.1, ← hfi.2]; exact find_some l p cap3 s k w' (hrol hh rfl) (by omega) (by omega)) ?_
  repeat' ((conv => whnf); first
    | refine walk (Tryd.ok ..) ?_
    | refine walk (COk.with_ (Tryd.ok ..) _ _) ?_
    | refine walk (COk.with_ (COk.with_ (Tryd.ok ..) _ _) _ _) ?_
    | (refine Cnd.mk (fun h => ?_) (fun h => ?_) <;> (first | (exfalso; simp only [decide_eq_true_eq, decide_eq_false_iff_not, Bool.not_eq_true', Bool.not_eq_false'] at h; omega) | (exfalso; simp at h; omega) | simp at h | skip))
    | refine And.intro (Kept.mk ?_) ?_
    | refine Two.mk (And.intro ?_ ?_)
    | exact trivial
    | refine side ?_
    | refine sideL ?_
    | refine Or.inr ?_
    | refine sat_drawH (Tryd.ok ..) (by kernel_rfl) ?_
    | refine sat_drawH (COk.with_ (Tryd.ok ..) _ _) (by kernel_rfl) ?_
    | refine sat_drawH (COk.with_ (COk.with_ (Tryd.ok ..) _ _) _ _) (by kernel_rfl) ?_
    | refine Exists.intro [_] (And.intro (one_byte rfl) ?_)
    | refine Exists.intro [_] (And.intro (fun _ => one_byte rfl) ?_)
    | refine Exists.intro _ (And.intro (And.intro rfl rfl) ?_)
    | refine Exists.intro _ (And.intro (fun _ => And.intro rfl rfl) ?_)
    | refine Exists.intro _ (And.intro rfl ?_))
  refine called_at (.v (.int .i64 RF)) rfl (fun w' hh => by rw [hRF]; exact rfind_any l A cap s k w' (ro_of_ro hh (id := 100) rfl) (by omega)) ?_
  repeat' ((conv => whnf); first
    | refine walk (Tryd.ok ..) ?_
    | refine walk (COk.with_ (Tryd.ok ..) _ _) ?_
    | refine walk (COk.with_ (COk.with_ (Tryd.ok ..) _ _) _ _) ?_
    | (refine Cnd.mk (fun h => ?_) (fun h => ?_) <;> (first | (exfalso; simp only [decide_eq_true_eq, decide_eq_false_iff_not, Bool.not_eq_true', Bool.not_eq_false'] at h; omega) | (exfalso; simp at h; omega) | simp at h | skip))
    | refine And.intro (Kept.mk ?_) ?_
    | refine Two.mk (And.intro ?_ ?_)
    | exact trivial
    | refine side ?_
    | refine sideL ?_
    | refine Or.inr ?_
    | refine sat_drawH (Tryd.ok ..) (by kernel_rfl) ?_
    | refine sat_drawH (COk.with_ (Tryd.ok ..) _ _) (by kernel_rfl) ?_
    | refine sat_drawH (COk.with_ (COk.with_ (Tryd.ok ..) _ _) _ _) (by kernel_rfl) ?_
    | refine Exists.intro [_] (And.intro (one_byte rfl) ?_)
    | refine Exists.intro [_] (And.intro (fun _ => one_byte rfl) ?_)
    | refine Exists.intro _ (And.intro (And.intro rfl rfl) ?_)
    | refine Exists.intro _ (And.intro (fun _ => And.intro rfl rfl) ?_)
    | refine Exists.intro _ (And.intro rfl ?_))
  obtain ⟨N, hN⟩ : ∃ x, x = legN l := ⟨_, rfl⟩
  obtain ⟨G, hG⟩ : ∃ x, x = legL l := ⟨_, rfl⟩
  refine called_row 89 (fun v => v) (fun A cap => .o 89 A N cap) (fun A cap => rfl) (fun w' hh => by have := legs_any l (some p) cap3 w' (hrol hh rfl) (by omega); rw [← hN, ← hG] at this; exact this) ?_
  intro A4 cap4
  repeat' ((conv => whnf); first
    | refine walk (Tryd.ok ..) ?_
    | refine walk (COk.with_ (Tryd.ok ..) _ _) ?_
    | refine walk (COk.with_ (COk.with_ (Tryd.ok ..) _ _) _ _) ?_
    | (refine Cnd.mk (fun h => ?_) (fun h => ?_) <;> (first | (exfalso; simp only [decide_eq_true_eq, decide_eq_false_iff_not, Bool.not_eq_true', Bool.not_eq_false'] at h; omega) | (exfalso; simp at h; omega) | simp at h | skip))
    | refine And.intro (Kept.mk ?_) ?_
    | refine Two.mk (And.intro ?_ ?_)
    | exact trivial
    | refine side ?_
    | refine sideL ?_
    | refine Or.inr ?_
    | refine sat_drawH (Tryd.ok ..) (by kernel_rfl) ?_
    | refine sat_drawH (COk.with_ (Tryd.ok ..) _ _) (by kernel_rfl) ?_
    | refine sat_drawH (COk.with_ (COk.with_ (Tryd.ok ..) _ _) _ _) (by kernel_rfl) ?_
    | refine Exists.intro [_] (And.intro (one_byte rfl) ?_)
    | refine Exists.intro [_] (And.intro (fun _ => one_byte rfl) ?_)
    | refine Exists.intro _ (And.intro (And.intro rfl rfl) ?_)
    | refine Exists.intro _ (And.intro (fun _ => And.intro rfl rfl) ?_)
    | refine Exists.intro _ (And.intro rfl ?_))
  refine called_row 91 (fun v => v) (fun A cap => .o 91 A N cap) (fun A cap => rfl) (fun w' hh => by have := rlegs_any l A cap w' (ro_of_ro hh (id := 100) rfl) (by omega); rw [← hN, ← hG] at this; exact this) ?_
  intro A5 cap5
  repeat' ((conv => whnf); first
    | refine walk (Tryd.ok ..) ?_
    | refine walk (COk.with_ (Tryd.ok ..) _ _) ?_
    | refine walk (COk.with_ (COk.with_ (Tryd.ok ..) _ _) _ _) ?_
    | (refine Cnd.mk (fun h => ?_) (fun h => ?_) <;> (first | (exfalso; simp only [decide_eq_true_eq, decide_eq_false_iff_not, Bool.not_eq_true', Bool.not_eq_false'] at h; omega) | (exfalso; simp at h; omega) | simp at h | skip))
    | refine And.intro (Kept.mk ?_) ?_
    | refine Two.mk (And.intro ?_ ?_)
    | exact trivial
    | refine side ?_
    | refine sideL ?_
    | refine Or.inr ?_
    | refine sat_drawH (Tryd.ok ..) (by kernel_rfl) ?_
    | refine sat_drawH (COk.with_ (Tryd.ok ..) _ _) (by kernel_rfl) ?_
    | refine sat_drawH (COk.with_ (COk.with_ (Tryd.ok ..) _ _) _ _) (by kernel_rfl) ?_
    | refine Exists.intro [_] (And.intro (one_byte rfl) ?_)
    | refine Exists.intro [_] (And.intro (fun _ => one_byte rfl) ?_)
    | refine Exists.intro _ (And.intro (And.intro rfl rfl) ?_)
    | refine Exists.intro _ (And.intro (fun _ => And.intro rfl rfl) ?_)
    | refine Exists.intro _ (And.intro rfl ?_))
  have hNl : N ≤ l.length := by have := legN_le l; omega
  refine sat_loop (Tryd.ok ..) (α := Nat) (fun x => ([(0, .yes, .o 100 A l.length cap), (9, .yes, .o 21 (some p) (l.length + 1) cap3), (18, .yes, .o 89 A4 N cap4), (19, .yes, .o 91 A5 N cap5), (20, .yes, .v (.int .i64 x))], [(100, .ro A l.length 3 (cells l)), (21, .row (some p) 26 3 (l.length + 1) cap3 (cells m)), (89, .row A4 42 3 N cap4 G), (91, .row A5 90 3 N cap5 G)])) (fun x => x ≤ N) (fun x => N - x) (fun _ => rfl) ?_ ?_
  · refine ⟨0, Nat.zero_le _, ?_, ?_, rfl⟩
    all_goals ((repeat' (first | exact trivial | exact rfl | refine And.intro ?_ ?_)) <;> (try (conv => whnf)) <;> (try simp only [SV.real, SV.r2, SV.r1]))
  intro x hx
  by_cases hx1 : x < N
  · have hN2 : N + 1 = l.length := by have := legN_le l; omega
    have ha := List.getElem?_eq_getElem (show x < l.length by omega)
    have hb := List.getElem?_eq_getElem (show x + 1 < l.length by omega)
    obtain ⟨f0, f1, f2⟩ := legTo_get ha hb (n := N) hx1 (by omega)
    have hG2 : G = legTo l N := by rw [hG]; unfold legL; rw [← hN]
    rw [← hG2] at f0 f1 f2
    have hms : x * 3 = mulS ((x : Int)).toNat 3 := by rw [mulS_eq, Int.toNat_natCast]
    rw [hms] at f0 f1 f2
    have f0' : G[mulS ((x : Int)).toNat 3 + 0]? = some (.string (l[x]'(by omega)).p) := f0
    repeat' ((conv => whnf); first
      | refine walk (Tryd.ok ..) ?_
      | refine walk (COk.with_ (Tryd.ok ..) _ _) ?_
      | refine walk (COk.with_ (COk.with_ (Tryd.ok ..) _ _) _ _) ?_
      | (refine Cnd.mk (fun h => ?_) (fun h => ?_) <;> (first | (exfalso; simp only [decide_eq_true_eq, decide_eq_false_iff_not, Bool.not_eq_true', Bool.not_eq_false'] at h; omega) | (exfalso; simp at h; omega) | simp at h | skip))
      | refine And.intro (Kept.mk ?_) ?_
      | refine Two.mk (And.intro ?_ ?_)
      | exact trivial
      | refine side ?_
      | refine sideL ?_
      | refine Or.inr ?_
      | refine sat_drawH (Tryd.ok ..) (by kernel_rfl) ?_
      | refine sat_drawH (COk.with_ (Tryd.ok ..) _ _) (by kernel_rfl) ?_
      | refine sat_drawH (COk.with_ (COk.with_ (Tryd.ok ..) _ _) _ _) (by kernel_rfl) ?_
      | refine Exists.intro [_] (And.intro (one_byte rfl) ?_)
      | refine Exists.intro [_] (And.intro (fun _ => one_byte rfl) ?_)
      | refine Exists.intro _ (And.intro (And.intro rfl rfl) ?_)
      | refine Exists.intro _ (And.intro (fun _ => And.intro rfl rfl) ?_)
      | refine Exists.intro _ (And.intro rfl ?_)
      | refine Exists.intro _ (And.intro (fun _ => (f0')) ?_)
      | refine Exists.intro _ (And.intro (f0') ?_)
      | refine Exists.intro _ (And.intro (fun _ => (f1)) ?_)
      | refine Exists.intro _ (And.intro (f1) ?_)
      | refine Exists.intro _ (And.intro (fun _ => (f2)) ?_)
      | refine Exists.intro _ (And.intro (f2) ?_))
    refine ⟨x + 1, ⟨by omega, by omega⟩, ?_, ?_, rfl⟩
    all_goals ((repeat' (first | exact trivial | exact rfl | refine And.intro ?_ ?_)) <;> (try (conv => whnf)) <;> (try simp only [SV.real, SV.r2, SV.r1]))
  · obtain rfl : x = N := by omega
    repeat' ((conv => whnf); first
      | refine walk (Tryd.ok ..) ?_
      | refine walk (COk.with_ (Tryd.ok ..) _ _) ?_
      | refine walk (COk.with_ (COk.with_ (Tryd.ok ..) _ _) _ _) ?_
      | (refine Cnd.mk (fun h => ?_) (fun h => ?_) <;> (first | (exfalso; simp only [decide_eq_true_eq, decide_eq_false_iff_not, Bool.not_eq_true', Bool.not_eq_false'] at h; omega) | (exfalso; simp at h; omega) | simp at h | skip))
      | refine And.intro (Kept.mk ?_) ?_
      | refine Two.mk (And.intro ?_ ?_)
      | exact trivial
      | refine side ?_
      | refine sideL ?_
      | refine Or.inr ?_
      | refine sat_drawH (Tryd.ok ..) (by kernel_rfl) ?_
      | refine sat_drawH (COk.with_ (Tryd.ok ..) _ _) (by kernel_rfl) ?_
      | refine sat_drawH (COk.with_ (COk.with_ (Tryd.ok ..) _ _) _ _) (by kernel_rfl) ?_
      | refine Exists.intro [_] (And.intro (one_byte rfl) ?_)
      | refine Exists.intro [_] (And.intro (fun _ => one_byte rfl) ?_)
      | refine Exists.intro _ (And.intro (And.intro rfl rfl) ?_)
      | refine Exists.intro _ (And.intro (fun _ => And.intro rfl rfl) ?_)
      | refine Exists.intro _ (And.intro rfl ?_))
    intro g141 hg141
    repeat' ((conv => whnf); first
      | refine walk (Tryd.ok ..) ?_
      | refine walk (COk.with_ (Tryd.ok ..) _ _) ?_
      | refine walk (COk.with_ (COk.with_ (Tryd.ok ..) _ _) _ _) ?_
      | (refine Cnd.mk (fun h => ?_) (fun h => ?_) <;> (first | (exfalso; simp only [decide_eq_true_eq, decide_eq_false_iff_not, Bool.not_eq_true', Bool.not_eq_false'] at h; omega) | (exfalso; simp at h; omega) | simp at h | skip))
      | refine And.intro (Kept.mk ?_) ?_
      | refine Two.mk (And.intro ?_ ?_)
      | exact trivial
      | refine side ?_
      | refine sideL ?_
      | refine Or.inr ?_
      | refine sat_drawH (Tryd.ok ..) (by kernel_rfl) ?_
      | refine sat_drawH (COk.with_ (Tryd.ok ..) _ _) (by kernel_rfl) ?_
      | refine sat_drawH (COk.with_ (COk.with_ (Tryd.ok ..) _ _) _ _) (by kernel_rfl) ?_
      | refine Exists.intro [_] (And.intro (one_byte rfl) ?_)
      | refine Exists.intro [_] (And.intro (fun _ => one_byte rfl) ?_)
      | refine Exists.intro _ (And.intro (And.intro rfl rfl) ?_)
      | refine Exists.intro _ (And.intro (fun _ => And.intro rfl rfl) ?_)
      | refine Exists.intro _ (And.intro rfl ?_))
    refine And.intro (by rw [cells_len]; exact Nat.le_refl _) ?_
    refine And.intro (allV_of (fun u hu => cC_one u (List.mem_of_mem_take hu))) ?_
    repeat' ((conv => whnf); first
      | refine walk (Tryd.ok ..) ?_
      | refine walk (COk.with_ (Tryd.ok ..) _ _) ?_
      | refine walk (COk.with_ (COk.with_ (Tryd.ok ..) _ _) _ _) ?_
      | (refine Cnd.mk (fun h => ?_) (fun h => ?_) <;> (first | (exfalso; simp only [decide_eq_true_eq, decide_eq_false_iff_not, Bool.not_eq_true', Bool.not_eq_false'] at h; omega) | (exfalso; simp at h; omega) | simp at h | skip))
      | refine And.intro (Kept.mk ?_) ?_
      | refine Two.mk (And.intro ?_ ?_)
      | exact trivial
      | refine side ?_
      | refine sideL ?_
      | refine Or.inr ?_
      | refine sat_drawH (Tryd.ok ..) (by kernel_rfl) ?_
      | refine sat_drawH (COk.with_ (Tryd.ok ..) _ _) (by kernel_rfl) ?_
      | refine sat_drawH (COk.with_ (COk.with_ (Tryd.ok ..) _ _) _ _) (by kernel_rfl) ?_
      | refine Exists.intro [_] (And.intro (one_byte rfl) ?_)
      | refine Exists.intro [_] (And.intro (fun _ => one_byte rfl) ?_)
      | refine Exists.intro _ (And.intro (And.intro rfl rfl) ?_)
      | refine Exists.intro _ (And.intro (fun _ => And.intro rfl rfl) ?_)
      | refine Exists.intro _ (And.intro rfl ?_))
    intro A6 cap6
    generalize hR : HB.row A6 26 _ _ cap6 _ = R
    rw [own_v]
    have hR2 : R = HB.row A6 26 3 l.length cap6 (cells l) := by rw [← hR]; exact own_eq A6 26 cap6 l
    clear hR
    subst hR2
    repeat' ((conv => whnf); first
      | refine walk (Tryd.ok ..) ?_
      | refine walk (COk.with_ (Tryd.ok ..) _ _) ?_
      | refine walk (COk.with_ (COk.with_ (Tryd.ok ..) _ _) _ _) ?_
      | (refine Cnd.mk (fun h => ?_) (fun h => ?_) <;> (first | (exfalso; simp only [decide_eq_true_eq, decide_eq_false_iff_not, Bool.not_eq_true', Bool.not_eq_false'] at h; omega) | (exfalso; simp at h; omega) | simp at h | skip))
      | refine And.intro (Kept.mk ?_) ?_
      | refine Two.mk (And.intro ?_ ?_)
      | exact trivial
      | refine side ?_
      | refine sideL ?_
      | refine Or.inr ?_
      | refine sat_drawH (Tryd.ok ..) (by kernel_rfl) ?_
      | refine sat_drawH (COk.with_ (Tryd.ok ..) _ _) (by kernel_rfl) ?_
      | refine sat_drawH (COk.with_ (COk.with_ (Tryd.ok ..) _ _) _ _) (by kernel_rfl) ?_
      | refine Exists.intro [_] (And.intro (one_byte rfl) ?_)
      | refine Exists.intro [_] (And.intro (fun _ => one_byte rfl) ?_)
      | refine Exists.intro _ (And.intro (And.intro rfl rfl) ?_)
      | refine Exists.intro _ (And.intro (fun _ => And.intro rfl rfl) ?_)
      | refine Exists.intro _ (And.intro rfl ?_))
    intro g145 hg145
    repeat' ((conv => whnf); first
      | refine walk (Tryd.ok ..) ?_
      | refine walk (COk.with_ (Tryd.ok ..) _ _) ?_
      | refine walk (COk.with_ (COk.with_ (Tryd.ok ..) _ _) _ _) ?_
      | (refine Cnd.mk (fun h => ?_) (fun h => ?_) <;> (first | (exfalso; simp only [decide_eq_true_eq, decide_eq_false_iff_not, Bool.not_eq_true', Bool.not_eq_false'] at h; omega) | (exfalso; simp at h; omega) | simp at h | skip))
      | refine And.intro (Kept.mk ?_) ?_
      | refine Two.mk (And.intro ?_ ?_)
      | exact trivial
      | refine side ?_
      | refine sideL ?_
      | refine Or.inr ?_
      | refine sat_drawH (Tryd.ok ..) (by kernel_rfl) ?_
      | refine sat_drawH (COk.with_ (Tryd.ok ..) _ _) (by kernel_rfl) ?_
      | refine sat_drawH (COk.with_ (COk.with_ (Tryd.ok ..) _ _) _ _) (by kernel_rfl) ?_
      | refine Exists.intro [_] (And.intro (one_byte rfl) ?_)
      | refine Exists.intro [_] (And.intro (fun _ => one_byte rfl) ?_)
      | refine Exists.intro _ (And.intro (And.intro rfl rfl) ?_)
      | refine Exists.intro _ (And.intro (fun _ => And.intro rfl rfl) ?_)
      | refine Exists.intro _ (And.intro rfl ?_))
    intro A7 cap7
    generalize hR : HB.row A7 26 _ _ cap7 _ = R
    have hR2 : R = HB.row A7 26 3 (l.length + 1) cap7 (cells m) := by rw [← hR, hm]; exact own_last A7 cap7 l
    clear hR
    subst hR2
    repeat' ((conv => whnf); first
      | refine walk (Tryd.ok ..) ?_
      | refine walk (COk.with_ (Tryd.ok ..) _ _) ?_
      | refine walk (COk.with_ (COk.with_ (Tryd.ok ..) _ _) _ _) ?_
      | (refine Cnd.mk (fun h => ?_) (fun h => ?_) <;> (first | (exfalso; simp only [decide_eq_true_eq, decide_eq_false_iff_not, Bool.not_eq_true', Bool.not_eq_false'] at h; omega) | (exfalso; simp at h; omega) | simp at h | skip))
      | refine And.intro (Kept.mk ?_) ?_
      | refine Two.mk (And.intro ?_ ?_)
      | exact trivial
      | refine side ?_
      | refine sideL ?_
      | refine Or.inr ?_
      | refine sat_drawH (Tryd.ok ..) (by kernel_rfl) ?_
      | refine sat_drawH (COk.with_ (Tryd.ok ..) _ _) (by kernel_rfl) ?_
      | refine sat_drawH (COk.with_ (COk.with_ (Tryd.ok ..) _ _) _ _) (by kernel_rfl) ?_
      | refine Exists.intro [_] (And.intro (one_byte rfl) ?_)
      | refine Exists.intro [_] (And.intro (fun _ => one_byte rfl) ?_)
      | refine Exists.intro _ (And.intro (And.intro rfl rfl) ?_)
      | refine Exists.intro _ (And.intro (fun _ => And.intro rfl rfl) ?_)
      | refine Exists.intro _ (And.intro rfl ?_))
    refine called_at (.v (.bool true)) rfl (fun w' hh => by
      have h1 := ro_of_row hh (id := 21) rfl
      have h2 := ro_of_row hh (id := 141) rfl
      rw [← hml] at h1 h2
      have := same_any m m (some p) A7 cap3 cap7 w' h1 h2 (by omega)
      rw [sameB_self, hml] at this
      exact this) ?_
    repeat' ((conv => whnf); first
      | refine walk (Tryd.ok ..) ?_
      | refine walk (COk.with_ (Tryd.ok ..) _ _) ?_
      | refine walk (COk.with_ (COk.with_ (Tryd.ok ..) _ _) _ _) ?_
      | (refine Cnd.mk (fun h => ?_) (fun h => ?_) <;> (first | (exfalso; simp only [decide_eq_true_eq, decide_eq_false_iff_not, Bool.not_eq_true', Bool.not_eq_false'] at h; omega) | (exfalso; simp at h; omega) | simp at h | skip))
      | refine And.intro (Kept.mk ?_) ?_
      | refine Two.mk (And.intro ?_ ?_)
      | exact trivial
      | refine side ?_
      | refine sideL ?_
      | refine Or.inr ?_
      | refine sat_drawH (Tryd.ok ..) (by kernel_rfl) ?_
      | refine sat_drawH (COk.with_ (Tryd.ok ..) _ _) (by kernel_rfl) ?_
      | refine sat_drawH (COk.with_ (COk.with_ (Tryd.ok ..) _ _) _ _) (by kernel_rfl) ?_
      | refine Exists.intro [_] (And.intro (one_byte rfl) ?_)
      | refine Exists.intro [_] (And.intro (fun _ => one_byte rfl) ?_)
      | refine Exists.intro _ (And.intro (And.intro rfl rfl) ?_)
      | refine Exists.intro _ (And.intro (fun _ => And.intro rfl rfl) ?_)
      | refine Exists.intro _ (And.intro rfl ?_))
    exact done_pure rfl rfl rfl
end Go.Proofs.YtbpklalkoocneaaDoor

