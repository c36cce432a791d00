/-
  The walks of the route package: a route that is later.
-/
import Derived.Test.YtbpklalkoocneaaDoorF
import Derived.Test.YtbpklalkoocneaaDoorPlain2
namespace Go.Proofs.YtbpklalkoocneaaDoor
open Go Sat Go.RowKit Go.PlainAid
set_option linter.unusedSimpArgs false
set_option linter.unusedVariables false
theorem cC_one {l : List Cl} : ∀ u ∈ cells l, u.oneCell' = true := by
  intro u hu
  unfold cells at hu
  rw [List.mem_flatMap] at hu
  obtain ⟨c, _, hu⟩ := hu
  unfold cC at hu
  simp at hu
  rcases hu with rfl | rfl | rfl <;> rfl
theorem done_row2 {cx : Cx} {v : SV} {H : Heap} {e size m m' : Nat} {xs xs' : List Value} {mk : Value → Value} (hn : cx.n0 = cx.W.heap.size) (hM : cx.M = []) (d : Nat) (A : Option (Nat × Nat)) (cap : Nat) (hf : hfind H d = some (.row A e size m' cap xs')) (hm : m' = m) (hx : xs' = xs) (h : v.real = mk (.slice (adr A) m' cap)) :
    Done cx (fun e' w' => ∃ v, e' = .returned (mk v) ∧ w'.ownsRow cx.W.heap.size e size v m xs ∧ Below cx.W.heap.size cx.W w') v H := by
  subst hm; subst hx
  exact done_row hn hM d A cap hf h
theorem at_ti {l : List Cl} {i : Int} {k : Nat} {c : Cl} (hc : l[k]? = some c) (hi : i = k) : (cells l)[mulS i.toNat 3 + 1]? = some (.int .i64 c.t) := by
  rw [mulS_eq, hi, Int.toNat_natCast]
  exact (cells_get hc).2.1
set_option maxRecDepth 100000 in
set_option maxHeartbeats 8000000 in
theorem clone_any (l : List Cl) (p : Nat × Nat) (cap : Nat) (w : World) (hro : Ro w (some p) l.length 3 (cells l)) (hl : l.length ≤ 4398046511104) : Calls Tryd.prog 44 #[.slice (adr (some p)) l.length cap] w fun e w' => ∃ v, e = .returned v ∧ w'.ownsRow w.heap.size 26 3 v l.length (cells l) ∧ Below w.heap.size w w' := by
  refine calls_sat (cx := Tryd.cx 8 [] [] [] w) (Tryd.ok ..) Tryd.func44 rfl [.o 100 (some p) l.length cap] rfl (by show 1 ≤ 8; omega) [(100, .ro (some p) l.length 3 (cells l))] (holds_ros rfl rfl ⟨hro, trivial⟩) ?_
  repeat' ((conv => whnf); first
    | refine walk (Tryd.ok ..) ?_
    | refine walk (COk.with_ (Tryd.ok ..) _ _) ?_
    | refine walk (COk.with_ (COk.with_ (Tryd.ok ..) _ _) _ _) ?_
    | (refine Cnd.mk (fun h => ?_) (fun h => ?_) <;> (first | (exfalso; simp only [decide_eq_true_eq, decide_eq_false_iff_not, Bool.not_eq_true', Bool.not_eq_false'] at h; omega) | (exfalso; simp at h; omega) | simp at h | skip))
    | refine And.intro (Kept.mk ?_) ?_
    | refine Two.mk (And.intro ?_ ?_)
    | exact trivial
    | refine side ?_
    | refine sideL ?_
    | refine Or.inr ?_
    | refine sat_drawH (Tryd.ok ..) (by kernel_rfl) ?_
    | refine sat_drawH (COk.with_ (Tryd.ok ..) _ _) (by kernel_rfl) ?_
    | refine sat_drawH (COk.with_ (COk.with_ (Tryd.ok ..) _ _) _ _) (by kernel_rfl) ?_
    | refine Exists.intro [_] (And.intro (one_byte rfl) ?_)
    | refine Exists.intro [_] (And.intro (fun _ => one_byte rfl) ?_)
    | refine Exists.intro _ (And.intro (And.intro rfl rfl) ?_)
    | refine Exists.intro _ (And.intro (fun _ => And.intro rfl rfl) ?_)
    | refine Exists.intro _ (And.intro rfl ?_))
  intro g5 hg5
  repeat' ((conv => whnf); first
    | refine walk (Tryd.ok ..) ?_
    | refine walk (COk.with_ (Tryd.ok ..) _ _) ?_
    | refine walk (COk.with_ (COk.with_ (Tryd.ok ..) _ _) _ _) ?_
    | (refine Cnd.mk (fun h => ?_) (fun h => ?_) <;> (first | (exfalso; simp only [decide_eq_true_eq, decide_eq_false_iff_not, Bool.not_eq_true', Bool.not_eq_false'] at h; omega) | (exfalso; simp at h; omega) | simp at h | skip))
    | refine And.intro (Kept.mk ?_) ?_
    | refine Two.mk (And.intro ?_ ?_)
    | exact trivial
    | refine side ?_
    | refine sideL ?_
    | refine Or.inr ?_
    | refine sat_drawH (Tryd.ok ..) (by kernel_rfl) ?_
    | refine sat_drawH (COk.with_ (Tryd.ok ..) _ _) (by kernel_rfl) ?_
    | refine sat_drawH (COk.with_ (COk.with_ (Tryd.ok ..) _ _) _ _) (by kernel_rfl) ?_
    | refine Exists.intro [_] (And.intro (one_byte rfl) ?_)
    | refine Exists.intro [_] (And.intro (fun _ => one_byte rfl) ?_)
    | refine Exists.intro _ (And.intro (And.intro rfl rfl) ?_)
    | refine Exists.intro _ (And.intro (fun _ => And.intro rfl rfl) ?_)
    | refine Exists.intro _ (And.intro rfl ?_))
  refine And.intro (by rw [cells_len]; exact Nat.le_refl _) ?_
  refine And.intro (allV_of (fun u hu => cC_one u (List.mem_of_mem_take hu))) ?_
  repeat' ((conv => whnf); first
    | refine walk (Tryd.ok ..) ?_
    | refine walk (COk.with_ (Tryd.ok ..) _ _) ?_
    | refine walk (COk.with_ (COk.with_ (Tryd.ok ..) _ _) _ _) ?_
    | (refine Cnd.mk (fun h => ?_) (fun h => ?_) <;> (first | (exfalso; simp only [decide_eq_true_eq, decide_eq_false_iff_not, Bool.not_eq_true', Bool.not_eq_false'] at h; omega) | (exfalso; simp at h; omega) | simp at h | skip))
    | refine And.intro (Kept.mk ?_) ?_
    | refine Two.mk (And.intro ?_ ?_)
    | exact trivial
    | refine side ?_
    | refine sideL ?_
    | refine Or.inr ?_
    | refine sat_drawH (Tryd.ok ..) (by kernel_rfl) ?_
    | refine sat_drawH (COk.with_ (Tryd.ok ..) _ _) (by kernel_rfl) ?_
    | refine sat_drawH (COk.with_ (COk.with_ (Tryd.ok ..) _ _) _ _) (by kernel_rfl) ?_
    | refine Exists.intro [_] (And.intro (one_byte rfl) ?_)
    | refine Exists.intro [_] (And.intro (fun _ => one_byte rfl) ?_)
    | refine Exists.intro _ (And.intro (And.intro rfl rfl) ?_)
    | refine Exists.intro _ (And.intro (fun _ => And.intro rfl rfl) ?_)
    | refine Exists.intro _ (And.intro rfl ?_))
  intro A2 cap2
  repeat' ((conv => whnf); first
    | refine walk (Tryd.ok ..) ?_
    | refine walk (COk.with_ (Tryd.ok ..) _ _) ?_
    | refine walk (COk.with_ (COk.with_ (Tryd.ok ..) _ _) _ _) ?_
    | (refine Cnd.mk (fun h => ?_) (fun h => ?_) <;> (first | (exfalso; simp only [decide_eq_true_eq, decide_eq_false_iff_not, Bool.not_eq_true', Bool.not_eq_false'] at h; omega) | (exfalso; simp at h; omega) | simp at h | skip))
    | refine And.intro (Kept.mk ?_) ?_
    | refine Two.mk (And.intro ?_ ?_)
    | exact trivial
    | refine side ?_
    | refine sideL ?_
    | refine Or.inr ?_
    | refine sat_drawH (Tryd.ok ..) (by kernel_rfl) ?_
    | refine sat_drawH (COk.with_ (Tryd.ok ..) _ _) (by kernel_rfl) ?_
    | refine sat_drawH (COk.with_ (COk.with_ (Tryd.ok ..) _ _) _ _) (by kernel_rfl) ?_
    | refine Exists.intro [_] (And.intro (one_byte rfl) ?_)
    | refine Exists.intro [_] (And.intro (fun _ => one_byte rfl) ?_)
    | refine Exists.intro _ (And.intro (And.intro rfl rfl) ?_)
    | refine Exists.intro _ (And.intro (fun _ => And.intro rfl rfl) ?_)
    | refine Exists.intro _ (And.intro rfl ?_))
  refine done_row2 (mk := fun v => v) rfl rfl 5 A2 cap2 rfl (Nat.zero_add _) ?_ rfl
  show [] ++ (cells l).take (l.length * 3) = cells l
  rw [List.nil_append, List.take_of_length_le (by rw [cells_len]; exact Nat.le_refl _)]
set_option maxRecDepth 100000 in
set_option maxHeartbeats 8000000 in
theorem delay_any (l : List Cl) (A : Option (Nat × Nat)) (cap : Nat) (k by_ : Int) (w : World) (hro : Ro w A l.length 3 (cells l)) (hl : l.length ≤ 9223372036854775807) : Calls Tryd.prog 26 #[.slice (adr A) l.length cap, .int .i64 k, .int .i64 by_] w fun e w' => ∃ v, e = .returned (.tuple #[v, .int .i64 (delE l k by_)]) ∧ w'.ownsRow w.heap.size 26 3 v (delN l k by_) (delX l k by_) ∧ Below w.heap.size w w' := by
  refine calls_sat (cx := Tryd.cx 63 [] [] [] w) (Tryd.ok ..) Tryd.func26 rfl [.o 100 A l.length cap, .v (.int .i64 k), .v (.int .i64 by_)] rfl (by show 3 ≤ 63; omega) [(100, .ro A l.length 3 (cells l))] (holds_ros rfl rfl ⟨hro, trivial⟩) ?_
  repeat' ((conv => whnf); first
    | refine walk (Tryd.ok ..) ?_
    | refine walk (COk.with_ (Tryd.ok ..) _ _) ?_
    | refine walk (COk.with_ (COk.with_ (Tryd.ok ..) _ _) _ _) ?_
    | (refine Cnd.mk (fun h => ?_) (fun h => ?_) <;> (first | (exfalso; simp only [decide_eq_true_eq, decide_eq_false_iff_not, Bool.not_eq_true', Bool.not_eq_false'] at h; omega) | (exfalso; simp at h; omega) | simp at h | skip))
    | refine And.intro (Kept.mk ?_) ?_
    | refine Two.mk (And.intro ?_ ?_)
    | exact trivial
    | refine side ?_
    | refine sideL ?_
    | refine Or.inr ?_
    | refine sat_drawH (Tryd.ok ..) (by kernel_rfl) ?_
    | refine sat_drawH (COk.with_ (Tryd.ok ..) _ _) (by kernel_rfl) ?_
    | refine sat_drawH (COk.with_ (COk.with_ (Tryd.ok ..) _ _) _ _) (by kernel_rfl) ?_
    | refine Exists.intro [_] (And.intro (one_byte rfl) ?_)
    | refine Exists.intro [_] (And.intro (fun _ => one_byte rfl) ?_)
    | refine Exists.intro _ (And.intro (And.intro rfl rfl) ?_)
    | refine Exists.intro _ (And.intro (fun _ => And.intro rfl rfl) ?_)
    | refine Exists.intro _ (And.intro rfl ?_))
  refine called_at (.t [.v (.int .i64 (valI l)), .v (.int .i64 (valE l))]) rfl (fun w' hw => valid_any l A cap w' (ro_of_ro hw (id := 100) rfl) hl) ?_
  have nilcase : ∀ E : Int, E ≠ 0 → delE l k by_ = E → Done (Tryd.cx 63 [] [] [] w) (fun e w' => ∃ v, e = .returned (.tuple #[v, .int .i64 (delE l k by_)]) ∧ w'.ownsRow w.heap.size 26 3 v (delN l k by_) (delX l k by_) ∧ Below w.heap.size w w') (.t [.v (.slice none 0 0), .v (.int .i64 E)]) [(100, .ro A l.length 3 (cells l))] := by
    intro E hE he
    have h1 : delN l k by_ = 0 := by unfold delN; rw [if_neg (by omega)]
    have h2 : delX l k by_ = [] := by unfold delX; rw [if_neg (by omega)]
    rw [h1, h2, he]
    exact done_nil (cx := Tryd.cx 63 [] [] [] w) (mk := fun v => .tuple #[v, .int .i64 E]) rfl rfl rfl
  repeat' ((conv => whnf); first
    | refine walk (Tryd.ok ..) ?_
    | refine walk (COk.with_ (Tryd.ok ..) _ _) ?_
    | refine walk (COk.with_ (COk.with_ (Tryd.ok ..) _ _) _ _) ?_
    | (refine Cnd.mk (fun h => ?_) (fun h => ?_) <;> (first | (exfalso; simp only [decide_eq_true_eq, decide_eq_false_iff_not, Bool.not_eq_true', Bool.not_eq_false'] at h; omega) | (exfalso; simp at h; omega) | simp at h | skip))
    | refine And.intro (Kept.mk ?_) ?_
    | refine Two.mk (And.intro ?_ ?_)
    | exact trivial
    | refine side ?_
    | refine sideL ?_
    | refine Or.inr ?_
    | refine sat_drawH (Tryd.ok ..) (by kernel_rfl) ?_
    | refine sat_drawH (COk.with_ (Tryd.ok ..) _ _) (by kernel_rfl) ?_
    | refine sat_drawH (COk.with_ (COk.with_ (Tryd.ok ..) _ _) _ _) (by kernel_rfl) ?_
    | refine Exists.intro [_] (And.intro (one_byte rfl) ?_)
    | refine Exists.intro [_] (And.intro (fun _ => one_byte rfl) ?_)
    | refine Exists.intro _ (And.intro (And.intro rfl rfl) ?_)
    | refine Exists.intro _ (And.intro (fun _ => And.intro rfl rfl) ?_)
    | refine Exists.intro _ (And.intro rfl ?_))
  · exact nilcase 200 (by omega) (by unfold delE; rw [if_pos h])
  · rename_i hv
    exact nilcase 2 (by omega) (by unfold delE; rw [if_neg (by omega), if_pos (by omega)])
  rename_i hv
  have hkb := h
  have hvo := val_ok hv
  have hlo := hvo.1
  have hhi := hvo.2.1
  obtain ⟨cl, hcl⟩ : ∃ c, l[l.length - 1]? = some c := ⟨l[l.length - 1]'(by omega), List.getElem?_eq_getElem (by omega)⟩
  have hlast := lastT_eq hcl
  have hbl := rightC_bd (val_right hv hcl)
  repeat' ((conv => whnf); first
    | refine walk (Tryd.ok ..) ?_
    | refine walk (COk.with_ (Tryd.ok ..) _ _) ?_
    | refine walk (COk.with_ (COk.with_ (Tryd.ok ..) _ _) _ _) ?_
    | (refine Cnd.mk (fun h => ?_) (fun h => ?_) <;> (first | (exfalso; simp only [decide_eq_true_eq, decide_eq_false_iff_not, Bool.not_eq_true', Bool.not_eq_false'] at h; omega) | (exfalso; simp at h; omega) | simp at h | skip))
    | refine And.intro (Kept.mk ?_) ?_
    | refine Two.mk (And.intro ?_ ?_)
    | exact trivial
    | refine side ?_
    | refine sideL ?_
    | refine Or.inr ?_
    | refine sat_drawH (Tryd.ok ..) (by kernel_rfl) ?_
    | refine sat_drawH (COk.with_ (Tryd.ok ..) _ _) (by kernel_rfl) ?_
    | refine sat_drawH (COk.with_ (COk.with_ (Tryd.ok ..) _ _) _ _) (by kernel_rfl) ?_
    | refine Exists.intro [_] (And.intro (one_byte rfl) ?_)
    | refine Exists.intro [_] (And.intro (fun _ => one_byte rfl) ?_)
    | refine Exists.intro _ (And.intro (And.intro rfl rfl) ?_)
    | refine Exists.intro _ (And.intro (fun _ => And.intro rfl rfl) ?_)
    | refine Exists.intro _ (And.intro rfl ?_)
    | refine Exists.intro _ (And.intro (fun _ => (at_ti hcl (by omega))) ?_)
    | refine Exists.intro _ (And.intro (at_ti hcl (by omega)) ?_))
  · have hby := h
    exact nilcase 4 (by omega) (by unfold delE; rw [if_neg (by omega), if_neg (by omega), if_pos (by omega)])
  have hby := h
  have hE : delE l k by_ = 0 := delE_ok hv (by omega) (by omega)
  obtain ⟨p, rfl, _, _⟩ := hro.2 (by omega)
  refine called_row 45 (fun v => v) (fun A cap => .o 45 A l.length cap) (fun A cap => rfl) (fun w' hw => clone_any l p cap w' (ro_of_ro hw (id := 100) rfl) (by omega)) ?_
  intro A1 cap1
  repeat' ((conv => whnf); first
    | refine walk (Tryd.ok ..) ?_
    | refine walk (COk.with_ (Tryd.ok ..) _ _) ?_
    | refine walk (COk.with_ (COk.with_ (Tryd.ok ..) _ _) _ _) ?_
    | (refine Cnd.mk (fun h => ?_) (fun h => ?_) <;> (first | (exfalso; simp only [decide_eq_true_eq, decide_eq_false_iff_not, Bool.not_eq_true', Bool.not_eq_false'] at h; omega) | (exfalso; simp at h; omega) | simp at h | skip))
    | refine And.intro (Kept.mk ?_) ?_
    | refine Two.mk (And.intro ?_ ?_)
    | exact trivial
    | refine side ?_
    | refine sideL ?_
    | refine Or.inr ?_
    | refine sat_drawH (Tryd.ok ..) (by kernel_rfl) ?_
    | refine sat_drawH (COk.with_ (Tryd.ok ..) _ _) (by kernel_rfl) ?_
    | refine sat_drawH (COk.with_ (COk.with_ (Tryd.ok ..) _ _) _ _) (by kernel_rfl) ?_
    | refine Exists.intro [_] (And.intro (one_byte rfl) ?_)
    | refine Exists.intro [_] (And.intro (fun _ => one_byte rfl) ?_)
    | refine Exists.intro _ (And.intro (And.intro rfl rfl) ?_)
    | refine Exists.intro _ (And.intro (fun _ => And.intro rfl rfl) ?_)
    | refine Exists.intro _ (And.intro rfl ?_))
  refine sat_loop (Tryd.ok ..) (α := Nat) (fun x => ([(0, .yes, .o 100 (some p) l.length cap), (1, .yes, .v (.int .i64 k)), (2, .yes, .v (.int .i64 by_)), (10, .yes, .o 45 A1 l.length cap1), (11, .yes, .v (.int .i64 x))], [(100, .ro (some p) l.length 3 (cells l)), (45, .row A1 26 3 l.length cap1 (cells (midL l k by_ x)))])) (fun x => k ≤ x ∧ x ≤ l.length) (fun x => l.length - x) (fun _ => rfl) ?_ ?_
  · refine ⟨k.toNat, ⟨by omega, by omega⟩, ?_, ?_, rfl⟩
    · dsimp only
      rw [show ((k.toNat : Nat) : Int) = k by omega]
      ((repeat' (first | exact trivial | exact rfl | refine And.intro ?_ ?_)) <;> (try (conv => whnf)) <;> (try simp only [SV.real, SV.r2, SV.r1]))
    · dsimp only
      rw [midL_0 (by omega) (by omega)]
      ((repeat' (first | exact trivial | exact rfl | refine And.intro ?_ ?_)) <;> (try (conv => whnf)) <;> (try simp only [SV.real, SV.r2, SV.r1]))
  rintro x ⟨hx0, hx⟩
  by_cases hx1 : x < l.length
  · obtain ⟨c, hc⟩ : ∃ c, l[x]? = some c := ⟨l[x], List.getElem?_eq_getElem hx1⟩
    have hcr := rightC_bd (val_right hv hc)
    have hct := val_incr hv (show x ≤ l.length - 1 by omega) hc hcl
    have hms : mulS ((x : Int)).toNat 3 = x * 3 := by rw [mulS_eq, Int.toNat_natCast]
    have hlen : (cells (midL l k by_ x)).length = l.length * 3 := by rw [cells_len, midL_len hx]
    have hset := midL_set (k := k) (by_ := by_) hc hx0
    rw [← hms] at hset
    repeat' ((conv => whnf); first
      | refine walk (Tryd.ok ..) ?_
      | refine walk (COk.with_ (Tryd.ok ..) _ _) ?_
      | refine walk (COk.with_ (COk.with_ (Tryd.ok ..) _ _) _ _) ?_
      | (refine Cnd.mk (fun h => ?_) (fun h => ?_) <;> (first | (exfalso; simp only [decide_eq_true_eq, decide_eq_false_iff_not, Bool.not_eq_true', Bool.not_eq_false'] at h; omega) | (exfalso; simp at h; omega) | simp at h | skip))
      | refine And.intro (Kept.mk ?_) ?_
      | refine Two.mk (And.intro ?_ ?_)
      | exact trivial
      | refine side ?_
      | refine sideL ?_
      | refine Or.inr ?_
      | refine sat_drawH (Tryd.ok ..) (by kernel_rfl) ?_
      | refine sat_drawH (COk.with_ (Tryd.ok ..) _ _) (by kernel_rfl) ?_
      | refine sat_drawH (COk.with_ (COk.with_ (Tryd.ok ..) _ _) _ _) (by kernel_rfl) ?_
      | refine Exists.intro [_] (And.intro (one_byte rfl) ?_)
      | refine Exists.intro [_] (And.intro (fun _ => one_byte rfl) ?_)
      | refine Exists.intro _ (And.intro (And.intro rfl rfl) ?_)
      | refine Exists.intro _ (And.intro (fun _ => And.intro rfl rfl) ?_)
      | refine Exists.intro _ (And.intro rfl ?_)
      | refine Exists.intro _ (And.intro (fun _ => (at_ti (midL_get hc) rfl)) ?_)
      | refine Exists.intro _ (And.intro (at_ti (midL_get hc) rfl) ?_))
    refine ⟨x + 1, ⟨⟨by omega, by omega⟩, by omega⟩, ?_, ?_, rfl⟩
    · ((repeat' (first | exact trivial | exact rfl | refine And.intro ?_ ?_)) <;> (try (conv => whnf)) <;> (try simp only [SV.real, SV.r2, SV.r1]))
    · dsimp only
      rw [← hset]
      ((repeat' (first | exact trivial | exact rfl | refine And.intro ?_ ?_)) <;> (try (conv => whnf)) <;> (try simp only [SV.real, SV.r2, SV.r1]))
  · obtain rfl : x = l.length := by omega
    repeat' ((conv => whnf); first
      | refine walk (Tryd.ok ..) ?_
      | refine walk (COk.with_ (Tryd.ok ..) _ _) ?_
      | refine walk (COk.with_ (COk.with_ (Tryd.ok ..) _ _) _ _) ?_
      | (refine Cnd.mk (fun h => ?_) (fun h => ?_) <;> (first | (exfalso; simp only [decide_eq_true_eq, decide_eq_false_iff_not, Bool.not_eq_true', Bool.not_eq_false'] at h; omega) | (exfalso; simp at h; omega) | simp at h | skip))
      | refine And.intro (Kept.mk ?_) ?_
      | refine Two.mk (And.intro ?_ ?_)
      | exact trivial
      | refine side ?_
      | refine sideL ?_
      | refine Or.inr ?_
      | refine sat_drawH (Tryd.ok ..) (by kernel_rfl) ?_
      | refine sat_drawH (COk.with_ (Tryd.ok ..) _ _) (by kernel_rfl) ?_
      | refine sat_drawH (COk.with_ (COk.with_ (Tryd.ok ..) _ _) _ _) (by kernel_rfl) ?_
      | refine Exists.intro [_] (And.intro (one_byte rfl) ?_)
      | refine Exists.intro [_] (And.intro (fun _ => one_byte rfl) ?_)
      | refine Exists.intro _ (And.intro (And.intro rfl rfl) ?_)
      | refine Exists.intro _ (And.intro (fun _ => And.intro rfl rfl) ?_)
      | refine Exists.intro _ (And.intro rfl ?_))
    rw [hE]
    refine done_row2 (mk := fun v => .tuple #[v, .int .i64 0]) rfl rfl 45 A1 cap1 rfl ?_ ?_ rfl
    · unfold delN
      rw [if_pos hE]
    · unfold delX
      rw [if_pos hE, midL_end]
end Go.Proofs.YtbpklalkoocneaaDoor

