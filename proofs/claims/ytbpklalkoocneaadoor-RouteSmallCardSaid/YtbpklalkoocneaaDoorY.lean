/-
  The walks of the laws of routes: delays.
-/
import Derived.Test.YtbpklalkoocneaaDoorP
import Derived.Test.YtbpklalkoocneaaDoorQ
import Derived.Test.YtbpklalkoocneaaDoorG
namespace Go.Proofs.YtbpklalkoocneaaDoor
open Go Sat Go.RowKit Go.PlainAid
set_option linter.unusedSimpArgs false
set_option linter.unusedVariables false
theorem own_eq (A : Option (Nat × Nat)) (e cap : Nat) (l : List Cl) : HB.row A e 3 (0 + l.length) cap ([] ++ (cells l).take (l.length * 3)) = HB.row A e 3 l.length cap (cells l) := by
  rw [Nat.zero_add, List.nil_append, List.take_of_length_le (by rw [cells_len]; exact Nat.le_refl _)]
theorem own_v (d : Nat) (A : Option (Nat × Nat)) (n cap : Nat) : SV.o d A (0 + n) cap = SV.o d A n cap := by rw [Nat.zero_add]
theorem cells_set {l : List Cl} {i : Nat} {c : Cl} {t : Int} (h : l[i]? = some c) : (cells l).set (i * 3 + 1) (.int .i64 t) = cells (l.set i ⟨c.p, t, c.d⟩) := by
  induction l generalizing i with
  | nil => simp at h
  | cons x l ih =>
    cases i with
    | zero =>
      simp at h
      subst h
      rfl
    | succ i =>
      rw [List.set_cons_succ, cells_cons, cells_cons, ← ih (by simpa using h)]
      have e : (i + 1) * 3 + 1 = (cC x).length + (i * 3 + 1) := by show _ = 3 + _; omega
      rw [e, List.set_append_right _ _ (by omega), Nat.add_sub_cancel_left]
def delC (l : List Cl) (k by_ : Int) : List Cl := if delE l k by_ = 0 then delL l k by_ else []
theorem delC_len (l : List Cl) (k by_ : Int) : (delC l k by_).length = delN l k by_ := by
  unfold delC delN
  split
  · exact delTo_len (Nat.le_refl _)
  · rfl
theorem delC_X (l : List Cl) (k by_ : Int) : cells (delC l k by_) = delX l k by_ := by
  unfold delC delX
  split <;> rfl
theorem delC_bd {l : List Cl} {k by_ : Int} {i : Nat} {c : Cl} (h : (delC l k by_)[i]? = some c) : 0 ≤ c.t ∧ c.t ≤ 100000000 := by
  unfold delC at h
  split at h
  · rename_i he
    have hi : i < l.length := by
      have := (List.getElem?_eq_some_iff.1 h).1
      unfold delL at this
      rw [delTo_len (Nat.le_refl _)] at this
      exact this
    have hc := List.getElem?_eq_getElem hi
    unfold delL at h
    rw [delTo_get (Nat.le_refl _) hi hc] at h
    unfold delE at he
    split at he
    · omega
    · rename_i hv
      have hv : valE l = 0 := by omega
      split at he
      · omega
      · split at he
        · omega
        · rename_i h1 h2
          have hbd := rightC_bd (val_right hv hc)
          have hcl := List.getElem?_eq_getElem (show l.length - 1 < l.length by omega)
          have hle := val_incr hv (show i ≤ l.length - 1 by omega) hc hcl
          rw [lastT_eq hcl] at h2
          cases h
          unfold later
          split
          · dsimp only; omega
          · omega
  · simp at h
theorem sameC_self (c : Cl) : sameC c c = true := by unfold sameC; simp
theorem sameTo_self (l : List Cl) : ∀ n, sameTo l l n = true := by
  intro n
  induction n with
  | zero => rfl
  | succ n ih =>
    rw [sameTo, ih]
    cases l[n]? with
    | none => rfl
    | some c => simp [sameC_self]
theorem sameB_self (l : List Cl) : sameB l l = true := by unfold sameB; rw [sameTo_self]; simp
set_option maxRecDepth 100000 in
set_option maxHeartbeats 8000000 in
theorem delays_any (l : List Cl) (A : Option (Nat × Nat)) (cap : Nat) (k by_ : Int) (w : World) (hro : Ro w A l.length 3 (cells l)) (hl : l.length * 32 ≤ 140737488351232) : Calls Tryd.prog 14 #[.slice (adr A) l.length cap, .int .i64 k, .int .i64 by_] w fun e w' => e = .returned (.bool true) ∧ Below w.heap.size w w' := by
  refine calls_sat (cx := Tryd.cx 64 [] [] [] w) (Tryd.ok ..) Tryd.func14 rfl [.o 100 A l.length cap, .v (.int .i64 k), .v (.int .i64 by_)] rfl (by show 3 ≤ 64; omega) [(100, .ro A l.length 3 (cells l))] (holds_ros rfl rfl ⟨hro, trivial⟩) ?_
  repeat' ((conv => whnf); first
    | refine walk (Tryd.ok ..) ?_
    | refine walk (COk.with_ (Tryd.ok ..) _ _) ?_
    | refine walk (COk.with_ (COk.with_ (Tryd.ok ..) _ _) _ _) ?_
    | (refine Cnd.mk (fun h => ?_) (fun h => ?_) <;> (first | (exfalso; simp only [decide_eq_true_eq, decide_eq_false_iff_not, Bool.not_eq_true', Bool.not_eq_false'] at h; omega) | (exfalso; simp at h; omega) | simp at h | skip))
    | refine And.intro (Kept.mk ?_) ?_
    | refine Two.mk (And.intro ?_ ?_)
    | exact trivial
    | refine side ?_
    | refine sideL ?_
    | refine Or.inr ?_
    | refine sat_drawH (Tryd.ok ..) (by kernel_rfl) ?_
    | refine sat_drawH (COk.with_ (Tryd.ok ..) _ _) (by kernel_rfl) ?_
    | refine sat_drawH (COk.with_ (COk.with_ (Tryd.ok ..) _ _) _ _) (by kernel_rfl) ?_
    | refine Exists.intro [_] (And.intro (one_byte rfl) ?_)
    | refine Exists.intro [_] (And.intro (fun _ => one_byte rfl) ?_)
    | refine Exists.intro _ (And.intro (And.intro rfl rfl) ?_)
    | refine Exists.intro _ (And.intro (fun _ => And.intro rfl rfl) ?_)
    | refine Exists.intro _ (And.intro rfl ?_))
  intro g13 hg13
  repeat' ((conv => whnf); first
    | refine walk (Tryd.ok ..) ?_
    | refine walk (COk.with_ (Tryd.ok ..) _ _) ?_
    | refine walk (COk.with_ (COk.with_ (Tryd.ok ..) _ _) _ _) ?_
    | (refine Cnd.mk (fun h => ?_) (fun h => ?_) <;> (first | (exfalso; simp only [decide_eq_true_eq, decide_eq_false_iff_not, Bool.not_eq_true', Bool.not_eq_false'] at h; omega) | (exfalso; simp at h; omega) | simp at h | skip))
    | refine And.intro (Kept.mk ?_) ?_
    | refine Two.mk (And.intro ?_ ?_)
    | exact trivial
    | refine side ?_
    | refine sideL ?_
    | refine Or.inr ?_
    | refine sat_drawH (Tryd.ok ..) (by kernel_rfl) ?_
    | refine sat_drawH (COk.with_ (Tryd.ok ..) _ _) (by kernel_rfl) ?_
    | refine sat_drawH (COk.with_ (COk.with_ (Tryd.ok ..) _ _) _ _) (by kernel_rfl) ?_
    | refine Exists.intro [_] (And.intro (one_byte rfl) ?_)
    | refine Exists.intro [_] (And.intro (fun _ => one_byte rfl) ?_)
    | refine Exists.intro _ (And.intro (And.intro rfl rfl) ?_)
    | refine Exists.intro _ (And.intro (fun _ => And.intro rfl rfl) ?_)
    | refine Exists.intro _ (And.intro rfl ?_))
  refine And.intro (by rw [cells_len]; exact Nat.le_refl _) ?_
  refine And.intro (allV_of (fun u hu => cC_one u (List.mem_of_mem_take hu))) ?_
  repeat' ((conv => whnf); first
    | refine walk (Tryd.ok ..) ?_
    | refine walk (COk.with_ (Tryd.ok ..) _ _) ?_
    | refine walk (COk.with_ (COk.with_ (Tryd.ok ..) _ _) _ _) ?_
    | (refine Cnd.mk (fun h => ?_) (fun h => ?_) <;> (first | (exfalso; simp only [decide_eq_true_eq, decide_eq_false_iff_not, Bool.not_eq_true', Bool.not_eq_false'] at h; omega) | (exfalso; simp at h; omega) | simp at h | skip))
    | refine And.intro (Kept.mk ?_) ?_
    | refine Two.mk (And.intro ?_ ?_)
    | exact trivial
    | refine side ?_
    | refine sideL ?_
    | refine Or.inr ?_
    | refine sat_drawH (Tryd.ok ..) (by kernel_rfl) ?_
    | refine sat_drawH (COk.with_ (Tryd.ok ..) _ _) (by kernel_rfl) ?_
    | refine sat_drawH (COk.with_ (COk.with_ (Tryd.ok ..) _ _) _ _) (by kernel_rfl) ?_
    | refine Exists.intro [_] (And.intro (one_byte rfl) ?_)
    | refine Exists.intro [_] (And.intro (fun _ => one_byte rfl) ?_)
    | refine Exists.intro _ (And.intro (And.intro rfl rfl) ?_)
    | refine Exists.intro _ (And.intro (fun _ => And.intro rfl rfl) ?_)
    | refine Exists.intro _ (And.intro rfl ?_))
  intro A2 cap2
  generalize hR : HB.row A2 26 _ _ cap2 _ = R
  rw [own_v]
  have hR2 : R = HB.row A2 26 3 l.length cap2 (cells l) := by rw [← hR]; exact own_eq A2 26 cap2 l
  clear hR
  subst hR2
  obtain ⟨dl, hdl⟩ : ∃ dl, dl = delC l k by_ := ⟨_, rfl⟩
  obtain ⟨E, hE⟩ : ∃ E, E = delE l k by_ := ⟨_, rfl⟩
  have hdlen : dl.length = delN l k by_ := by rw [hdl]; exact delC_len l k by_
  have hdx : cells dl = delX l k by_ := by rw [hdl]; exact delC_X l k by_
  have hdn : dl.length ≤ l.length := by rw [hdlen]; unfold delN; split <;> omega
  have hdel : ∀ {cx : Cx} {H : Heap} {w' : World}, cx.P = Tryd.prog → Holds cx H w' → ∀ A' cap', Ro w' A' l.length 3 (cells l) → Calls Tryd.prog 26 #[.slice (adr A') l.length cap', .int .i64 k, .int .i64 by_] w' fun e w2 => ∃ v, e = .returned (.tuple #[v, .int .i64 E]) ∧ w2.ownsRow w'.heap.size 26 3 v dl.length (cells dl) ∧ Below w'.heap.size w' w2 := by
    intro cx H w' _ _ A' cap' hr
    rw [hdlen, hdx, hE]
    exact delay_any l A' cap' k by_ w' hr (by omega)
  have hrdel : ∀ {cx : Cx} {H : Heap} {w' : World}, cx.P = Tryd.prog → Holds cx H w' → ∀ A' cap', Ro w' A' l.length 3 (cells l) → Calls Tryd.prog 31 #[.slice (adr A') l.length cap', .int .i64 k, .int .i64 by_] w' fun e w2 => ∃ v, e = .returned (.tuple #[v, .int .i64 E]) ∧ w2.ownsRow w'.heap.size 26 3 v dl.length (cells dl) ∧ Below w'.heap.size w' w2 := by
    intro cx H w' _ _ A' cap' hr
    rw [hdlen, hdx, hE]
    exact rdelay_any l A' cap' k by_ w' hr (by omega)
  repeat' ((conv => whnf); first
    | refine walk (Tryd.ok ..) ?_
    | refine walk (COk.with_ (Tryd.ok ..) _ _) ?_
    | refine walk (COk.with_ (COk.with_ (Tryd.ok ..) _ _) _ _) ?_
    | (refine Cnd.mk (fun h => ?_) (fun h => ?_) <;> (first | (exfalso; simp only [decide_eq_true_eq, decide_eq_false_iff_not, Bool.not_eq_true', Bool.not_eq_false'] at h; omega) | (exfalso; simp at h; omega) | simp at h | skip))
    | refine And.intro (Kept.mk ?_) ?_
    | refine Two.mk (And.intro ?_ ?_)
    | exact trivial
    | refine side ?_
    | refine sideL ?_
    | refine Or.inr ?_
    | refine sat_drawH (Tryd.ok ..) (by kernel_rfl) ?_
    | refine sat_drawH (COk.with_ (Tryd.ok ..) _ _) (by kernel_rfl) ?_
    | refine sat_drawH (COk.with_ (COk.with_ (Tryd.ok ..) _ _) _ _) (by kernel_rfl) ?_
    | refine Exists.intro [_] (And.intro (one_byte rfl) ?_)
    | refine Exists.intro [_] (And.intro (fun _ => one_byte rfl) ?_)
    | refine Exists.intro _ (And.intro (And.intro rfl rfl) ?_)
    | refine Exists.intro _ (And.intro (fun _ => And.intro rfl rfl) ?_)
    | refine Exists.intro _ (And.intro rfl ?_))
  refine called_row 20 (fun v => .tuple #[v, .int .i64 E]) (fun A cap => .t [.o 20 A dl.length cap, .v (.int .i64 E)]) (fun A cap => rfl) (fun w' hh => hdel rfl hh A2 cap2 (ro_of_row hh (id := 13) rfl)) ?_
  intro A3 cap3
  repeat' ((conv => whnf); first
    | refine walk (Tryd.ok ..) ?_
    | refine walk (COk.with_ (Tryd.ok ..) _ _) ?_
    | refine walk (COk.with_ (COk.with_ (Tryd.ok ..) _ _) _ _) ?_
    | (refine Cnd.mk (fun h => ?_) (fun h => ?_) <;> (first | (exfalso; simp only [decide_eq_true_eq, decide_eq_false_iff_not, Bool.not_eq_true', Bool.not_eq_false'] at h; omega) | (exfalso; simp at h; omega) | simp at h | skip))
    | refine And.intro (Kept.mk ?_) ?_
    | refine Two.mk (And.intro ?_ ?_)
    | exact trivial
    | refine side ?_
    | refine sideL ?_
    | refine Or.inr ?_
    | refine sat_drawH (Tryd.ok ..) (by kernel_rfl) ?_
    | refine sat_drawH (COk.with_ (Tryd.ok ..) _ _) (by kernel_rfl) ?_
    | refine sat_drawH (COk.with_ (COk.with_ (Tryd.ok ..) _ _) _ _) (by kernel_rfl) ?_
    | refine Exists.intro [_] (And.intro (one_byte rfl) ?_)
    | refine Exists.intro [_] (And.intro (fun _ => one_byte rfl) ?_)
    | refine Exists.intro _ (And.intro (And.intro rfl rfl) ?_)
    | refine Exists.intro _ (And.intro (fun _ => And.intro rfl rfl) ?_)
    | refine Exists.intro _ (And.intro rfl ?_))
  refine sat_loop (Tryd.ok ..) (α := Nat × List Cl) (fun x => ([(0, .yes, .o 100 A l.length cap), (1, .yes, .v (.int .i64 k)), (2, .yes, .v (.int .i64 by_)), (7, .yes, .o 13 A2 l.length cap2), (8, .yes, .o 20 A3 dl.length cap3), (9, .yes, .v (.int .i64 E)), (24, .yes, .v (.int .i64 dl.length)), (25, .yes, .v (.int .i64 x.1))], [(100, .ro A l.length 3 (cells l)), (13, .row A2 26 3 l.length cap2 (cells l)), (20, .row A3 26 3 dl.length cap3 (cells x.2))])) (fun x => x.1 ≤ dl.length ∧ x.2.length = dl.length ∧ ∀ i c, x.1 ≤ i → x.2[i]? = some c → 0 ≤ c.t ∧ c.t ≤ 100000000) (fun x => dl.length - x.1) (fun _ => rfl) ?_ ?_
  · refine ⟨(0, dl), ⟨Nat.zero_le _, rfl, fun i c _ hc => delC_bd (by rw [← hdl]; exact hc)⟩, ?_, ?_, rfl⟩
    all_goals ((repeat' (first | exact trivial | exact rfl | refine And.intro ?_ ?_)) <;> (try (conv => whnf)) <;> (try simp only [SV.real, SV.r2, SV.r1]))
  rintro ⟨x, y⟩ ⟨hx, hy, hok⟩
  dsimp only at hx hy hok
  by_cases hx1 : x < dl.length
  · obtain ⟨c, hc⟩ : ∃ c, y[x]? = some c := ⟨y[x]'(by omega), List.getElem?_eq_getElem (by omega)⟩
    have hcb := hok x c (Nat.le_refl _) hc
    have hms : mulS ((x : Int)).toNat 3 = x * 3 := by rw [mulS_eq, Int.toNat_natCast]
    have hlen : (cells y).length = dl.length * 3 := by rw [cells_len, hy]
    have hset := cells_set (t := c.t - 1) hc
    rw [← hms] at hset
    repeat' ((conv => whnf); first
      | refine walk (Tryd.ok ..) ?_
      | refine walk (COk.with_ (Tryd.ok ..) _ _) ?_
      | refine walk (COk.with_ (COk.with_ (Tryd.ok ..) _ _) _ _) ?_
      | (refine Cnd.mk (fun h => ?_) (fun h => ?_) <;> (first | (exfalso; simp only [decide_eq_true_eq, decide_eq_false_iff_not, Bool.not_eq_true', Bool.not_eq_false'] at h; omega) | (exfalso; simp at h; omega) | simp at h | skip))
      | refine And.intro (Kept.mk ?_) ?_
      | refine Two.mk (And.intro ?_ ?_)
      | exact trivial
      | refine side ?_
      | refine sideL ?_
      | refine Or.inr ?_
      | refine sat_drawH (Tryd.ok ..) (by kernel_rfl) ?_
      | refine sat_drawH (COk.with_ (Tryd.ok ..) _ _) (by kernel_rfl) ?_
      | refine sat_drawH (COk.with_ (COk.with_ (Tryd.ok ..) _ _) _ _) (by kernel_rfl) ?_
      | refine Exists.intro [_] (And.intro (one_byte rfl) ?_)
      | refine Exists.intro [_] (And.intro (fun _ => one_byte rfl) ?_)
      | refine Exists.intro _ (And.intro (And.intro rfl rfl) ?_)
      | refine Exists.intro _ (And.intro (fun _ => And.intro rfl rfl) ?_)
      | refine Exists.intro _ (And.intro rfl ?_)
      | refine Exists.intro _ (And.intro (fun _ => (at_ti hc rfl)) ?_)
      | refine Exists.intro _ (And.intro (at_ti hc rfl) ?_))
    refine ⟨(x + 1, y.set x ⟨c.p, c.t - 1, c.d⟩), ⟨⟨by show x + 1 ≤ dl.length; omega, by rw [List.length_set]; exact hy, fun i d hi hd => hok i d (by dsimp only at hi; omega) ?_⟩, by show dl.length - (x + 1) < dl.length - x; omega⟩, ?_, ?_, rfl⟩
    · dsimp only at hi hd
      rw [List.getElem?_set_ne (by omega)] at hd
      exact hd
    · ((repeat' (first | exact trivial | exact rfl | refine And.intro ?_ ?_)) <;> (try (conv => whnf)) <;> (try simp only [SV.real, SV.r2, SV.r1]))
    · dsimp only
      rw [← hset]
      ((repeat' (first | exact trivial | exact rfl | refine And.intro ?_ ?_)) <;> (try (conv => whnf)) <;> (try simp only [SV.real, SV.r2, SV.r1]))
  · obtain rfl : x = dl.length := by omega
    repeat' ((conv => whnf); first
      | refine walk (Tryd.ok ..) ?_
      | refine walk (COk.with_ (Tryd.ok ..) _ _) ?_
      | refine walk (COk.with_ (COk.with_ (Tryd.ok ..) _ _) _ _) ?_
      | (refine Cnd.mk (fun h => ?_) (fun h => ?_) <;> (first | (exfalso; simp only [decide_eq_true_eq, decide_eq_false_iff_not, Bool.not_eq_true', Bool.not_eq_false'] at h; omega) | (exfalso; simp at h; omega) | simp at h | skip))
      | refine And.intro (Kept.mk ?_) ?_
      | refine Two.mk (And.intro ?_ ?_)
      | exact trivial
      | refine side ?_
      | refine sideL ?_
      | refine Or.inr ?_
      | refine sat_drawH (Tryd.ok ..) (by kernel_rfl) ?_
      | refine sat_drawH (COk.with_ (Tryd.ok ..) _ _) (by kernel_rfl) ?_
      | refine sat_drawH (COk.with_ (COk.with_ (Tryd.ok ..) _ _) _ _) (by kernel_rfl) ?_
      | refine Exists.intro [_] (And.intro (one_byte rfl) ?_)
      | refine Exists.intro [_] (And.intro (fun _ => one_byte rfl) ?_)
      | refine Exists.intro _ (And.intro (And.intro rfl rfl) ?_)
      | refine Exists.intro _ (And.intro (fun _ => And.intro rfl rfl) ?_)
      | refine Exists.intro _ (And.intro rfl ?_))
    refine called_row 41 (fun v => .tuple #[v, .int .i64 E]) (fun A cap => .t [.o 41 A dl.length cap, .v (.int .i64 E)]) (fun A cap => rfl) (fun w' hh => hdel rfl hh A2 cap2 (ro_of_row hh (id := 13) rfl)) ?_
    intro A4 cap4
    repeat' ((conv => whnf); first
      | refine walk (Tryd.ok ..) ?_
      | refine walk (COk.with_ (Tryd.ok ..) _ _) ?_
      | refine walk (COk.with_ (COk.with_ (Tryd.ok ..) _ _) _ _) ?_
      | (refine Cnd.mk (fun h => ?_) (fun h => ?_) <;> (first | (exfalso; simp only [decide_eq_true_eq, decide_eq_false_iff_not, Bool.not_eq_true', Bool.not_eq_false'] at h; omega) | (exfalso; simp at h; omega) | simp at h | skip))
      | refine And.intro (Kept.mk ?_) ?_
      | refine Two.mk (And.intro ?_ ?_)
      | exact trivial
      | refine side ?_
      | refine sideL ?_
      | refine Or.inr ?_
      | refine sat_drawH (Tryd.ok ..) (by kernel_rfl) ?_
      | refine sat_drawH (COk.with_ (Tryd.ok ..) _ _) (by kernel_rfl) ?_
      | refine sat_drawH (COk.with_ (COk.with_ (Tryd.ok ..) _ _) _ _) (by kernel_rfl) ?_
      | refine Exists.intro [_] (And.intro (one_byte rfl) ?_)
      | refine Exists.intro [_] (And.intro (fun _ => one_byte rfl) ?_)
      | refine Exists.intro _ (And.intro (And.intro rfl rfl) ?_)
      | refine Exists.intro _ (And.intro (fun _ => And.intro rfl rfl) ?_)
      | refine Exists.intro _ (And.intro rfl ?_))
    refine called_row 48 (fun v => .tuple #[v, .int .i64 E]) (fun A cap => .t [.o 48 A dl.length cap, .v (.int .i64 E)]) (fun A cap => rfl) (fun w' hh => hrdel rfl hh A cap (ro_of_ro hh (id := 100) rfl)) ?_
    intro A5 cap5
    repeat' ((conv => whnf); first
      | refine walk (Tryd.ok ..) ?_
      | refine walk (COk.with_ (Tryd.ok ..) _ _) ?_
      | refine walk (COk.with_ (COk.with_ (Tryd.ok ..) _ _) _ _) ?_
      | (refine Cnd.mk (fun h => ?_) (fun h => ?_) <;> (first | (exfalso; simp only [decide_eq_true_eq, decide_eq_false_iff_not, Bool.not_eq_true', Bool.not_eq_false'] at h; omega) | (exfalso; simp at h; omega) | simp at h | skip))
      | refine And.intro (Kept.mk ?_) ?_
      | refine Two.mk (And.intro ?_ ?_)
      | exact trivial
      | refine side ?_
      | refine sideL ?_
      | refine Or.inr ?_
      | refine sat_drawH (Tryd.ok ..) (by kernel_rfl) ?_
      | refine sat_drawH (COk.with_ (Tryd.ok ..) _ _) (by kernel_rfl) ?_
      | refine sat_drawH (COk.with_ (COk.with_ (Tryd.ok ..) _ _) _ _) (by kernel_rfl) ?_
      | refine Exists.intro [_] (And.intro (one_byte rfl) ?_)
      | refine Exists.intro [_] (And.intro (fun _ => one_byte rfl) ?_)
      | refine Exists.intro _ (And.intro (And.intro rfl rfl) ?_)
      | refine Exists.intro _ (And.intro (fun _ => And.intro rfl rfl) ?_)
      | refine Exists.intro _ (And.intro rfl ?_))
    refine calledQ_at (.v (.bool true)) rfl (fun _ w' hh => by have := same_any dl dl A4 A5 cap4 cap5 w' (ro_of_row hh (id := 41) rfl) (ro_of_row hh (id := 48) rfl) (by omega); rw [sameB_self] at this; exact this) ?_
    repeat' ((conv => whnf); first
      | refine walk (Tryd.ok ..) ?_
      | refine walk (COk.with_ (Tryd.ok ..) _ _) ?_
      | refine walk (COk.with_ (COk.with_ (Tryd.ok ..) _ _) _ _) ?_
      | (refine Cnd.mk (fun h => ?_) (fun h => ?_) <;> (first | (exfalso; simp only [decide_eq_true_eq, decide_eq_false_iff_not, Bool.not_eq_true', Bool.not_eq_false'] at h; omega) | (exfalso; simp at h; omega) | simp at h | skip))
      | refine And.intro (Kept.mk ?_) ?_
      | refine Two.mk (And.intro ?_ ?_)
      | exact trivial
      | refine side ?_
      | refine sideL ?_
      | refine Or.inr ?_
      | refine sat_drawH (Tryd.ok ..) (by kernel_rfl) ?_
      | refine sat_drawH (COk.with_ (Tryd.ok ..) _ _) (by kernel_rfl) ?_
      | refine sat_drawH (COk.with_ (COk.with_ (Tryd.ok ..) _ _) _ _) (by kernel_rfl) ?_
      | refine Exists.intro [_] (And.intro (one_byte rfl) ?_)
      | refine Exists.intro [_] (And.intro (fun _ => one_byte rfl) ?_)
      | refine Exists.intro _ (And.intro (And.intro rfl rfl) ?_)
      | refine Exists.intro _ (And.intro (fun _ => And.intro rfl rfl) ?_)
      | refine Exists.intro _ (And.intro rfl ?_))
    refine calledQ_at (.v (.bool true)) rfl (fun _ w' hh => by have := same_any l l A2 A cap2 cap w' (ro_of_row hh (id := 13) rfl) (ro_of_ro hh (id := 100) rfl) (by omega); rw [sameB_self] at this; exact this) ?_
    repeat' ((conv => whnf); first
      | refine walk (Tryd.ok ..) ?_
      | refine walk (COk.with_ (Tryd.ok ..) _ _) ?_
      | refine walk (COk.with_ (COk.with_ (Tryd.ok ..) _ _) _ _) ?_
      | (refine Cnd.mk (fun h => ?_) (fun h => ?_) <;> (first | (exfalso; simp only [decide_eq_true_eq, decide_eq_false_iff_not, Bool.not_eq_true', Bool.not_eq_false'] at h; omega) | (exfalso; simp at h; omega) | simp at h | skip))
      | refine And.intro (Kept.mk ?_) ?_
      | refine Two.mk (And.intro ?_ ?_)
      | exact trivial
      | refine side ?_
      | refine sideL ?_
      | refine Or.inr ?_
      | refine sat_drawH (Tryd.ok ..) (by kernel_rfl) ?_
      | refine sat_drawH (COk.with_ (Tryd.ok ..) _ _) (by kernel_rfl) ?_
      | refine sat_drawH (COk.with_ (COk.with_ (Tryd.ok ..) _ _) _ _) (by kernel_rfl) ?_
      | refine Exists.intro [_] (And.intro (one_byte rfl) ?_)
      | refine Exists.intro [_] (And.intro (fun _ => one_byte rfl) ?_)
      | refine Exists.intro _ (And.intro (And.intro rfl rfl) ?_)
      | refine Exists.intro _ (And.intro (fun _ => And.intro rfl rfl) ?_)
      | refine Exists.intro _ (And.intro rfl ?_))
    exact done_pure rfl rfl (congrArg Value.bool (by simp))
end Go.Proofs.YtbpklalkoocneaaDoor

