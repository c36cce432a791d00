/-
  The walks of the route package's reference: what a right route is.
-/
import Derived.Test.YtbpklalkoocneaaDoorM
import Derived.Test.YtbpklalkoocneaaDoorP
namespace Go.Proofs.YtbpklalkoocneaaDoor
open Go Sat Go.RowKit Go.PlainAid
set_option linter.unusedSimpArgs false
set_option linter.unusedVariables false
def prevC (l : List Cl) (x : Nat) : Cl := match l[x - 1]? with
  | some c => c
  | none => ⟨⟨#[]⟩, 0, 0⟩
theorem prevC_get {l : List Cl} {x : Nat} (h0 : 0 < x) (h1 : x ≤ l.length) : l[x - 1]? = some (prevC l x) := by
  have := List.getElem?_eq_getElem (show x - 1 < l.length by omega)
  unfold prevC
  rw [this]
theorem badAt_eq {l : List Cl} {x : Nat} {c : Cl} (hc : l[x]? = some c) : badAt l x = (!rightC c || (decide (0 < x) && (decide (c.t ≤ (prevC l x).t) || c.p == (prevC l x).p))) := by
  unfold badAt
  rw [hc]
  dsimp only
  cases x with
  | zero => simp
  | succ x =>
    have hx := (List.getElem?_eq_some_iff.1 hc).1
    have := prevC_get (l := l) (x := x + 1) (by omega) (by omega)
    rw [Nat.add_sub_cancel] at this
    simp only [this]
    simp
theorem at_pi {l : List Cl} {i : Int} {k : Nat} {c : Cl} (hc : l[k]? = some c) (hi : i = k) : (cells l)[mulS i.toNat 3 + 0]? = some (.string c.p) := by
  rw [mulS_eq, hi, Int.toNat_natCast]
  exact (cells_get hc).1
set_option maxRecDepth 100000 in
set_option maxHeartbeats 8000000 in
theorem rvalid_any (l : List Cl) (A : Option (Nat × Nat)) (cap : Nat) (w : World) (hro : Ro w A l.length 3 (cells l)) (hl : l.length ≤ 9223372036854775806) : Calls Tryd.prog 45 #[.slice (adr A) l.length cap] w fun e w' => e = .returned (.tuple #[.int .i64 (valI l), .int .i64 (valE l)]) ∧ Below w.heap.size w w' := by
  refine calls_sat (cx := Tryd.cx 56 [] [] [] w) (Tryd.ok ..) Tryd.func45 rfl [.o 100 A l.length cap] rfl (by show 1 ≤ 56; omega) [(100, .ro A l.length 3 (cells l))] (holds_ros rfl rfl ⟨hro, trivial⟩) ?_
  repeat' ((conv => whnf); first
    | refine walk (Tryd.ok ..) ?_
    | refine walk (COk.with_ (Tryd.ok ..) _ _) ?_
    | refine walk (COk.with_ (COk.with_ (Tryd.ok ..) _ _) _ _) ?_
    | (refine Cnd.mk (fun h => ?_) (fun h => ?_) <;> (first | (exfalso; simp only [decide_eq_true_eq, decide_eq_false_iff_not, Bool.not_eq_true', Bool.not_eq_false'] at h; omega) | (exfalso; simp at h; omega) | simp at h | skip))
    | refine And.intro (Kept.mk ?_) ?_
    | refine Two.mk (And.intro ?_ ?_)
    | exact trivial
    | refine side ?_
    | refine sideL ?_
    | refine Or.inr ?_
    | refine sat_drawH (Tryd.ok ..) (by kernel_rfl) ?_
    | refine sat_drawH (COk.with_ (Tryd.ok ..) _ _) (by kernel_rfl) ?_
    | refine sat_drawH (COk.with_ (COk.with_ (Tryd.ok ..) _ _) _ _) (by kernel_rfl) ?_
    | refine Exists.intro [_] (And.intro (one_byte rfl) ?_)
    | refine Exists.intro [_] (And.intro (fun _ => one_byte rfl) ?_)
    | refine Exists.intro _ (And.intro (And.intro rfl rfl) ?_)
    | refine Exists.intro _ (And.intro (fun _ => And.intro rfl rfl) ?_)
    | refine Exists.intro _ (And.intro rfl ?_))
  · exact done_pure rfl rfl (real2 (by unfold valI; rw [if_pos (by omega)]) (by unfold valE; rw [if_pos (by omega)]))
  · exact done_pure rfl rfl (real2 (by unfold valI; rw [if_pos (by omega)]) (by unfold valE; rw [if_neg (by omega), if_pos (by omega)]))
  rename_i h1
  have h2 := h
  refine sat_loop (Tryd.ok ..) (α := Nat) (fun x => ([(0, .yes, .o 100 A l.length cap), (4, .yes, .v (.int .i64 x))], [(100, .ro A l.length 3 (cells l))])) (fun x => x ≤ l.length ∧ ∀ j, j < x → badAt l j = false) (fun x => l.length - x) (fun _ => rfl) ?_ ?_
  · refine ⟨0, ⟨by omega, fun j hj => absurd hj (by omega)⟩, ?_, ?_, rfl⟩
    all_goals ((repeat' (first | exact trivial | exact rfl | refine And.intro ?_ ?_)) <;> (try (conv => whnf)) <;> (try simp only [SV.real, SV.r2, SV.r1]))
  rintro x ⟨hx, hok⟩
  by_cases hx1 : x < l.length
  · obtain ⟨c, hc⟩ : ∃ c, l[x]? = some c := ⟨l[x], List.getElem?_eq_getElem hx1⟩
    have hb := badAt_eq hc
    have hp : 0 < x → l[x - 1]? = some (prevC l x) := fun h0 => prevC_get h0 (by omega)
    generalize prevC l x = pc at hb hp
    have fp : 0 < (x : Int) → (cells l)[mulS ((x : Int) - 1).toNat 3 + 0]? = some (.string pc.p) := fun h0 => at_pi (hp (by omega)) (by omega)
    have ft : 0 < (x : Int) → (cells l)[mulS ((x : Int) - 1).toNat 3 + 1]? = some (.int .i64 pc.t) := fun h0 => at_ti (hp (by omega)) (by omega)
    have gp : (cells l)[mulS ((x : Int)).toNat 3 + 0]? = some (.string c.p) := at_pi hc rfl
    repeat' ((conv => whnf); first
      | refine walk (Tryd.ok ..) ?_
      | refine walk (COk.with_ (Tryd.ok ..) _ _) ?_
      | refine walk (COk.with_ (COk.with_ (Tryd.ok ..) _ _) _ _) ?_
      | (refine Cnd.mk (fun h => ?_) (fun h => ?_) <;> (first | (exfalso; simp only [decide_eq_true_eq, decide_eq_false_iff_not, Bool.not_eq_true', Bool.not_eq_false'] at h; omega) | (exfalso; simp at h; omega) | simp at h | skip))
      | refine And.intro (Kept.mk ?_) ?_
      | refine Two.mk (And.intro ?_ ?_)
      | exact trivial
      | refine side ?_
      | refine sideL ?_
      | refine Or.inr ?_
      | refine sat_drawH (Tryd.ok ..) (by kernel_rfl) ?_
      | refine sat_drawH (COk.with_ (Tryd.ok ..) _ _) (by kernel_rfl) ?_
      | refine sat_drawH (COk.with_ (COk.with_ (Tryd.ok ..) _ _) _ _) (by kernel_rfl) ?_
      | refine Exists.intro [_] (And.intro (one_byte rfl) ?_)
      | refine Exists.intro [_] (And.intro (fun _ => one_byte rfl) ?_)
      | refine Exists.intro _ (And.intro (And.intro rfl rfl) ?_)
      | refine Exists.intro _ (And.intro (fun _ => And.intro rfl rfl) ?_)
      | refine Exists.intro _ (And.intro rfl ?_)
      | refine Exists.intro _ (And.intro (fun _ => (at_c hc rfl)) ?_)
      | refine Exists.intro _ (And.intro (at_c hc rfl) ?_)
      | refine Exists.intro _ (And.intro (fun _ => (gp)) ?_)
      | refine Exists.intro _ (And.intro (gp) ?_)
      | refine Exists.intro _ (And.intro (fun _ => (at_ti hc rfl)) ?_)
      | refine Exists.intro _ (And.intro (at_ti hc rfl) ?_)
      | refine Exists.intro _ (And.intro (fun _ => (fun h => fp (by simp at h; omega))) ?_)
      | refine Exists.intro _ (And.intro (fun h => fp (by simp at h; omega)) ?_)
      | refine Exists.intro _ (And.intro (fun _ => (fun h => ft (by simp at h; omega))) ?_)
      | refine Exists.intro _ (And.intro (fun h => ft (by simp at h; omega)) ?_))
    all_goals (try (conv => whnf))
    refine calledQ_pure (.v (.bool (rightC c))) rfl (fun _ w' => rright_any c w') ?_
    repeat' ((conv => whnf); first
      | refine walk (Tryd.ok ..) ?_
      | refine walk (COk.with_ (Tryd.ok ..) _ _) ?_
      | refine walk (COk.with_ (COk.with_ (Tryd.ok ..) _ _) _ _) ?_
      | (refine Cnd.mk (fun h => ?_) (fun h => ?_) <;> (first | (exfalso; simp only [decide_eq_true_eq, decide_eq_false_iff_not, Bool.not_eq_true', Bool.not_eq_false'] at h; omega) | (exfalso; simp at h; omega) | simp at h | skip))
      | refine And.intro (Kept.mk ?_) ?_
      | refine Two.mk (And.intro ?_ ?_)
      | exact trivial
      | refine side ?_
      | refine sideL ?_
      | refine Or.inr ?_
      | refine sat_drawH (Tryd.ok ..) (by kernel_rfl) ?_
      | refine sat_drawH (COk.with_ (Tryd.ok ..) _ _) (by kernel_rfl) ?_
      | refine sat_drawH (COk.with_ (COk.with_ (Tryd.ok ..) _ _) _ _) (by kernel_rfl) ?_
      | refine Exists.intro [_] (And.intro (one_byte rfl) ?_)
      | refine Exists.intro [_] (And.intro (fun _ => one_byte rfl) ?_)
      | refine Exists.intro _ (And.intro (And.intro rfl rfl) ?_)
      | refine Exists.intro _ (And.intro (fun _ => And.intro rfl rfl) ?_)
      | refine Exists.intro _ (And.intro rfl ?_)
      | refine Exists.intro _ (And.intro (fun _ => (at_c hc rfl)) ?_)
      | refine Exists.intro _ (And.intro (at_c hc rfl) ?_)
      | refine Exists.intro _ (And.intro (fun _ => (gp)) ?_)
      | refine Exists.intro _ (And.intro (gp) ?_)
      | refine Exists.intro _ (And.intro (fun _ => (at_ti hc rfl)) ?_)
      | refine Exists.intro _ (And.intro (at_ti hc rfl) ?_)
      | refine Exists.intro _ (And.intro (fun _ => (fun h => fp (by simp at h; omega))) ?_)
      | refine Exists.intro _ (And.intro (fun h => fp (by simp at h; omega)) ?_)
      | refine Exists.intro _ (And.intro (fun _ => (fun h => ft (by simp at h; omega))) ?_)
      | refine Exists.intro _ (And.intro (fun h => ft (by simp at h; omega)) ?_))
    · have hbad : badAt l x = true := by rw [hb]; simpa using h
      have hfb : firstBad l = some x := firstBad_at hx1 hbad hok
      exact done_pure rfl rfl (real2 (by unfold valI; rw [if_neg (by omega), hfb]) (by unfold valE; rw [if_neg (by omega), if_neg (by omega), hfb]))
    · have hgood : badAt l x = false := by
        rw [hb, h.1]
        cases hxx : decide (0 < x)
        · rfl
        · have h3 := h.2 (of_decide_eq_true hxx)
          simp [h3.1, h3.2]
      refine ⟨x + 1, ⟨⟨by omega, fun j hj => ?_⟩, by omega⟩, ?_, ?_, rfl⟩
      · rcases Nat.lt_succ_iff_lt_or_eq.1 hj with h4 | h4
        · exact hok j h4
        · rw [h4]; exact hgood
      all_goals ((repeat' (first | exact trivial | exact rfl | refine And.intro ?_ ?_)) <;> (try (conv => whnf)) <;> (try simp only [SV.real, SV.r2, SV.r1]))
  · obtain rfl : x = l.length := by omega
    repeat' ((conv => whnf); first
      | refine walk (Tryd.ok ..) ?_
      | refine walk (COk.with_ (Tryd.ok ..) _ _) ?_
      | refine walk (COk.with_ (COk.with_ (Tryd.ok ..) _ _) _ _) ?_
      | (refine Cnd.mk (fun h => ?_) (fun h => ?_) <;> (first | (exfalso; simp only [decide_eq_true_eq, decide_eq_false_iff_not, Bool.not_eq_true', Bool.not_eq_false'] at h; omega) | (exfalso; simp at h; omega) | simp at h | skip))
      | refine And.intro (Kept.mk ?_) ?_
      | refine Two.mk (And.intro ?_ ?_)
      | exact trivial
      | refine side ?_
      | refine sideL ?_
      | refine Or.inr ?_
      | refine sat_drawH (Tryd.ok ..) (by kernel_rfl) ?_
      | refine sat_drawH (COk.with_ (Tryd.ok ..) _ _) (by kernel_rfl) ?_
      | refine sat_drawH (COk.with_ (COk.with_ (Tryd.ok ..) _ _) _ _) (by kernel_rfl) ?_
      | refine Exists.intro [_] (And.intro (one_byte rfl) ?_)
      | refine Exists.intro [_] (And.intro (fun _ => one_byte rfl) ?_)
      | refine Exists.intro _ (And.intro (And.intro rfl rfl) ?_)
      | refine Exists.intro _ (And.intro (fun _ => And.intro rfl rfl) ?_)
      | refine Exists.intro _ (And.intro rfl ?_))
    have hfb : firstBad l = none := firstBad_none hok
    exact done_pure rfl rfl (real2 (by unfold valI; rw [if_neg (by omega), hfb]) (by unfold valE; rw [if_neg (by omega), if_neg (by omega), hfb]))
end Go.Proofs.YtbpklalkoocneaaDoor

