/-
  The walks of the route package: the limit.
-/
import Derived.Test.YtbpklalkoocneaaDoorA
namespace Go.Proofs.YtbpklalkoocneaaDoor
open Go Sat Go.RowKit Go.PlainAid
set_option linter.unusedSimpArgs false
set_option linter.unusedVariables false
def limUp (l : List Cl) (k : Nat) : Nat → Int
  | 0 => 0
  | i + 1 => match l[k + i]? with
    | none => limUp l k i
    | some c => lim1 (limUp l k i) c.d
theorem limUp_some {l : List Cl} {k i : Nat} {c : Cl} (h : l[k + i]? = some c) : limUp l k (i + 1) = lim1 (limUp l k i) c.d := by rw [limUp, h]
theorem limI_up {l : List Cl} {k : Int} {m : Nat} (h0 : 0 ≤ k) (h1 : k < l.length) (hm : m = (min (k + 2) (l.length : Int) - k).toNat) : limUp l k.toNat m = limI l k := by
  unfold limI
  rw [if_pos ⟨h0, h1⟩]
  obtain ⟨a, ha⟩ : ∃ c, l[k.toNat]? = some c := ⟨l[k.toNat]'(by omega), List.getElem?_eq_getElem (by omega)⟩
  by_cases h2 : k + 1 < l.length
  · obtain ⟨b, hb⟩ : ∃ c, l[k.toNat + 1]? = some c := ⟨l[k.toNat + 1]'(by omega), List.getElem?_eq_getElem (by omega)⟩
    obtain rfl : m = 2 := by omega
    have e : limUp l k.toNat 1 = lim1 0 a.d := limUp_some (i := 0) ha
    rw [limUp_some hb, e, ha, hb]
  · obtain rfl : m = 1 := by omega
    have hb : l[k.toNat + 1]? = none := List.getElem?_eq_none (by omega)
    have e : limUp l k.toNat 1 = lim1 0 a.d := limUp_some (i := 0) ha
    rw [e, ha, hb]
theorem at_off {l : List Cl} {off k i : Nat} {c : Cl} (hc : l[k + i]? = some c) (ho : off = k * 3) : (cC c).length = 3 ∧ ∀ j, j < 3 → (cells l)[off + mulS ((i : Int)).toNat 3 + j]? = (cC c)[j]? := by
  refine ⟨rfl, fun j hj => ?_⟩
  have e : off + mulS ((i : Int)).toNat 3 = (k + i) * 3 := by rw [mulS_eq, ho, Int.toNat_natCast]; omega
  rw [e]
  have h := cells_get hc
  rcases j with _ | _ | _ | j
  · exact h.1
  · exact h.2.1
  · exact h.2.2
  · omega
set_option maxRecDepth 100000 in
set_option maxHeartbeats 8000000 in
theorem limit_any (l : List Cl) (A : Option (Nat × Nat)) (cap : Nat) (k : Int) (w : World) (hro : Ro w A l.length 3 (cells l)) (hl : l.length ≤ 9223372036854775805) (hcap : l.length ≤ cap) : Calls Tryd.prog 25 #[.slice (adr A) l.length cap, .int .i64 k] w fun e w' => e = .returned (.int .i64 (limI l k)) ∧ Below w.heap.size w w' := by
  refine calls_sat (cx := Tryd.cx 46 [] [] [] w) (Tryd.ok ..) Tryd.func25 rfl [.o 100 A l.length cap, .v (.int .i64 k)] rfl (by show 2 ≤ 46; omega) [(100, .ro A l.length 3 (cells l))] (holds_ros rfl rfl ⟨hro, trivial⟩) ?_
  repeat' ((conv => whnf); first
    | refine walk (Tryd.ok ..) ?_
    | refine walk (COk.with_ (Tryd.ok ..) _ _) ?_
    | refine walk (COk.with_ (COk.with_ (Tryd.ok ..) _ _) _ _) ?_
    | (refine Cnd.mk (fun h => ?_) (fun h => ?_) <;> (first | (exfalso; simp only [decide_eq_true_eq, decide_eq_false_iff_not, Bool.not_eq_true', Bool.not_eq_false'] at h; omega) | (exfalso; simp at h; omega) | simp at h | skip))
    | refine And.intro (Kept.mk ?_) ?_
    | refine Two.mk (And.intro ?_ ?_)
    | exact trivial
    | refine side ?_
    | refine sideL ?_
    | refine Or.inr ?_
    | refine sat_drawH (Tryd.ok ..) (by kernel_rfl) ?_
    | refine sat_drawH (COk.with_ (Tryd.ok ..) _ _) (by kernel_rfl) ?_
    | refine sat_drawH (COk.with_ (COk.with_ (Tryd.ok ..) _ _) _ _) (by kernel_rfl) ?_
    | refine Exists.intro [_] (And.intro (one_byte rfl) ?_)
    | refine Exists.intro [_] (And.intro (fun _ => one_byte rfl) ?_)
    | refine Exists.intro _ (And.intro (And.intro rfl rfl) ?_)
    | refine Exists.intro _ (And.intro (fun _ => And.intro rfl rfl) ?_)
    | refine Exists.intro _ (And.intro rfl ?_))
  all_goals (try (conv => whnf))
  · exact done_pure rfl rfl (congrArg (Value.int .i64) (by unfold limI; rw [if_neg (by omega)]))
  obtain ⟨p, rfl, _, _⟩ := hro.2 (by omega)
  have hk := h
  refine And.intro ⟨by omega, by omega, by omega, rfl⟩ ?_
  repeat' ((conv => whnf); first
    | refine walk (Tryd.ok ..) ?_
    | refine walk (COk.with_ (Tryd.ok ..) _ _) ?_
    | refine walk (COk.with_ (COk.with_ (Tryd.ok ..) _ _) _ _) ?_
    | (refine Cnd.mk (fun h => ?_) (fun h => ?_) <;> (first | (exfalso; simp only [decide_eq_true_eq, decide_eq_false_iff_not, Bool.not_eq_true', Bool.not_eq_false'] at h; omega) | (exfalso; simp at h; omega) | simp at h | skip))
    | refine And.intro (Kept.mk ?_) ?_
    | refine Two.mk (And.intro ?_ ?_)
    | exact trivial
    | refine side ?_
    | refine sideL ?_
    | refine Or.inr ?_
    | refine sat_drawH (Tryd.ok ..) (by kernel_rfl) ?_
    | refine sat_drawH (COk.with_ (Tryd.ok ..) _ _) (by kernel_rfl) ?_
    | refine sat_drawH (COk.with_ (COk.with_ (Tryd.ok ..) _ _) _ _) (by kernel_rfl) ?_
    | refine Exists.intro [_] (And.intro (one_byte rfl) ?_)
    | refine Exists.intro [_] (And.intro (fun _ => one_byte rfl) ?_)
    | refine Exists.intro _ (And.intro (And.intro rfl rfl) ?_)
    | refine Exists.intro _ (And.intro (fun _ => And.intro rfl rfl) ?_)
    | refine Exists.intro _ (And.intro rfl ?_))
  obtain ⟨off, hoff⟩ : ∃ off, off = (if cap = k.toNat then 0 else mulS k.toNat 3) := ⟨_, rfl⟩
  have ho : off = k.toNat * 3 := by rw [hoff, if_neg (by omega), mulS_eq]
  obtain ⟨m, hm⟩ : ∃ m, m = (min (k + 2) (l.length : Int) - k).toNat := ⟨_, rfl⟩
  have hm1 : k.toNat + m ≤ l.length := by omega
  refine sat_loop (Tryd.ok ..) (α := Nat) (fun x => ([(5, .yes, .v (.int .i64 (limUp l k.toNat x))), (23, .yes, .s 100 p.1 p.2 off m (cap - k.toNat)), (24, .yes, .v (.int .i64 m)), (25, .yes, .v (.int .i64 x))], [(100, .ro (some p) l.length 3 (cells l))])) (fun x => x ≤ m) (fun x => m - x) (fun _ => rfl) ?_ ?_
  · refine ⟨0, by omega, ?_, ?_, rfl⟩
    · subst hoff
      subst hm
      ((repeat' (first | exact trivial | exact rfl | refine And.intro ?_ ?_)) <;> (try (conv => whnf)) <;> (try simp only [SV.real, SV.r2, SV.r1]))
    all_goals ((repeat' (first | exact trivial | exact rfl | refine And.intro ?_ ?_)) <;> (try (conv => whnf)) <;> (try simp only [SV.real, SV.r2, SV.r1]))
  intro x hx
  by_cases hxm : x < m
  · obtain ⟨c, hc⟩ : ∃ c, l[k.toNat + x]? = some c := ⟨l[k.toNat + x]'(by omega), List.getElem?_eq_getElem (by omega)⟩
    have hnext := limUp_some hc
    repeat' ((conv => whnf); first
      | refine walk (Tryd.ok ..) ?_
      | refine walk (COk.with_ (Tryd.ok ..) _ _) ?_
      | refine walk (COk.with_ (COk.with_ (Tryd.ok ..) _ _) _ _) ?_
      | (refine Cnd.mk (fun h => ?_) (fun h => ?_) <;> (first | (exfalso; simp only [decide_eq_true_eq, decide_eq_false_iff_not, Bool.not_eq_true', Bool.not_eq_false'] at h; omega) | (exfalso; simp at h; omega) | simp at h | skip))
      | refine And.intro (Kept.mk ?_) ?_
      | refine Two.mk (And.intro ?_ ?_)
      | exact trivial
      | refine side ?_
      | refine sideL ?_
      | refine Or.inr ?_
      | refine sat_drawH (Tryd.ok ..) (by kernel_rfl) ?_
      | refine sat_drawH (COk.with_ (Tryd.ok ..) _ _) (by kernel_rfl) ?_
      | refine sat_drawH (COk.with_ (COk.with_ (Tryd.ok ..) _ _) _ _) (by kernel_rfl) ?_
      | refine Exists.intro [_] (And.intro (one_byte rfl) ?_)
      | refine Exists.intro [_] (And.intro (fun _ => one_byte rfl) ?_)
      | refine Exists.intro _ (And.intro (And.intro rfl rfl) ?_)
      | refine Exists.intro _ (And.intro (fun _ => And.intro rfl rfl) ?_)
      | refine Exists.intro _ (And.intro rfl ?_)
      | refine Exists.intro _ (And.intro (fun _ => (at_off hc ho)) ?_)
      | refine Exists.intro _ (And.intro (at_off hc ho) ?_)
      | intro g hg)
    · have hn1 : limUp l k.toNat (x + 1) = c.d := by rw [hnext]; unfold lim1; rw [if_pos h]
      refine ⟨x + 1, ⟨by omega, by omega⟩, ?_, ?_, rfl⟩
      · dsimp only
        rw [hn1]
        ((repeat' (first | exact trivial | exact rfl | refine And.intro ?_ ?_)) <;> (try (conv => whnf)) <;> (try simp only [SV.real, SV.r2, SV.r1]))
      · ((repeat' (first | exact trivial | exact rfl | refine And.intro ?_ ?_)) <;> (try (conv => whnf)) <;> (try simp only [SV.real, SV.r2, SV.r1]))
    · have hn1 : limUp l k.toNat (x + 1) = limUp l k.toNat x := by
        rw [hnext]
        unfold lim1
        rw [if_neg (fun hh => by have := h hh.1; rcases hh.2 with h2 | h2 <;> omega)]
      refine ⟨x + 1, ⟨by omega, by omega⟩, ?_, ?_, rfl⟩
      · dsimp only
        rw [hn1]
        ((repeat' (first | exact trivial | exact rfl | refine And.intro ?_ ?_)) <;> (try (conv => whnf)) <;> (try simp only [SV.real, SV.r2, SV.r1]))
      · ((repeat' (first | exact trivial | exact rfl | refine And.intro ?_ ?_)) <;> (try (conv => whnf)) <;> (try simp only [SV.real, SV.r2, SV.r1]))
  · obtain rfl : x = m := by omega
    repeat' ((conv => whnf); first
      | refine walk (Tryd.ok ..) ?_
      | refine walk (COk.with_ (Tryd.ok ..) _ _) ?_
      | refine walk (COk.with_ (COk.with_ (Tryd.ok ..) _ _) _ _) ?_
      | (refine Cnd.mk (fun h => ?_) (fun h => ?_) <;> (first | (exfalso; simp only [decide_eq_true_eq, decide_eq_false_iff_not, Bool.not_eq_true', Bool.not_eq_false'] at h; omega) | (exfalso; simp at h; omega) | simp at h | skip))
      | refine And.intro (Kept.mk ?_) ?_
      | refine Two.mk (And.intro ?_ ?_)
      | exact trivial
      | refine side ?_
      | refine sideL ?_
      | refine Or.inr ?_
      | refine sat_drawH (Tryd.ok ..) (by kernel_rfl) ?_
      | refine sat_drawH (COk.with_ (Tryd.ok ..) _ _) (by kernel_rfl) ?_
      | refine sat_drawH (COk.with_ (COk.with_ (Tryd.ok ..) _ _) _ _) (by kernel_rfl) ?_
      | refine Exists.intro [_] (And.intro (one_byte rfl) ?_)
      | refine Exists.intro [_] (And.intro (fun _ => one_byte rfl) ?_)
      | refine Exists.intro _ (And.intro (And.intro rfl rfl) ?_)
      | refine Exists.intro _ (And.intro (fun _ => And.intro rfl rfl) ?_)
      | refine Exists.intro _ (And.intro rfl ?_))
    exact done_pure rfl rfl (congrArg (Value.int .i64) (limI_up hk.1 hk.2 hm))
end Go.Proofs.YtbpklalkoocneaaDoor

