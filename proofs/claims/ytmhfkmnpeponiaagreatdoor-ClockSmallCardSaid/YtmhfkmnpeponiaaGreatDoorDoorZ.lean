/-
  What the condition on the listed variables gives the walks; a world that meets it.
-/
import Derived.Test.YtmhfkmnpeponiaaGreatDoorCards
import Derived.Test.YtmhfkmnpeponiaaGreatDoorTie
import Derived.Test.YtmhfkmnpeponiaaGreatDoorRow
import Derived.Test.YtmhfkmnpeponiaaGreatDoorTWf
import Derived.Test.YtmhfkmnpeponiaaGreatDoorShelf
import Derived.ProofKit
import Derived.OpenShut
import Derived.LaidMore
import Derived.PinnedBridge
import Derived.Deep.DeepHandedRow
import Derived.Deep.DeepWitnessRowRef
import Derived.Lib.LaidTab
import Derived.SizedLaws
set_option linter.unusedSimpArgs false
set_option linter.unusedVariables false
namespace Go.Proofs.YtmhfkmnpeponiaaGreatDoor
open Go.ChangeShapes Go.WideShapes Go.ChangeAt Go.WideMaps Go.WideElems Go.RowKit
theorem own : ownKnob Tryz.prog.godebug = none := by kernel_rfl
theorem laidOut : laidOutB Tryz.prog = true := by kernel_rfl
noncomputable def laidWorld (os : Os) : World :=
  { World.doorLaid Tryz.prog 80 os with heap := (World.doorLaid Tryz.prog 80 os).heap.modify 5 fun
      | .cells _ t frozen => .cells (Pinned.utf8FirstZ.map fun n : Nat => Value.int .u8 (n : Int)).toArray t frozen
      | o => o }
theorem laid_met (os : Os) (args : Array Value) : laidMet Tryz.prog Rows.clockSmallRow.laid ((laidWorld os).forCall (fun _ _ => 0) ⟨#[], args, []⟩).memory :=
  laidMet_of_run' 8 (by kernel_rfl) (by kernel_rfl)
theorem door_vars (os : Os) (args : Array Value) : ((laidWorld os).forCall (fun _ _ => 0) ⟨#[], args, []⟩).variablesRefB Tryz.prog = true := by kernel_rfl
theorem door_rest (os : Os) (args : Array Value) : (((laidWorld os).forCall (fun _ _ => 0) ⟨#[], args, []⟩).heap.toList.drop Tryz.prog.globals.size).take ((begin Tryz.prog (fun _ _ => 0) default).world.heap.size - Tryz.prog.globals.size) =
      (begin Tryz.prog (fun _ _ => 0) default).world.heap.toList.drop Tryz.prog.globals.size := by kernel_rfl
theorem laid_mem {P : Program} {w : World} {n : String} {d : DataW Unit} : ∀ {l : List (String × DataW Unit)} {ps : List MemPlace}, DataW.LaidVars P w l ps → (n, d) ∈ l →
    ∃ g t cs fuel p, P.globalNamed n = some g ∧ (P.globals[g]?).map (·.type) = some t ∧ w.var? P n = some cs ∧ DataW.trod (fun _ => ()) P w 0 (fun _ => true) false fuel t cs.toList = some (d, p) := by
  intro l
  induction l with
  | nil => intro ps _ h; cases h
  | cons x l ih =>
    obtain ⟨m, e⟩ := x
    intro ps h hm
    obtain ⟨g, t, cs, fuel, p, q, h1, h2, h3, h4, h5, _⟩ := h
    rcases List.mem_cons.1 hm with hm | hm
    · cases hm
      exact ⟨g, t, cs, fuel, p, h1, h2, h3, h4⟩
    · exact ih h5 hm
theorem tab_of {P : Program} {W : World} {l : List (String × DataW Unit)} {name : String} {k : IntKind} {zs : List Int} {g : Nat} {t e : TypeId} {n : Nat} (hm : (name, Lib.tabData k zs) ∈ l)
    (hg : P.globalNamed name = some g) (hty : (P.globals[g]?).map (·.type) = some t) (ht : P.underlying t = some (.array n e)) (he : P.underlying e = some (.int k)) (hce : P.cellsOf e = 1) (hct : P.cellsOf t = n)
    (h : laidMet P l W) : Lib.TabIs P W name k zs := by
  obtain ⟨ps, hv, _⟩ := h
  obtain ⟨g', t', cs, fuel, p, hg', ht', hvar, hd⟩ := laid_mem hv hm
  obtain rfl := Option.some.inj (hg.symm.trans hg')
  obtain rfl := Option.some.inj (hty.symm.trans ht')
  unfold Lib.TabIs
  rw [hvar, ← Lib.cells_of_tab ht he hce hct hd]
theorem err_of {P : Program} {W : World} {l : List (String × DataW Unit)} {name nm : String} {d : DataW Unit} {g : Nat} {t : TypeId} {ms : Array (String × TypeId)} (hm : (name, DataW.iface nm d) ∈ l)
    (hg : P.globalNamed name = some g) (hty : (P.globals[g]?).map (·.type) = some t) (ht : P.underlying t = some (.interface ms)) (h : laidMet P l W) : ∃ tp p, W.var? P name = some #[.iface tp p] := by
  obtain ⟨ps, hv, _⟩ := h
  obtain ⟨g', t', cs, fuel, p, hg', ht', hvar, hd⟩ := laid_mem hv hm
  obtain rfl := Option.some.inj (hg.symm.trans hg')
  obtain rfl := Option.some.inj (hty.symm.trans ht')
  obtain ⟨_, u, v, hcs, _, _⟩ := iface_of_trod ht hd
  exact ⟨u, v, by rw [hvar, Array.eq_one_of_toList hcs]⟩
theorem days_of {W : World} (h : laidMet Tryz.prog Rows.clockSmallRow.laid W) : Sat.Ro W (some (0, 0)) 7 1 (dayN.map Value.string) := by
  obtain ⟨ps, hv, _⟩ := h
  obtain ⟨g, t, cs, fuel, p, hg, hty, hvar, hd⟩ := laid_mem (l := Rows.clockSmallRow.laid) (n := "twistlock/clock.days") (d := Rows.laid_twistlock_clock_days) hv (by
      show _ ∈ [_, _, _, _, _, _, ("twistlock/clock.days", Rows.laid_twistlock_clock_days), _]
      exact List.mem_cons_of_mem _ (List.mem_cons_of_mem _ (List.mem_cons_of_mem _ (List.mem_cons_of_mem _ (List.mem_cons_of_mem _ (List.mem_cons_of_mem _ List.mem_cons_self))))))
  obtain rfl := Option.some.inj ((show Tryz.prog.globalNamed "twistlock/clock.days" = some 0 by kernel_rfl).symm.trans hg)
  obtain rfl := Option.some.inj ((show (Tryz.prog.globals[0]?).map (·.type) = some 97 by kernel_rfl).symm.trans hty)
  obtain ⟨xs, m, _, hx, hlen, hxl, hel⟩ := DataW.trod_array Tryz.underlying97 hd
  rw [show Tryz.prog.cellsOf 97 = 7 by kernel_rfl] at hlen
  have hds : xs.map (·.1) = dayN.map fun s => DataW.lit (Lit.string s.data.toList) := by
    have := congrArg Prod.fst hx
    simp only [Rows.laid_twistlock_clock_days] at this
    injection this with this
    rw [← this]
    rfl
  have hat : ∀ i, i < 7 → cs.toList[i]? = (dayN.map Value.string)[i]? := by
    intro i hi
    have h1 := hel i hi
    rw [show Tryz.prog.cellsOf 9 = 1 by kernel_rfl, Nat.mul_one, List.getElem?_eq_getElem (by omega)] at h1
    obtain ⟨s, h2, h3, _⟩ := DataW.trod_string Tryz.underlying9 h1
    have h4 : (xs.map (·.1))[i]? = some (DataW.lit (Lit.string s.data.toList)) := by
      rw [List.getElem?_map, List.getElem?_eq_getElem (by omega), h3]
      rfl
    rw [hds, List.getElem?_map] at h4
    have hi2 : i < dayN.length := hi
    rw [List.getElem?_eq_getElem hi2] at h4
    simp only [Option.map_some, Option.some.injEq, DataW.lit.injEq, Lit.string.injEq] at h4
    have h5 : dayN[i] = s := ba_ext h4
    rw [List.drop_eq_getElem_cons (by omega)] at h2
    simp only [List.take_succ_cons, List.take_zero, List.cons.injEq, and_true] at h2
    rw [List.getElem?_eq_getElem (by omega), h2, List.getElem?_map, List.getElem?_eq_getElem hi2, h5]
    rfl
  unfold World.var? at hvar
  rw [show Tryz.prog.globalNamed "twistlock/clock.days" = some 0 by kernel_rfl] at hvar
  simp only [Option.bind_some] at hvar
  split at hvar
  · rename_i cs' ty o e
    cases hvar
    refine ⟨rfl, fun _ => ⟨_, rfl, Sat.heap_lt e, fun j u hu => ?_⟩⟩
    have hj : j < 7 := (List.getElem?_eq_some_iff.1 hu).1
    have h6 := hat j hj
    rw [hu] at h6
    unfold World.cell?
    rw [Nat.zero_add]
    dsimp only
    rw [e]
    simpa using h6
  · cases hvar
theorem wf_of {W : World} (hL : laidMetH Tryz.prog Rows.clockSmallRow.laid W) (hs : W.ShapedOpen Tryz.prog) : Wf W := by
  have h : laidMet Tryz.prog Rows.clockSmallRow.laid W := hL
  exact ⟨tab_of (l := Rows.clockSmallRow.laid) (g := 3) (t := 140) (n := 20) (e := 124) (by
      show _ ∈ [_, _, ("internal/strconv.uint64pow10", Rows.laid_internal_strconv_uint64pow10), _, _, _, _, _]
      exact List.mem_cons_of_mem _ (List.mem_cons_of_mem _ List.mem_cons_self)) (by kernel_rfl) (by kernel_rfl) Tryz.underlying140 Tryz.underlying124 (by kernel_rfl) (by kernel_rfl) h,
    err_of (l := Rows.clockSmallRow.laid) (g := 1) (t := 100) (by
      show _ ∈ [_, _, _, _, _, ("strconv.ErrSyntax", Rows.laid_strconv_ErrSyntax), _, _]
      exact List.mem_cons_of_mem _ (List.mem_cons_of_mem _ (List.mem_cons_of_mem _ (List.mem_cons_of_mem _ (List.mem_cons_of_mem _ List.mem_cons_self))))) (by kernel_rfl) (by kernel_rfl) Tryz.underlying100 h,
    err_of (l := Rows.clockSmallRow.laid) (g := 2) (t := 100) (by
      show _ ∈ [_, _, _, _, ("strconv.ErrRange", Rows.laid_strconv_ErrRange), _, _, _]
      exact List.mem_cons_of_mem _ (List.mem_cons_of_mem _ (List.mem_cons_of_mem _ (List.mem_cons_of_mem _ List.mem_cons_self)))) (by kernel_rfl) (by kernel_rfl) Tryz.underlying100 h,
    Tryz.laysM146.s1_3 W hs, days_of h⟩
section
variable {H : Type} {enc : TypeId × Value → H} {P : Program} {w : World} {base : Nat} {spare : Nat → Bool} {held : Bool}
/-- a slice that was read: its datum has its length -/
theorem datum_len {t e : TypeId} {A : Option Addr} {n cap : Nat} {d : DataW H} {p : List MemPlace} (ht : P.underlying t = some (.slice e)) (h : DataW.Trod enc P w base spare held t (.slice A n cap) d p) :
    n = 0 ∨ ∃ elems rest, d = .slice elems rest ∧ elems.length = n := by
  obtain ⟨fuel, hf⟩ := h
  simp only [Value.cells] at hf
  rcases DataW.trod_slice ht hf with ⟨h0, _⟩ | ⟨a', len', cap', elems, rest, m, _, hcs, hx, _, _, _, hlen, _, _, _⟩
  · simp at h0
    exact .inl h0.2.1
  · simp at hcs
    obtain ⟨_, rfl, _⟩ := hcs
    simp only [Prod.mk.injEq] at hx
    exact .inr ⟨_, _, hx.1, by rw [List.length_map]; exact hlen⟩
theorem weigh {ts : List TypeId} {ds : List (DataW H)} {j : Nat} {t e : TypeId} {A : Option Addr} {n cap b : Nat} {d : DataW H} {p : List MemPlace} (hw : (DataW.weightsEach P ts ds).all (· ≤ reachBytes) = true) (ht : P.underlying t = some (.slice e))
    (h : DataW.Trod enc P w base spare held t (.slice A n cap) d p) (hts : ts[j]? = some t) (hds : ds[j]? = some d) (hb : P.bytesOf e = b) : n * b ≤ 140737488351232 := by
  rcases datum_len ht h with h0 | ⟨elems, rest, rfl, hl⟩
  · rw [h0]; omega
  · have h1 := sized_slice hw hts hds ht
    rw [hb, hl] at h1
    have h2 : n * b ≤ (n + rest.length) * b := Nat.mul_le_mul_right _ (by omega)
    exact Nat.le_trans h2 h1
theorem bulk_le {d : DataW H} {l : List (DataW H)} (h : d ∈ l) : Rows.uptoBulk d ≤ Rows.uptoBulkAll l := by
  induction l with
  | nil => cases h
  | cons x r ih =>
    simp only [Rows.uptoBulkAll]
    cases List.mem_cons.1 h with
    | inl e => subst e; omega
    | inr e => have := ih e; omega
theorem bulk_string {bytes : List UInt8} {l : List (DataW H)} (hk : Rows.uptoSmall H l = true) (h : (DataW.lit (.string bytes)) ∈ l) : bytes.length ≤ 1048576 := by
  have h1 := bulk_le h
  have h2 : Rows.uptoBulkAll l ≤ 1048576 := of_decide_eq_true hk
  simp only [Rows.uptoBulk] at h1
  omega
end
end Go.Proofs.YtmhfkmnpeponiaaGreatDoor
