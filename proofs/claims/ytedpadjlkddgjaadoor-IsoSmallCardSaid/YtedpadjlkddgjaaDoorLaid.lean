/-
  What the condition on iso.kinds gives the walks; the world that the door's own run leaves meets it.
-/
import Derived.Test.YtedpadjlkddgjaaDoorRows
import Derived.Test.YtedpadjlkddgjaaDoorRow
import Derived.Test.YtedpadjlkddgjaaDoorM
import Derived.Deep.Slices
import Derived.Test.YtedpadjlkddgjaaDoorWords
namespace Go.Proofs.YtedpadjlkddgjaaDoor
open Go.ChangeShapes Go.WideShapes Go.ChangeAt Go.WideMaps Go.WideElems Go.RowKit Go.Deep
theorem own : ownKnob Tryd.prog.godebug = none := by kernel_rfl
theorem laidOut : laidOutB Tryd.prog = true := by kernel_rfl
theorem gKinds : Tryd.prog.globalNamed "twistlock/iso.kinds" = some 0 := by kernel_rfl
theorem tKinds : (Tryd.prog.globals[0]?).map (·.type) = some 75 := by kernel_rfl
def laid1 : List (String × DataW Unit) := [("twistlock/iso.kinds", Rows.laid_twistlock_iso_kinds)]
theorem door_met (os : Os) (args : Array Value) : laidMetH Tryd.prog laid1 ((World.doorLaid Tryd.prog 26 os).forCall (fun _ _ => 0) ⟨#[], args, []⟩).memory :=
  laidMetH_of_parts3 (fuel := 8) (laidMet_of_run' 8 (by kernel_rfl) (by kernel_rfl)) (by kernel_rfl) (by kernel_rfl)
theorem c76 : Tryd.prog.cellsOf 76 = 4 := by kernel_rfl
theorem c46 : Tryd.prog.cellsOf 46 = 3 := by kernel_rfl
theorem c9 : Tryd.prog.cellsOf 9 = 1 := by kernel_rfl
theorem c5 : Tryd.prog.cellsOf 5 = 1 := by kernel_rfl
theorem c4 : Tryd.prog.cellsOf 4 = 1 := by kernel_rfl
theorem kind_row {W : World} {base : Nat} {spare : Nat → Bool} {held : Bool} {n : Nat} {cs : List Value} {B : List UInt8} {z : Int} {h r : Bool} {pl : List MemPlace} {enc : TypeId × Value → Unit}
    (ht : DataW.trod enc Tryd.prog W base spare held n 76 cs = some (.agg [.lit (.string B), .agg [.lit (.int .u8 z), .lit (.bool h), .lit (.bool r)]], pl)) :
    ∃ s : ByteArray, s.data.toList = B ∧ cs = [.string s, .int .u8 z, .bool h, .bool r] := by
  obtain ⟨xs, n1, _, hx, hlen, hxl, hf⟩ := DataW.trod_struct Tryd.underlying76 ht
  rw [c76] at hlen
  match cs, hlen with
  | [c0, c1, c2, c3], _ =>
    match xs, hxl with
    | [x0, x1], _ =>
      have f0 : DataW.trod enc Tryd.prog W base spare held n1 9 [c0] = some x0 := by simpa [c9] using hf 0 _ rfl
      have f1 : DataW.trod enc Tryd.prog W base spare held n1 46 [c1, c2, c3] = some x1 := by simpa [c46] using hf 1 _ rfl
      simp only [Prod.mk.injEq, List.map_cons, List.map_nil, DataW.agg.injEq, List.cons.injEq, and_true] at hx
      obtain ⟨⟨hx0, hx1⟩, _⟩ := hx
      obtain ⟨s, e0, y0, _⟩ := DataW.trod_string Tryd.underlying9 f0
      obtain ⟨ys, n2, _, hy, hylen, hyl, hg⟩ := DataW.trod_struct Tryd.underlying46 f1
      match ys, hyl with
      | [y0', y1', y2'], _ =>
        have g0 : DataW.trod enc Tryd.prog W base spare held n2 5 [c1] = some y0' := by simpa [c5] using hg 0 _ rfl
        have g1 : DataW.trod enc Tryd.prog W base spare held n2 4 [c2] = some y1' := by simpa [c4] using hg 1 _ rfl
        have g2 : DataW.trod enc Tryd.prog W base spare held n2 4 [c3] = some y2' := by simpa [c4] using hg 2 _ rfl
        obtain ⟨zz, k0, m0, _⟩ := DataW.trod_int Tryd.underlying5 g0
        obtain ⟨hh, k1, m1⟩ := DataW.trod_bool Tryd.underlying4 g1
        obtain ⟨rr, k2, m2⟩ := DataW.trod_bool Tryd.underlying4 g2
        have e0' : c0 = .string s := (List.cons.inj e0).1
        have k0' : c1 = .int .u8 zz := (List.cons.inj k0).1
        have k1' : c2 = .bool hh := (List.cons.inj k1).1
        have k2' : c3 = .bool rr := (List.cons.inj k2).1
        rw [y0] at hx0
        rw [hy] at hx1
        simp only [List.map_cons, List.map_nil, m0, m1, m2, DataW.agg.injEq, List.cons.injEq, DataW.lit.injEq, Lit.int.injEq, Lit.bool.injEq, and_true, true_and] at hx1
        have hx0' : B = s.data.toList := by simpa using hx0
        obtain ⟨q0, q1, q2⟩ := hx1
        subst e0' k0' k1' k2' q0 q1 q2
        exact ⟨s, hx0'.symm, rfl⟩
def rowD (k : Nat) : DataW Unit := .agg [.lit (.string (kc k).data.toList), .agg [.lit (.int .u8 (ksz k)), .lit (.bool (khi k)), .lit (.bool (krf k))]]
def rowsD : List (DataW Unit) := [.agg [.lit (.string [50, 50, 71, 49]), .agg [.lit (.int .u8 20), .lit (.bool false), .lit (.bool false)]], .agg [.lit (.string [50, 50, 82, 49]), .agg [.lit (.int .u8 20), .lit (.bool false), .lit (.bool true)]], .agg [.lit (.string [52, 50, 71, 49]), .agg [.lit (.int .u8 40), .lit (.bool false), .lit (.bool false)]], .agg [.lit (.string [52, 50, 82, 49]), .agg [.lit (.int .u8 40), .lit (.bool false), .lit (.bool true)]], .agg [.lit (.string [52, 53, 71, 49]), .agg [.lit (.int .u8 40), .lit (.bool true), .lit (.bool false)]], .agg [.lit (.string [52, 53, 82, 49]), .agg [.lit (.int .u8 40), .lit (.bool true), .lit (.bool true)]]]
theorem of_laid {W : World} (h : laidMetH Tryd.prog laid1 W) : ∃ b o c, Kin W b o c := by
  rw [MakeChecks.laidMetH_plain _ _ _ (by kernel_rfl)] at h
  obtain ⟨ps, ⟨g0, t0, cs0, f0, p0, q0, hg0, ht0, hv0, hd0, _, _⟩, _, _⟩ := h
  obtain rfl := Option.some.inj (gKinds.symm.trans hg0)
  obtain rfl := Option.some.inj (tKinds.symm.trans ht0)
  rcases open_slice Tryd.underlying75 hd0 with ⟨_, hx⟩ | ⟨a, len, cap, m, n, D, Pl, hcs, hb, hl, hm, hmm, hx, hi⟩
  · simp [Rows.laid_twistlock_iso_kinds] at hx
  · simp only [Prod.mk.injEq] at hx
    obtain ⟨hx, _⟩ := hx
    simp only [Rows.laid_twistlock_iso_kinds, DataW.slice.injEq] at hx
    obtain ⟨hx, _⟩ := hx
    have hlen : len = 6 := by have := congrArg List.length hx; simpa using this.symm
    subst hlen
    have hD : ∀ k, k < 6 → D k = rowD k := by
      intro k hk
      have h1 : ((List.range 6).map D)[k]? = some (D k) := by
        rw [List.getElem?_map, List.getElem?_range hk]; rfl
      rw [← hx] at h1
      have h2 : rowsD[k]? = some (rowD k) := by
        match k, hk with
        | 0, _ => rfl
        | 1, _ => rfl
        | 2, _ => rfl
        | 3, _ => rfl
        | 4, _ => rfl
        | 5, _ => rfl
      exact Option.some.inj (h1.symm.trans h2)
    have hcell := World.var?_cell hg0 hv0 0
    rw [Array.eq_one_of_toList hcs] at hcell
    have hrow : ∀ k, k < 6 → ∃ s : ByteArray, s.data.toList = (kc k).data.toList ∧ ∀ i, i < 4 → W.cell? (a.add (k * 4 + i)) = [Value.string s, .int .u8 (ksz k), .bool (khi k), .bool (krf k)][i]? := by
      intro k hk
      obtain ⟨cs', hc, ht⟩ := hi k (by rw [hmm]; simp; omega)
      rw [hD k hk] at ht
      obtain ⟨s, hs, rfl⟩ := kind_row ht
      obtain ⟨_, _, hat⟩ := World.cells?_some hc
      refine ⟨s, hs, fun i hi => ?_⟩
      have := hat i (by rw [c76]; exact hi)
      rw [c76, Go.Deep.add_add] at this
      exact this
    obtain ⟨s0, _, hc0⟩ := hrow 0 (by omega)
    obtain ⟨b, o, spot⟩ := a
    have hspot : spot = none := by
      have := hc0 0 (by omega)
      rw [List.getElem?_cons_zero] at this
      simpa [Addr.add] using World.cell?_spot this
    subst hspot
    have hcells : ∀ k, k < 6 → ∀ i, i < 4 → W.cell? ⟨b, o + (k * 4 + i), none⟩ = [Value.string (kc k), .int .u8 (ksz k), .bool (khi k), .bool (krf k)][i]? := by
      intro k hk i hi
      obtain ⟨s, hs, hc⟩ := hrow k hk
      rw [← bytes_ext hs, ← Go.WideShapes.add_plain]
      exact hc i hi
    have hlt : ∀ {p : Addr} {v : Value}, W.cell? p = some v → p.block < W.heap.size := by
      intro p v h
      rcases Nat.lt_or_ge p.block W.heap.size with h1 | h1
      · exact h1
      · simp [World.cell?, Array.getElem?_eq_none h1] at h
    have h00 := hcells 0 (by omega) 0 (by omega)
    rw [List.getElem?_cons_zero] at h00
    have hcell0 : W.cell? ⟨0, 0, none⟩ = some (.slice (some ⟨b, o, none⟩) 6 cap) := by simpa using hcell
    exact ⟨b, o, cap, ⟨hlt h00, hlt hcell0, hcell0, fun k hk => hcells k hk 0 (by omega), fun k hk => hcells k hk 1 (by omega), fun k hk => hcells k hk 2 (by omega), fun k hk => hcells k hk 3 (by omega)⟩⟩
end Go.Proofs.YtedpadjlkddgjaaDoor
