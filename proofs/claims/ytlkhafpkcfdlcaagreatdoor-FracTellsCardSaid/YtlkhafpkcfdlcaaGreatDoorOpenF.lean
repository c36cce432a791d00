/-
  The laws' arguments, opened: fractions, right or not. No walk.
-/
import Derived.Test.YtlkhafpkcfdlcaaGreatDoorOpen
import Derived.OpenShut
import Derived.Test.YtlkhafpkcfdlcaaGreatDoorProg
import Derived.Test.YtlkhafpkcfdlcaaGreatDoorNS
set_option linter.unusedSimpArgs false
set_option linter.unusedVariables false
namespace Go.Proofs.YtlkhafpkcfdlcaaGreatDoor
set_option maxRecDepth 100000
open Go.ChangeShapes Go.WideShapes Go.ChangeAt Go.WideMaps Go.WideElems Go.RowKit Sat
section
variable {H : Type} {enc : TypeId × Value → H} {w : World} {base : Nat} {spare : Nat → Bool} {held : Bool}
theorem limbs_of {n : Nat} {cs : List Value} {y : DataW H × List MemPlace} (h : DataW.trod enc Tryz.prog w base spare held n 27 cs = some y) : ∃ l : List Nat, cs = us l ∧ l.length = 8 ∧ ∀ x ∈ l, x < bb := by
  obtain ⟨xs, m, _, _, hlen, hxl, hel⟩ := DataW.trod_array Tryz.underlying27 h
  rw [show Tryz.prog.cellsOf 27 = 8 by kernel_rfl] at hlen
  obtain ⟨l, hl, hR⟩ := choose_list (α := Nat) (fun i x => cs[i]? = some (.int .u32 (x : Int)) ∧ x < bb) 8 (fun i hi => by
    have h1 := hel i hi
    rw [show Tryz.prog.cellsOf 26 = 1 by kernel_rfl, Nat.mul_one, List.getElem?_eq_getElem (by omega)] at h1
    obtain ⟨v, h2, _, h3⟩ := DataW.trod_int Tryz.underlying26 h1
    have h4 := bounds_u32 h3
    have hc : i < cs.length := by omega
    rw [List.drop_eq_getElem_cons hc] at h2
    simp only [List.take_succ_cons, List.take_zero, List.cons.injEq, and_true] at h2
    refine ⟨v.toNat, ?_, by unfold bb; omega⟩
    rw [List.getElem?_eq_getElem hc, h2, Int.toNat_of_nonneg h4.1])
  refine ⟨l, ?_, hl, fun x hx => ?_⟩
  · apply List.ext_getElem?
    intro i
    rcases Nat.lt_or_ge i 8 with h1 | h1
    · have h2 : l[i]? = some l[i] := List.getElem?_eq_getElem (by omega)
      rw [(hR i _ h2).1, us_get h2]
    · rw [List.getElem?_eq_none (by omega), List.getElem?_eq_none (by rw [us_len]; omega)]
  · obtain ⟨i, hi⟩ := List.getElem?_of_mem hx
    exact (hR i x hi).2
theorem frac_of {n : Nat} {cs : List Value} {y : DataW H × List MemPlace} (h : DataW.trod enc Tryz.prog w base spare held n 29 cs = some y) : ∃ f : Fr, cs = frW f ∧ Big f := by
  obtain ⟨xs, m, _, _, hlen, hxl, hf⟩ := DataW.trod_struct Tryz.underlying29 h
  rw [show Tryz.prog.cellsOf 29 = 17 by kernel_rfl] at hlen
  have hx3 : xs.length = 3 := hxl
  have h0 : DataW.trod enc Tryz.prog w base spare held m 4 ((cs.drop 0).take (Tryz.prog.cellsOf 4)) = xs[0]? := hf 0 _ rfl
  have h1 : DataW.trod enc Tryz.prog w base spare held m 27 ((cs.drop 1).take (Tryz.prog.cellsOf 27)) = xs[1]? := hf 1 _ rfl
  have h2 : DataW.trod enc Tryz.prog w base spare held m 27 ((cs.drop 9).take (Tryz.prog.cellsOf 27)) = xs[2]? := hf 2 _ rfl
  rw [List.getElem?_eq_getElem (by omega)] at h0 h1 h2
  rw [show Tryz.prog.cellsOf 4 = 1 by kernel_rfl, List.drop_zero] at h0
  rw [show Tryz.prog.cellsOf 27 = 8 by kernel_rfl] at h1 h2
  obtain ⟨b, e0, _⟩ := DataW.trod_bool Tryz.underlying4 h0
  obtain ⟨n1, e1, l1, b1⟩ := limbs_of h1
  obtain ⟨n2, e2, l2, b2⟩ := limbs_of h2
  have k1 := lim_nv l1 b1
  have k2 := lim_nv l2 b2
  refine ⟨⟨b, nv bb n1, nv bb n2⟩, ?_, k1.2, k2.2⟩
  have hsplit : cs = cs.take 1 ++ ((cs.drop 1).take 8 ++ (cs.drop 9).take 8) := by
    conv => lhs; rw [← List.take_append_drop 1 cs, ← List.take_append_drop 8 (cs.drop 1), List.drop_drop]
    congr 2
    rw [List.take_of_length_le (by rw [List.length_drop]; omega)]
  rw [hsplit, e0, e1, e2]
  show _ = (frC ⟨b, nv bb n1, nv bb n2⟩).map SV.r1
  unfold frC
  dsimp only
  rw [k1.1, k2.1, List.map_cons, List.map_append, map_r1, map_r1]
  rfl
theorem open_frac {r : Reach} {b0 : Nat} {v : Value} {d : DataW H} {p : List MemPlace} (hval : Value.okWide Tryz.prog w r b0 29 v) (h : DataW.Trod enc Tryz.prog w base spare held 29 v d p) : ∃ f : Fr, v = frV f ∧ Big f := by
  obtain ⟨cs, rfl, _⟩ := okWide_struct Tryz.underlying29 hval
  obtain ⟨fuel, hf⟩ := h
  obtain ⟨f, hc, hb⟩ := frac_of hf
  refine ⟨f, ?_, hb⟩
  have : cs = (frW f).toArray := by
    apply Array.toList_inj.1
    exact hc
  rw [this]
  rfl
end
end Go.Proofs.YtlkhafpkcfdlcaaGreatDoor
