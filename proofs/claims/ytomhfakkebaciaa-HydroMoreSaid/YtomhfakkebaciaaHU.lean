/-
  The laws' arguments, opened: rows of a table, fractions, steps. No walk. The laws' arguments, opened: steps. No walk.
-/
import Derived.Test.YtomhfakkebaciaaOpen
import Derived.OpenShut
import Derived.Test.YtomhfakkebaciaaProg
import Derived.Test.YtomhfakkebaciaaH3
import Derived.Test.YtomhfakkebaciaaH19
set_option linter.unusedSimpArgs false
set_option linter.unusedVariables false
namespace Go.Proofs.Ytomhfakkebaciaa
section
set_option maxRecDepth 100000
open Go.ChangeShapes Go.WideShapes Go.ChangeAt Go.WideMaps Go.WideElems Go.RowKit Sat
section
variable {H : Type} {enc : TypeId × Value → H} {w : World} {base : Nat} {spare : Nat → Bool} {held : Bool}
theorem limbs_of {n : Nat} {cs : List Value} {y : DataW H × List MemPlace} (h : DataW.trod enc Try.prog w base spare held n 24 cs = some y) : ∃ l : List Nat, cs = us l ∧ l.length = 8 ∧ ∀ x ∈ l, x < bb := by
  obtain ⟨xs, m, _, _, hlen, hxl, hel⟩ := DataW.trod_array Try.underlying24 h
  rw [show Try.prog.cellsOf 24 = 8 by kernel_rfl] at hlen
  obtain ⟨l, hl, hR⟩ := choose_list (α := Nat) (fun i x => cs[i]? = some (.int .u32 (x : Int)) ∧ x < bb) 8 (fun i hi => by
    have h1 := hel i hi
    rw [show Try.prog.cellsOf 23 = 1 by kernel_rfl, Nat.mul_one, List.getElem?_eq_getElem (by omega)] at h1
    obtain ⟨v, h2, _, h3⟩ := DataW.trod_int Try.underlying23 h1
    have h4 := bounds_u32 h3
    have hc : i < cs.length := by omega
    rw [List.drop_eq_getElem_cons hc] at h2
    simp only [List.take_succ_cons, List.take_zero, List.cons.injEq, and_true] at h2
    refine ⟨v.toNat, ?_, by unfold bb; omega⟩
    rw [List.getElem?_eq_getElem hc, h2, Int.toNat_of_nonneg h4.1])
  refine ⟨l, ?_, hl, fun x hx => ?_⟩
  · apply List.ext_getElem?
    intro i
    rcases Nat.lt_or_ge i 8 with h1 | h1
    · have h2 : l[i]? = some l[i] := List.getElem?_eq_getElem (by omega)
      rw [(hR i _ h2).1, us_get h2]
    · rw [List.getElem?_eq_none (by omega), List.getElem?_eq_none (by rw [us_len]; omega)]
  · obtain ⟨i, hi⟩ := List.getElem?_of_mem hx
    exact (hR i x hi).2
theorem frac_of {n : Nat} {cs : List Value} {y : DataW H × List MemPlace} (h : DataW.trod enc Try.prog w base spare held n 26 cs = some y) : ∃ f : Fr, cs = frW f ∧ Big f := by
  obtain ⟨xs, m, _, _, hlen, hxl, hf⟩ := DataW.trod_struct Try.underlying26 h
  rw [show Try.prog.cellsOf 26 = 17 by kernel_rfl] at hlen
  have hx3 : xs.length = 3 := hxl
  have h0 : DataW.trod enc Try.prog w base spare held m 4 ((cs.drop 0).take (Try.prog.cellsOf 4)) = xs[0]? := hf 0 _ rfl
  have h1 : DataW.trod enc Try.prog w base spare held m 24 ((cs.drop 1).take (Try.prog.cellsOf 24)) = xs[1]? := hf 1 _ rfl
  have h2 : DataW.trod enc Try.prog w base spare held m 24 ((cs.drop 9).take (Try.prog.cellsOf 24)) = xs[2]? := hf 2 _ rfl
  rw [List.getElem?_eq_getElem (by omega)] at h0 h1 h2
  rw [show Try.prog.cellsOf 4 = 1 by kernel_rfl, List.drop_zero] at h0
  rw [show Try.prog.cellsOf 24 = 8 by kernel_rfl] at h1 h2
  obtain ⟨b, e0, _⟩ := DataW.trod_bool Try.underlying4 h0
  obtain ⟨n1, e1, l1, b1⟩ := limbs_of h1
  obtain ⟨n2, e2, l2, b2⟩ := limbs_of h2
  have k1 := lim_nv l1 b1
  have k2 := lim_nv l2 b2
  refine ⟨⟨b, nv bb n1, nv bb n2⟩, ?_, k1.2, k2.2⟩
  have hsplit : cs = cs.take 1 ++ ((cs.drop 1).take 8 ++ (cs.drop 9).take 8) := by
    conv => lhs; rw [← List.take_append_drop 1 cs, ← List.take_append_drop 8 (cs.drop 1), List.drop_drop]
    congr 2
    rw [List.take_of_length_le (by rw [List.length_drop]; omega)]
  rw [hsplit, e0, e1, e2]
  show _ = (frC ⟨b, nv bb n1, nv bb n2⟩).map SV.r1
  unfold frC
  dsimp only
  rw [k1.1, k2.1, List.map_cons, List.map_append, map_r1, map_r1]
  rfl
theorem open_frac {r : Reach} {b0 : Nat} {v : Value} {d : DataW H} {p : List MemPlace} (hval : Value.okWide Try.prog w r b0 26 v) (h : DataW.Trod enc Try.prog w base spare held 26 v d p) : ∃ f : Fr, v = frV f ∧ Big f := by
  obtain ⟨cs, rfl, _⟩ := okWide_struct Try.underlying26 hval
  obtain ⟨fuel, hf⟩ := h
  obtain ⟨f, hc, hb⟩ := frac_of hf
  refine ⟨f, ?_, hb⟩
  have : cs = (frW f).toArray := by
    apply Array.toList_inj.1
    exact hc
  rw [this]
  rfl
theorem row_of {n : Nat} {cs : List Value} {y : DataW H × List MemPlace} (h : DataW.trod enc Try.prog w base spare held n 31 cs = some y) : ∃ c : HRow, cs = rwW c ∧ True := by
  obtain ⟨h1, h2⟩ := open_flat Try.underlying31 [(3, .int .i64), (3, .int .i64), (3, .int .i64), (3, .int .i64), (3, .int .i64)] (by kernel_rfl) (by
    intro k hk
    simp only [List.mem_cons, List.not_mem_nil, or_false] at hk
    rcases hk with rfl | rfl | rfl | rfl | rfl <;> exact ⟨Try.underlying3, by kernel_rfl⟩) (by kernel_rfl) h
  obtain ⟨v0, e0, a, rfl, _⟩ := h2 0 _ rfl
  obtain ⟨v1, e1, b, rfl, _⟩ := h2 1 _ rfl
  obtain ⟨v2, e2, c, rfl, _⟩ := h2 2 _ rfl
  obtain ⟨v3, e3, d, rfl, _⟩ := h2 3 _ rfl
  obtain ⟨v4, e4, e, rfl, _⟩ := h2 4 _ rfl
  refine ⟨⟨a, b, c, d, e⟩, ?_, trivial⟩
  apply List.ext_getElem?
  intro i
  rcases i with _ | _ | _ | _ | _ | i
  · exact e0
  · exact e1
  · exact e2
  · exact e3
  · exact e4
  · rw [List.getElem?_eq_none (by rw [h1]; simp), List.getElem?_eq_none (by simp [rwW])]
theorem open_table {r : Reach} {b0 : Nat} {v : Value} {d : DataW H} {p : List MemPlace} (hval : Value.okWide Try.prog w r b0 22 v) (h : DataW.Trod enc Try.prog w base spare held 22 v d p) :
    ∃ A cap, ∃ l : List HRow, v = .slice (adr A) l.length cap ∧ Ro w A l.length 5 (rwL l) ∧ l.length ≤ maxLen := by
  obtain ⟨A, cap, l, h1, h2, _, h4⟩ := open_rows rwW (fun _ => True) Try.underlying22 (show Try.prog.cellsOf 31 = 5 by kernel_rfl) (by omega) (fun n cs y _ hy => row_of hy) hval h
  exact ⟨A, cap, l, h1, h2, h4⟩
end
end
section
set_option maxRecDepth 100000
open Go.ChangeShapes Go.WideShapes Go.ChangeAt Go.WideMaps Go.WideElems Go.RowKit Sat
section
variable {H : Type} {enc : TypeId × Value → H} {w : World} {base : Nat} {spare : Nat → Bool} {held : Bool}
theorem cap_le {P : Program} {t e : TypeId} {A : Option Addr} {n cap : Nat} {d : DataW H} {p : List MemPlace} (ht : P.underlying t = some (.slice e)) (h : DataW.Trod enc P w base spare held t (.slice A n cap) d p) : n ≤ cap := by
  obtain ⟨fuel, hf⟩ := h
  simp only [Value.cells] at hf
  rcases DataW.trod_slice ht hf with ⟨h0, _⟩ | ⟨a', len', cap', elems, rest, m, _, hcs, hx, _, hl, _, hlen, _, _, _⟩
  · simp at h0
    omega
  · simp at hcs
    omega
theorem step_of {n : Nat} {cs : List Value} {y : DataW H × List MemPlace} (h : DataW.trod enc Try.prog w base spare held n 84 cs = some y) : ∃ c : St, cs = stW c ∧ StOk c := by
  obtain ⟨h1, h2⟩ := open_flat Try.underlying84 [(81, .int .u16), (81, .int .u16), (82, .int .i16), (82, .int .i16), (82, .int .i16)] (by kernel_rfl) (by
    intro k hk
    simp only [List.mem_cons, List.not_mem_nil, or_false] at hk
    rcases hk with rfl | rfl | rfl | rfl | rfl <;> first | exact ⟨Try.underlying81, by kernel_rfl⟩ | exact ⟨Try.underlying82, by kernel_rfl⟩) (by kernel_rfl) h
  obtain ⟨v0, e0, a, rfl, w0⟩ := h2 0 _ rfl
  obtain ⟨v1, e1, b, rfl, w1⟩ := h2 1 _ rfl
  obtain ⟨v2, e2, c, rfl, w2⟩ := h2 2 _ rfl
  obtain ⟨v3, e3, d, rfl, w3⟩ := h2 3 _ rfl
  obtain ⟨v4, e4, e, rfl, w4⟩ := h2 4 _ rfl
  refine ⟨⟨a, b, c, d, e⟩, ?_, ⟨bounds_u16 w0, bounds_u16 w1, bounds_i16 w2, bounds_i16 w3, bounds_i16 w4⟩⟩
  apply List.ext_getElem?
  intro i
  rcases i with _ | _ | _ | _ | _ | i
  · exact e0
  · exact e1
  · exact e2
  · exact e3
  · exact e4
  · rw [List.getElem?_eq_none (by rw [h1]; simp), List.getElem?_eq_none (by simp [stW])]
theorem open_steps {r : Reach} {b0 : Nat} {v : Value} {d : DataW H} {p : List MemPlace} (hval : Value.okWide Try.prog w r b0 42 v) (h : DataW.Trod enc Try.prog w base spare held 42 v d p) :
    ∃ A cap, ∃ l : List St, v = .slice (adr A) l.length cap ∧ Ro w A l.length 5 (stL l) ∧ (∀ x ∈ l, StOk x) ∧ l.length ≤ maxLen ∧ l.length ≤ cap := by
  have h0 := h
  obtain ⟨A, cap, l, rfl, h2, h3, h4⟩ := open_rows stW StOk Try.underlying42 (show Try.prog.cellsOf 84 = 5 by kernel_rfl) (by omega) (fun n cs y _ hy => step_of hy) hval h
  exact ⟨A, cap, l, rfl, h2, h3, h4, cap_le Try.underlying42 h0⟩
end
end
end Go.Proofs.Ytomhfakkebaciaa
