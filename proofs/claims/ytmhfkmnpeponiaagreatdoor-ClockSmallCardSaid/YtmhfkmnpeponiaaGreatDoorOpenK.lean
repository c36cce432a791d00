/-
  The laws' arguments, opened: spans, calendars, tides, numbers. No walk.
-/
import Derived.Test.YtmhfkmnpeponiaaGreatDoorOpen
import Derived.OpenShut
import Derived.Test.YtmhfkmnpeponiaaGreatDoorProg
import Derived.Test.YtmhfkmnpeponiaaGreatDoorC12
set_option linter.unusedSimpArgs false
set_option linter.unusedVariables false
namespace Go.Proofs.YtmhfkmnpeponiaaGreatDoor
set_option maxRecDepth 100000
open Go.ChangeShapes Go.WideShapes Go.ChangeAt Go.WideMaps Go.WideElems Go.RowKit Sat
section
variable {H : Type} {enc : TypeId × Value → H} {w : World} {base : Nat} {spare : Nat → Bool} {held : Bool}
theorem cap_le {P : Program} {t e : TypeId} {A : Option Addr} {n cap : Nat} {d : DataW H} {p : List MemPlace} (ht : P.underlying t = some (.slice e)) (h : DataW.Trod enc P w base spare held t (.slice A n cap) d p) : n ≤ cap := by
  obtain ⟨fuel, hf⟩ := h
  simp only [Value.cells] at hf
  rcases DataW.trod_slice ht hf with ⟨h0, _⟩ | ⟨a', len', cap', elems, rest, m, _, hcs, hx, _, hl, _, hlen, _, _, _⟩
  · simp at h0
    omega
  · simp at hcs
    omega
theorem span_of {n : Nat} {cs : List Value} {y : DataW H × List MemPlace} (h : DataW.trod enc Tryz.prog w base spare held n 25 cs = some y) : ∃ c : Sp, cs = sC c ∧ True := by
  obtain ⟨h1, h2⟩ := open_flat Tryz.underlying25 [(3, .int .i64), (3, .int .i64)] (by kernel_rfl) (by
    intro k hk
    simp only [List.mem_cons, List.not_mem_nil, or_false] at hk
    rcases hk with rfl | rfl <;> exact ⟨Tryz.underlying3, by kernel_rfl⟩) (by kernel_rfl) h
  obtain ⟨v0, e0, s, rfl, _⟩ := h2 0 _ rfl
  obtain ⟨v1, e1, t, rfl, _⟩ := h2 1 _ rfl
  refine ⟨⟨s, t⟩, ?_, trivial⟩
  apply List.ext_getElem?
  intro i
  rcases i with _ | _ | i
  · exact e0
  · exact e1
  · rw [List.getElem?_eq_none (by rw [h1]; simp), List.getElem?_eq_none (by simp [sC])]
theorem open_spans {r : Reach} {b0 : Nat} {v : Value} {d : DataW H} {p : List MemPlace} (hval : Value.okWide Tryz.prog w r b0 26 v) (h : DataW.Trod enc Tryz.prog w base spare held 26 v d p) :
    ∃ A cap, ∃ l : List Sp, v = .slice (adr A) l.length cap ∧ Ro w A l.length 2 (sps l) ∧ l.length ≤ maxLen ∧ l.length ≤ cap := by
  have h0 := h
  obtain ⟨A, cap, l, rfl, h2, _, h4⟩ := open_rows sC (fun _ => True) Tryz.underlying26 (show Tryz.prog.cellsOf 25 = 2 by kernel_rfl) (by omega) (fun n cs y _ hy => span_of hy) hval h
  exact ⟨A, cap, l, rfl, h2, h4, cap_le Tryz.underlying26 h0⟩
theorem open_tide {r : Reach} {b0 : Nat} {v : Value} {d : DataW H} {p : List MemPlace} (hval : Value.okWide Tryz.prog w r b0 35 v) (h : DataW.Trod enc Tryz.prog w base spare held 35 v d p) : ∃ t : Td, v = tdV t := by
  obtain ⟨cs, rfl, _⟩ := okWide_struct Tryz.underlying35 hval
  obtain ⟨fuel, hf⟩ := h
  obtain ⟨h1, h2⟩ := open_flat Tryz.underlying35 [(3, .int .i64), (3, .int .i64), (3, .int .i64), (3, .int .i64), (3, .int .i64)] (by kernel_rfl) (by
    intro k hk
    simp only [List.mem_cons, List.not_mem_nil, or_false] at hk
    rcases hk with rfl | rfl | rfl | rfl | rfl <;> exact ⟨Tryz.underlying3, by kernel_rfl⟩) (by kernel_rfl) hf
  obtain ⟨v0, e0, x0, rfl, _⟩ := h2 0 _ rfl
  obtain ⟨v1, e1, x1, rfl, _⟩ := h2 1 _ rfl
  obtain ⟨v2, e2, x2, rfl, _⟩ := h2 2 _ rfl
  obtain ⟨v3, e3, x3, rfl, _⟩ := h2 3 _ rfl
  obtain ⟨v4, e4, x4, rfl, _⟩ := h2 4 _ rfl
  refine ⟨⟨x0, x1, x2, x3, x4⟩, ?_⟩
  have : cs = #[.int .i64 x0, .int .i64 x1, .int .i64 x2, .int .i64 x3, .int .i64 x4] := by
    apply Array.toList_inj.1
    apply List.ext_getElem?
    intro i
    rcases i with _ | _ | _ | _ | _ | i
    · exact e0
    · exact e1
    · exact e2
    · exact e3
    · exact e4
    · rw [List.getElem?_eq_none (by
        have : cs.toList.length = 5 := h1
        omega), List.getElem?_eq_none (by simp)]
  rw [this]
  rfl
theorem open_cal {r : Reach} {b0 : Nat} {v : Value} {d : DataW H} {p : List MemPlace} (hval : Value.okWide Tryz.prog w r b0 29 v) (h : DataW.Trod enc Tryz.prog w base spare held 29 v d p) :
    ∃ A cA, ∃ l : List Sp, ∃ B cB, ∃ c : List Sp, v = .agg #[.slice (adr A) l.length cA, .slice (adr B) c.length cB] ∧ Ro w A l.length 2 (sps l) ∧ Ro w B c.length 2 (sps c) ∧ (l.length ≤ maxLen ∧ c.length ≤ maxLen) ∧ c.length ≤ cB := by
  simp only [Value.okWide, Tryz.underlying29] at hval
  obtain ⟨cs, rfl, hsz, ts, hts, _, hrow⟩ := hval
  rw [show Tryz.prog.cellsOf 29 = 2 by kernel_rfl] at hsz
  have hts2 : Tryz.prog.cellTypes Tryz.prog.depth 29 = some [26, 26] := by kernel_rfl
  rw [hts2] at hts
  cases hts
  obtain ⟨fuel, hf⟩ := h
  obtain ⟨xs, m, _, _, _, hxl, hfl⟩ := DataW.trod_struct Tryz.underlying29 hf
  have one : ∀ (i : Nat), i < 2 → DataW.trod enc Tryz.prog w base spare held m 26 (List.take (Tryz.prog.cellsOf 26) (List.drop i (Value.agg cs).cells.toList)) = xs[i]? → ∃ A cA, ∃ l : List Sp, cs[i]? = some (.slice (adr A) l.length cA) ∧ Ro w A l.length 2 (sps l) ∧ l.length ≤ maxLen ∧ l.length ≤ cA := by
    intro i hi h4
    rw [show Tryz.prog.cellsOf 26 = 1 by kernel_rfl] at h4
    have hx : i < xs.length := by rw [hxl]; exact hi
    rw [List.getElem?_eq_getElem hx] at h4
    have hic : i < cs.size := by omega
    have hcl : (cs.toList.drop i).take 1 = [cs[i]] := by
      rw [List.drop_eq_getElem_cons (by simpa using hic)]
      rfl
    have hcl' : ((Value.agg cs).cells.toList.drop i).take 1 = [cs[i]] := hcl
    rw [hcl'] at h4
    have hcell := hrow i cs[i] (Array.getElem?_eq_getElem hic)
    obtain ⟨u, hu, hok⟩ := hcell
    have hu2 : u = 26 := by
      rcases i with _ | _ | i
      · simpa using hu.symm
      · simpa using hu.symm
      · omega
    subst hu2
    have hv : Value.okWide Tryz.prog w r b0 26 cs[i] := by
      unfold Value.okWide
      rw [Tryz.underlying26]
      exact hok
    obtain ⟨a, len, cap, hs⟩ := okWide_slice Tryz.underlying26 hv
    have hT : DataW.Trod enc Tryz.prog w base spare held 26 cs[i] xs[i].1 xs[i].2 := ⟨m, by rw [hs] at h4 ⊢; exact h4⟩
    obtain ⟨A, cA, l, e1, e2, e3, e4⟩ := open_spans hv hT
    exact ⟨A, cA, l, by rw [Array.getElem?_eq_getElem hic, e1], e2, e3, e4⟩
  obtain ⟨A, cA, l, e1, e2, e3, e4⟩ := one 0 (by omega) (hfl 0 _ rfl)
  obtain ⟨B, cB, c, f1, f2, f3, f4⟩ := one 1 (by omega) (hfl 1 _ rfl)
  refine ⟨A, cA, l, B, cB, c, ?_, e2, f2, ⟨e3, f3⟩, f4⟩
  congr 1
  apply Array.ext_getElem?
  intro i
  rcases i with _ | _ | i
  · exact e1
  · exact f1
  · rw [Array.getElem?_eq_none (by omega), Array.getElem?_eq_none (by simp)]
theorem open_u8s {r : Reach} {b0 : Nat} {v : Value} {d : DataW H} {p : List MemPlace} (hval : Value.okWide Tryz.prog w r b0 79 v) (h : DataW.Trod enc Tryz.prog w base spare held 79 v d p) :
    ∃ A cap, ∃ x : List Int, v = .slice (adr A) x.length cap ∧ Ro w A x.length 1 (x.map (Value.int .u8)) ∧ (∀ n ∈ x, 0 ≤ n ∧ n ≤ 255) ∧ x.length ≤ maxLen := by
  obtain ⟨A, cap, l, h1, h2, h3, h4⟩ := open_ints_ro Tryz.underlying79 Tryz.underlying5 (by kernel_rfl) hval h
  exact ⟨A, cap, l, h1, h2, fun n hn => bounds_u8 (h3 n hn), h4⟩
end
end Go.Proofs.YtmhfkmnpeponiaaGreatDoor
