/-
  The laws' arguments, opened: calls, routes, hops. No walk.
-/
import Derived.Test.YtbpklalkoocneaaDoorOpen
import Derived.OpenShut
import Derived.Test.YtbpklalkoocneaaDoorProg
import Derived.Test.YtbpklalkoocneaaDoorPlain
set_option linter.unusedSimpArgs false
set_option linter.unusedVariables false
namespace Go.Proofs.YtbpklalkoocneaaDoor
set_option maxRecDepth 100000
open Go.ChangeShapes Go.WideShapes Go.ChangeAt Go.WideMaps Go.WideElems Go.RowKit Sat
section
variable {H : Type} {enc : TypeId × Value → H} {w : World} {base : Nat} {spare : Nat → Bool} {held : Bool}
theorem call_of {n : Nat} {cs : List Value} {y : DataW H × List MemPlace} (h : DataW.trod enc Tryd.prog w base spare held n 26 cs = some y) : ∃ c : Cl, cs = cC c ∧ c.p.size ≤ maxLen := by
  obtain ⟨h1, h2⟩ := open_flat Tryd.underlying26 [(9, .str), (3, .int .i64), (3, .int .i64)] (by kernel_rfl) (by
    intro k hk
    simp only [List.mem_cons, List.not_mem_nil, or_false] at hk
    rcases hk with rfl | rfl | rfl
    · exact ⟨Tryd.underlying9, by kernel_rfl⟩
    · exact ⟨Tryd.underlying3, by kernel_rfl⟩
    · exact ⟨Tryd.underlying3, by kernel_rfl⟩) (by kernel_rfl) h
  obtain ⟨v0, e0, s, rfl, hs⟩ := h2 0 _ rfl
  obtain ⟨v1, e1, t, rfl, _⟩ := h2 1 _ rfl
  obtain ⟨v2, e2, d, rfl, _⟩ := h2 2 _ rfl
  refine ⟨⟨s, t, d⟩, ?_, hs⟩
  apply List.ext_getElem?
  intro i
  rcases i with _ | _ | _ | i
  · exact e0
  · exact e1
  · exact e2
  · rw [List.getElem?_eq_none (by rw [h1]; simp), List.getElem?_eq_none (by simp [cC])]
theorem open_calls {r : Reach} {b0 : Nat} {v : Value} {d : DataW H} {p : List MemPlace} (hval : Value.okWide Tryd.prog w r b0 22 v) (h : DataW.Trod enc Tryd.prog w base spare held 22 v d p) :
    ∃ A cap, ∃ l : List Cl, v = .slice (adr A) l.length cap ∧ Ro w A l.length 3 (cells l) := by
  obtain ⟨A, cap, l, h1, h2, _, _⟩ := open_rows cC (fun c => c.p.size ≤ maxLen) Tryd.underlying22 (show Tryd.prog.cellsOf 26 = 3 by kernel_rfl) (by omega) (fun n cs y _ hy => call_of hy) hval h
  exact ⟨A, cap, l, h1, h2⟩
theorem open_call {r : Reach} {b0 : Nat} {v : Value} {d : DataW H} {p : List MemPlace} (hval : Value.okWide Tryd.prog w r b0 26 v) (h : DataW.Trod enc Tryd.prog w base spare held 26 v d p) :
    ∃ c : Cl, v = .agg #[.string c.p, .int .i64 c.t, .int .i64 c.d] ∧ c.p.size ≤ maxLen := by
  obtain ⟨cs, rfl, _⟩ := okWide_struct Tryd.underlying26 hval
  obtain ⟨fuel, hf⟩ := h
  obtain ⟨c, hc, hs⟩ := call_of hf
  refine ⟨c, ?_, hs⟩
  have : cs = (cC c).toArray := by rw [← hc]; rfl
  rw [this]
  rfl
structure Hop where
  p : Int
  m : Int
  d : Int
def hC (h : Hop) : List Value := [.int .u8 h.p, .int .u8 h.m, .int .u8 h.d]
def hops (l : List Hop) : List Value := l.flatMap hC
def HopOk (h : Hop) : Prop := (0 ≤ h.p ∧ h.p ≤ 255) ∧ (0 ≤ h.m ∧ h.m ≤ 255) ∧ (0 ≤ h.d ∧ h.d ≤ 255)
theorem hop_of {n : Nat} {cs : List Value} {y : DataW H × List MemPlace} (h : DataW.trod enc Tryd.prog w base spare held n 66 cs = some y) : ∃ c : Hop, cs = hC c ∧ HopOk c := by
  obtain ⟨h1, h2⟩ := open_flat Tryd.underlying66 [(5, .int .u8), (5, .int .u8), (5, .int .u8)] (by kernel_rfl) (by
    intro k hk
    simp only [List.mem_cons, List.not_mem_nil, or_false] at hk
    rcases hk with rfl | rfl | rfl <;> exact ⟨Tryd.underlying5, by kernel_rfl⟩) (by kernel_rfl) h
  obtain ⟨v0, e0, s, rfl, w0⟩ := h2 0 _ rfl
  obtain ⟨v1, e1, t, rfl, w1⟩ := h2 1 _ rfl
  obtain ⟨v2, e2, d, rfl, w2⟩ := h2 2 _ rfl
  refine ⟨⟨s, t, d⟩, ?_, bounds_u8 w0, bounds_u8 w1, bounds_u8 w2⟩
  apply List.ext_getElem?
  intro i
  rcases i with _ | _ | _ | i
  · exact e0
  · exact e1
  · exact e2
  · rw [List.getElem?_eq_none (by rw [h1]; simp), List.getElem?_eq_none (by simp [hC])]
theorem open_hops {r : Reach} {b0 : Nat} {v : Value} {d : DataW H} {p : List MemPlace} (hval : Value.okWide Tryd.prog w r b0 28 v) (h : DataW.Trod enc Tryd.prog w base spare held 28 v d p) :
    ∃ A cap, ∃ l : List Hop, v = .slice (adr A) l.length cap ∧ Ro w A l.length 3 (hops l) ∧ (∀ x ∈ l, HopOk x) ∧ l.length ≤ maxLen := by
  obtain ⟨A, cap, l, h1, h2, h3, h4⟩ := open_rows hC HopOk Tryd.underlying28 (show Tryd.prog.cellsOf 66 = 3 by kernel_rfl) (by omega) (fun n cs y _ hy => hop_of hy) hval h
  exact ⟨A, cap, l, h1, h2, h3, h4⟩
end
end Go.Proofs.YtbpklalkoocneaaDoor
