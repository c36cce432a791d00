/-
  Nests that come in as arguments: of an empty slice the address is whatever it is.
-/
import Derived.Test.YtdohcglpcgahaaaDoorNE
set_option linter.unusedSimpArgs false
set_option linter.unusedVariables false
namespace Go.Proofs.YtdohcglpcgahaaaDoor
open Go Sat Go.RowKit Go.PlainAid
/-- where a slice's elements lie, if it has any -/
structure AtN (n : Nat) (a : Option Addr) (A : Option (Nat × Nat)) : Prop where
  at_ : 0 < n → a = adr A
theorem AtN.refl (n : Nat) (A : Option (Nat × Nat)) : AtN n (adr A) A := ⟨fun _ => rfl⟩
def NestA {α : Type} (R : Lies α) : Lies (List α) := fun w B v l =>
  ∃ (a : Option Addr) (A : Option (Nat × Nat)) (cap : Nat) (xs : List Value), v = .slice a l.length cap ∧ AtN l.length a A ∧ (l.length ≤ cap ∧ cap ≤ maxLen) ∧ Ro w A l.length 1 xs ∧ (∀ p, A = some p → 0 < l.length → B p.1) ∧ ∀ (i : Nat) (x : Value) (a : α), xs[i]? = some x → l[i]? = some a → R w B x a
abbrev NEA : Lies (List ByteArray) := NestA Text
abbrev NSA : Lies (List (List ByteArray)) := NestA NEA
abbrev NLA : Lies (List (List (List ByteArray))) := NestA NSA
theorem nesta_stays {α : Type} {R : Lies α} (hR : Stays R) : Stays (NestA R) := by
  rintro w w' B B' v l ⟨a, A, cap, xs, hv, ha, hc, hro, hB, hx⟩ hb hBB
  exact ⟨a, A, cap, xs, hv, ha, hc, hro.stays (fun p hp hn hl => hb p.1 (hB p hp hn) hl), fun p hp hn => hBB _ (hB p hp hn), fun i x a h1 h2 => hR _ _ _ _ _ _ (hx i x a h1 h2) hb hBB⟩
theorem nea_stays : Stays NEA := nesta_stays text_stays
theorem nsa_stays : Stays NSA := nesta_stays nea_stays
theorem nla_stays : Stays NLA := nesta_stays nsa_stays
theorem nest_arg {α : Type} {R R' : Lies α} (h : ∀ w B v a, R w B v a → R' w B v a) {w : World} {B : Nat → Prop} {v : Value} {l : List α} : Nest R w B v l → NestA R' w B v l := by
  rintro ⟨A, cap, xs, rfl, hc, hro, hB, hx⟩
  exact ⟨_, A, cap, xs, rfl, AtN.refl _ _, hc, hro, fun p h1 h2 => (hB p h1 h2).1, fun i x a h1 h2 => h _ _ _ _ (hx i x a h1 h2)⟩
theorem ne_arg {w : World} {B : Nat → Prop} {v : Value} {l : List ByteArray} (h : NE w B v l) : NEA w B v l := nest_arg (fun _ _ _ _ h => h) h
theorem ns_arg {w : World} {B : Nat → Prop} {v : Value} {l : List (List ByteArray)} (h : NS w B v l) : NSA w B v l := nest_arg (fun _ _ _ _ h => ne_arg h) h
theorem nl_arg {w : World} {B : Nat → Prop} {v : Value} {l : List (List (List ByteArray))} (h : NL w B v l) : NLA w B v l := nest_arg (fun _ _ _ _ h => ns_arg h) h
theorem some_of {w : World} {a : Option Addr} {A : Option (Nat × Nat)} {n : Nat} {xs : List Value} (ha : AtN n a A) (h : Ro w A n 1 xs) (hn : 0 < n) : ∃ p : Nat × Nat, a = adr (some p) ∧ A = some p := by
  obtain ⟨p, rfl, _⟩ := h.some_ hn
  exact ⟨p, ha.at_ hn, rfl⟩
theorem nea_row {w : World} {v : Value} {e : List ByteArray} {B : Nat → Prop} (h : NEA w B v e) : ∃ a A cap, v = .slice a e.length cap ∧ AtN e.length a A ∧ (e.length ≤ cap ∧ cap ≤ maxLen) ∧ Ro w A e.length 1 (e.map Value.string) ∧ ∀ p, A = some p → 0 < e.length → B p.1 := by
  obtain ⟨a, A, cap, xs, hv, ha, hc, hro, hB, hx⟩ := h
  have hxs : xs = e.map Value.string := by
    refine List.ext_getElem? fun i => ?_
    rcases Nat.lt_or_ge i e.length with h | h
    · have h1 : i < xs.length := by rw [hro.1]; omega
      have := hx i xs[i] e[i] (List.getElem?_eq_getElem h1) (List.getElem?_eq_getElem h)
      rw [List.getElem?_eq_getElem h1, List.getElem?_map, List.getElem?_eq_getElem h]
      exact congrArg some this
    · rw [List.getElem?_eq_none (by rw [hro.1]; omega), List.getElem?_eq_none (by simpa using h)]
  rw [hxs] at hro
  exact ⟨a, A, cap, hv, ha, hc, hro, hB⟩
theorem str_cell {e : List ByteArray} {k : Nat} {s : ByteArray} (h : e[k]? = some s) : (e.map Value.string)[k]? = some (.string s) := by rw [List.getElem?_map, h]; rfl
/-- cells that are appended come from an argument -/
theorem raw_arg {cx : Cx} {H : Heap} {a : Option Addr} {A : Option (Nat × Nat)} {n c : Nat} {xs : List Value} {K : Nat → List Value → Prop} (hM : cx.M = []) (hn : cx.n0 = cx.W.heap.size) (ha : AtN n a A) (h : Ro cx.W A n 1 xs) (k : K n xs) : RawSrc cx H 1 a n c K := by
  rcases Nat.eq_zero_or_pos n with h0 | h0
  · subst h0
    have hx : xs = [] := List.eq_nil_of_length_eq_zero (by rw [h.1])
    subst hx
    refine ⟨.inr ⟨[], k, rfl, fun w hw => ?_⟩⟩
    cases a with
    | none => exact .inr ⟨rfl, rfl, rfl⟩
    | some p => exact .inl ⟨_, rfl, fun j u hu => by cases hu⟩
  · rw [ha.at_ h0]
    exact raw_ro hM hn h k
/-- an argument's nest, at a callee's world -/
theorem lent_any {α : Type} {R : Lies α} (hR : Stays R) {cx : Cx} (hM : cx.M = []) (hn : cx.n0 = cx.W.heap.size) {v : Value} {l : α} (h : R cx.W (fun _ => True) v l) {H : Heap} {w : World} (hw : Holds cx H w) : R w (fun _ => True) v l := lent_nest hR hM hn h hw
end Go.Proofs.YtdohcglpcgahaaaDoor
