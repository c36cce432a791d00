/-
  A calendar's spans: one that is closed, and what is left of a span. No program in sight.
-/
import Derived.Test.YtodecgpjidlldaaDoorCPlain5
set_option linter.unusedSimpArgs false
set_option linter.unusedVariables false
namespace Go.Proofs.YtodecgpjidlldaaDoor
open Go.RowKit Go.PlainAid
/-- within a span of the week: from a on it is not told yet; all is told up to q; the closed ones ahead of ci are done -/
structure Inn (w c : List Sp) (x to a q : Int) (ci : Nat) : Prop where
  le : q ≤ a
  no : ∀ y, q ≤ y → y < a → x ≤ y → y < to → opn w c y = false
  cl : ∀ (j : Nat) (r : Sp), j < ci → c[j]? = some r → r.t ≤ max a x
theorem opn_closed {w c : List Sp} {j : Nat} {r : Sp} {y : Int} (hr : c[j]? = some r) (h1 : r.f ≤ y) (h2 : y < r.t) : opn w c y = false := by
  unfold opn
  rw [inB_some.2 ⟨j, r, hr, h1, h2⟩]
  simp
theorem opn_open {w c : List Sp} {x to a q y b : Int} {ci : Nat} (hI : Inn w c x to a q ci) (h : okTo c c.length = true) (hw : inB w (y % 10080) = true) (h1 : a ≤ y) (h2 : x ≤ y) (h3 : y < b) (hc : ∀ r : Sp, c[ci]? = some r → b ≤ r.f) : opn w c y = true := by
  unfold opn
  rw [hw]
  have : inB c y = false := by
    rw [Bool.eq_false_iff]
    intro e
    obtain ⟨j, s, hj, h4, h5⟩ := inB_some.1 e
    rcases Nat.lt_trichotomy j ci with d | d | d
    · have := hI.cl j s d hj
      omega
    · subst d
      have := hc s hj
      omega
    · have hjl := (List.getElem?_eq_some_iff.1 hj).1
      have hi := List.getElem?_eq_getElem (show ci < c.length by omega)
      have h6 := hc _ hi
      have h7 := ok_lt h hi hj d
      have h8 := ok_own h hi
      omega
  rw [this]
  rfl
/-- one closed span that begins ahead of the span's end -/
theorem inn_step {w c : List Sp} {x to a q b : Int} {ci : Nat} {r : Sp} (h : okTo c c.length = true) (hxt : x ≤ to) (hI : Inn w c x to a q ci) (hr : c[ci]? = some r) (hab : a ≤ b) (hrb : r.f < b) (hin : ∀ y, a ≤ y → y < b → inB w (y % 10080) = true) :
    ∃ q', Inn w c x to (max a (min b r.t)) q' ci ∧ addS (toldAt (opn w c) x to q) (max a x) (min (min b r.f) to) = toldAt (opn w c) x to q' ∧ (r.t ≤ b → Inn w c x to (max a (min b r.t)) q' (ci + 1)) := by
  have ho := ok_own h hr
  have hcl : ∀ (a' : Int), a ≤ a' → (∀ (j : Nat) (s : Sp), j < ci → c[j]? = some s → s.t ≤ max a' x) := fun a' ha j s hj hs => by
    have := hI.cl j s hj hs
    omega
  have hcl1 : r.t ≤ b → ∀ (j : Nat) (s : Sp), j < ci + 1 → c[j]? = some s → s.t ≤ max (max a (min b r.t)) x := fun hb j s hj hs => by
    by_cases e : j = ci
    · subst e
      rw [hr] at hs
      cases hs
      rw [Int.min_eq_right hb]
      omega
    · exact hcl _ (by omega) j s (by omega) hs
  by_cases e : a ≤ r.f
  · have hno : ∀ y, r.f ≤ y → y < max a (min b r.t) → x ≤ y → y < to → opn w c y = false := fun y h1 h2 _ _ => opn_closed hr h1 (by omega)
    have hle : r.f ≤ max a (min b r.t) := by omega
    refine ⟨r.f, ⟨hle, hno, hcl _ (by omega)⟩, ?_, fun hb => ⟨hle, hno, hcl1 hb⟩⟩
    rw [show min b r.f = r.f by omega]
    exact (toldAt_step hxt hI.le e hI.no (fun y h1 h2 h3 h4 => opn_open (b := r.f) hI h (hin y h1 (by omega)) h1 h3 h2 (fun s hs => by rw [hr] at hs; cases hs; exact Int.le_refl _))).symm
  · have hno : ∀ y, q ≤ y → y < max a (min b r.t) → x ≤ y → y < to → opn w c y = false := fun y h1 h2 h3 h4 => by
      by_cases d : y < a
      · exact hI.no y h1 d h3 h4
      · exact opn_closed hr (by omega) (by omega)
    have hle : q ≤ max a (min b r.t) := by have := hI.le; omega
    exact ⟨q, ⟨hle, hno, hcl _ (by omega)⟩, addS_no (by omega), fun hb => ⟨hle, hno, hcl1 hb⟩⟩
/-- what is left of the span -/
theorem inn_end {w c : List Sp} {x to a q b : Int} {ci : Nat} (h : okTo c c.length = true) (hxt : x ≤ to) (hI : Inn w c x to a q ci) (hab : a ≤ b) (hin : ∀ y, a ≤ y → y < b → inB w (y % 10080) = true) (hc : a = b ∨ ∀ r : Sp, c[ci]? = some r → b ≤ r.f) :
    addS (toldAt (opn w c) x to q) (max a x) (min b to) = toldAt (opn w c) x to b := by
  refine (toldAt_step hxt hI.le hab hI.no (fun y h1 h2 h3 h4 => ?_)).symm
  rcases hc with hc | hc
  · omega
  · exact opn_open hI h (hin y h1 h2) h1 h3 h2 hc
/-- the next span of the week -/
theorem inn_next {w c : List Sp} {x to a q b a' : Int} {ci : Nat} (hI : Inn w c x to a q ci) (hab : a ≤ b) (hba : b ≤ a') (hw : ∀ y, b ≤ y → y < a' → x ≤ y → y < to → inB w (y % 10080) = false) : Inn w c x to a' b ci :=
  ⟨hba, fun y h1 h2 h3 h4 => by unfold opn; rw [hw y h1 h2 h3 h4]; rfl, fun j r hj hr => by have := hI.cl j r hj hr; omega⟩
/-- the first span: the closed ones that end at the time or ahead of it are left out -/
theorem inn_first {w c : List Sp} {x to pos a : Int} {ci : Nat} (hb : Bh c x ci) (hpa : pos ≤ a) (hw : ∀ y, pos ≤ y → y < a → x ≤ y → y < to → inB w (y % 10080) = false) : Inn w c x to a pos ci :=
  ⟨hpa, fun y h1 h2 h3 h4 => by unfold opn; rw [hw y h1 h2 h3 h4]; rfl, fun j r hj hr => by have := hb.lo j r hj hr; omega⟩
end Go.Proofs.YtodecgpjidlldaaDoor
