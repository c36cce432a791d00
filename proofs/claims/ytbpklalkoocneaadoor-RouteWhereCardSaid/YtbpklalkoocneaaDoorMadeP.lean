/-
  The routes that are made of hops. No program in sight.
-/
import Derived.Test.YtbpklalkoocneaaDoorOpenC
import Derived.Test.YtbpklalkoocneaaDoorPlain3
set_option linter.unusedSimpArgs false
set_option linter.unusedVariables false
namespace Go.Proofs.YtbpklalkoocneaaDoor
open Go.RowKit Go.PlainAid
def mP (h : Hop) : ByteArray := ⟨#[65, 65, 65, 65]⟩ ++ ⟨#[UInt8.ofNat (65 + h.p % 26).toNat]⟩
def bbb : ByteArray := ⟨#[66, 66, 66, 66, 66]⟩
def mNext (last : Cl) (h : Hop) : Cl := ⟨if mP h = last.p then bbb else mP h, last.t + 1 + h.m * 7, h.d * 50⟩
def base0 : Cl := ⟨⟨#[65, 65, 65, 65, 65]⟩, 100, 0⟩
def base1 : Cl := ⟨bbb, 200, 9000⟩
/-- the last call behind n hops, and all of them -/
def lastTo (x : List Hop) : Nat → Cl
  | 0 => base1
  | n + 1 => match x[n]? with
    | none => lastTo x n
    | some h => mNext (lastTo x n) h
def madeTo (x : List Hop) : Nat → List Cl
  | 0 => [base0, base1]
  | n + 1 => match x[n]? with
    | none => madeTo x n
    | some h => madeTo x n ++ [mNext (lastTo x n) h]
def mN (x : List Hop) : Nat := min x.length 18
def madeL (x : List Hop) : List Cl := madeTo x (mN x)
theorem lastTo_at {x : List Hop} {n : Nat} {h : Hop} (hx : x[n]? = some h) : lastTo x (n + 1) = mNext (lastTo x n) h := by rw [lastTo, hx]
theorem madeTo_at {x : List Hop} {n : Nat} {h : Hop} (hx : x[n]? = some h) : madeTo x (n + 1) = madeTo x n ++ [mNext (lastTo x n) h] := by rw [madeTo, hx]
theorem madeTo_len {x : List Hop} : ∀ {n : Nat}, n ≤ x.length → (madeTo x n).length = n + 2 := by
  intro n
  induction n with
  | zero => intro _; rfl
  | succ n ih =>
    intro h
    rw [madeTo_at (List.getElem?_eq_getElem (show n < x.length by omega)), List.length_append, ih (by omega)]
    rfl
theorem madeTo_last {x : List Hop} : ∀ {n : Nat}, n ≤ x.length → (madeTo x n)[n + 1]? = some (lastTo x n) := by
  intro n h
  cases n with
  | zero => rfl
  | succ n =>
    have hx := List.getElem?_eq_getElem (show n < x.length by omega)
    rw [madeTo_at hx, lastTo_at hx, List.getElem?_append_right (by rw [madeTo_len (by omega)]; omega), madeTo_len (by omega), Nat.sub_self]
    rfl
theorem mP_up (h : Hop) (hh : HopOk h) : (mP h).size = 5 ∧ upB (mP h) = true ∧ mP h ≠ bbb := by
  have h1 : (mP h).size = 5 := rfl
  have hb : 0 ≤ h.p ∧ h.p ≤ 255 := hh.1
  obtain ⟨k, hk⟩ : ∃ k : Nat, (65 + h.p % 26).toNat = 65 + k ∧ k < 26 := ⟨(h.p % 26).toNat, by omega, by omega⟩
  have hd : mP h = ⟨#[65, 65, 65, 65, UInt8.ofNat (65 + k)]⟩ := by
    unfold mP
    rw [hk.1]
    rfl
  refine ⟨h1, ?_, ?_⟩
  · rw [hd]
    have : ∀ k, k < 26 → upB ⟨#[65, 65, 65, 65, UInt8.ofNat (65 + k)]⟩ = true := by decide +kernel
    exact this k hk.2
  · rw [hd]
    intro e
    have := congrArg (fun b : ByteArray => b.data.toList.head?) e
    simp [bbb] at this
theorem mNext_right {c : Cl} {h : Hop} (hh : HopOk h) (hc : rightC c = true) (ht : c.t ≤ 40000) : rightC (mNext c h) = true ∧ c.t < (mNext c h).t ∧ ((mNext c h).p == c.p) = false ∧ (mNext c h).t ≤ c.t + 1786 := by
  have hb := rightC_bd hc
  obtain ⟨q1, q2, q3⟩ := mP_up h hh
  obtain ⟨w1, w2, w3⟩ := hh
  have hbb : bbb.size = 5 ∧ upB bbb = true := by decide +kernel
  unfold mNext
  refine ⟨?_, by show c.t < c.t + 1 + h.m * 7; omega, ?_, by show c.t + 1 + h.m * 7 ≤ _; omega⟩
  · unfold rightC
    dsimp only
    have hs : (if mP h = c.p then bbb else mP h).size = 5 := by split <;> simp [q1, hbb.1]
    have hu : upB (if mP h = c.p then bbb else mP h) = true := by split <;> simp [q2, hbb.2]
    rw [hs, hu]
    simp
    omega
  · dsimp only
    rw [beq_eq_false_iff_ne]
    split
    · rename_i e
      rw [← e]
      exact fun e2 => q3 e2.symm
    · rename_i e
      exact e
theorem made_ok {x : List Hop} (hx : ∀ h ∈ x, HopOk h) : ∀ {n : Nat}, n ≤ x.length → n ≤ 18 → (rightC (lastTo x n) = true ∧ (lastTo x n).t ≤ 200 + 1786 * n) ∧ ∀ i, i < n + 2 → badAt (madeTo x n) i = false := by
  intro n
  induction n with
  | zero =>
    intro _ _
    have e1 : rightC base1 = true := by decide +kernel
    have e2 : ∀ i, i < 2 → badAt [base0, base1] i = false := by decide +kernel
    exact ⟨⟨e1, by show (200 : Int) ≤ _; omega⟩, e2⟩
  | succ n ih =>
    intro hn h18
    obtain ⟨⟨r1, r2⟩, r3⟩ := ih (by omega) (by omega)
    have hg := List.getElem?_eq_getElem (show n < x.length by omega)
    have hok := hx _ (List.getElem_mem (show n < x.length by omega))
    obtain ⟨s1, s2, s3, s4⟩ := mNext_right hok r1 (by omega)
    have hl := madeTo_len (x := x) (n := n) (by omega)
    rw [lastTo_at hg, madeTo_at hg]
    refine ⟨⟨s1, by omega⟩, ?_⟩
    intro i hi
    by_cases h1 : i < n + 2
    · have := r3 i h1
      unfold badAt at this ⊢
      rw [List.getElem?_append_left (by omega)]
      cases i with
      | zero => exact this
      | succ i => dsimp only at this ⊢; rw [List.getElem?_append_left (by omega)]; exact this
    · obtain rfl : i = n + 2 := by omega
      unfold badAt
      rw [List.getElem?_append_right (by omega), hl, Nat.sub_self]
      dsimp only [List.getElem?_cons_zero]
      rw [List.getElem?_append_left (by omega), madeTo_last (by omega)]
      dsimp only
      rw [s1, s3]
      simp
      omega
theorem made_len (x : List Hop) : (madeL x).length = mN x + 2 := madeTo_len (by unfold mN; omega)
theorem made_val {x : List Hop} (hx : ∀ h ∈ x, HopOk h) : valI (madeL x) = -1 ∧ valE (madeL x) = 0 := by
  have hl := made_len x
  have hm : mN x ≤ 18 := by unfold mN; omega
  have hb : firstBad (madeL x) = none := firstBad_none (fun j hj => (made_ok hx (by unfold mN; omega) hm).2 j (by omega))
  unfold valI valE
  rw [if_neg (by omega), if_neg (by omega), if_neg (by omega), hb]
  exact ⟨rfl, rfl⟩
theorem made_bd {x : List Hop} (hx : ∀ h ∈ x, HopOk h) : ∀ {n : Nat}, n ≤ x.length → n ≤ 18 → ∀ c ∈ madeTo x n, c.t ≤ 200 + 1786 * n := by
  intro n
  induction n with
  | zero => intro _ _ c hc; simp [madeTo, base0, base1] at hc; rcases hc with rfl | rfl <;> (dsimp only; omega)
  | succ n ih =>
    intro hn h18 c hc
    have hg := List.getElem?_eq_getElem (show n < x.length by omega)
    rw [madeTo_at hg, List.mem_append] at hc
    rcases hc with hc | hc
    · have := ih (by omega) (by omega) c hc; omega
    · have := ((made_ok hx hn h18).1).2
      rw [lastTo_at hg] at this
      simp at hc
      rw [hc]
      omega
end Go.Proofs.YtbpklalkoocneaaDoor
