/-
  The routes that are made of hops: what they are, where the ship is, late ones, faults, ports. No program in sight.
-/
import Derived.Test.YtbpklalkoocneaaDoorDoor
import Derived.Test.YtbpklalkoocneaaDoorOpenC
import Derived.Test.YtbpklalkoocneaaDoorPlain3
set_option linter.unusedSimpArgs false
set_option linter.unusedVariables false
namespace Go.Proofs.YtbpklalkoocneaaDoor
section
open Go.ChangeShapes Go.WideShapes Go.ChangeAt Go.WideMaps Go.WideElems Go.RowKit
theorem cap_le {H : Type} {enc : TypeId × Value → H} {P : Program} {w : World} {base : Nat} {spare : Nat → Bool} {held : Bool} {t e : TypeId} {A : Option Addr} {n cap : Nat} {d : DataW H} {p : List MemPlace} (ht : P.underlying t = some (.slice e)) (h : DataW.Trod enc P w base spare held t (.slice A n cap) d p) : n ≤ cap := by
  obtain ⟨fuel, hf⟩ := h
  simp only [Value.cells] at hf
  rcases DataW.trod_slice ht hf with ⟨h0, _⟩ | ⟨a', len', cap', elems, rest, m, _, hcs, hx, _, hl, _, hlen, _, _, _⟩
  · simp at h0
    omega
  · simp at hcs
    omega
end
section
open Go.RowKit Go.PlainAid
def mP (h : Hop) : ByteArray := ⟨#[65, 65, 65, 65]⟩ ++ ⟨#[UInt8.ofNat (65 + h.p % 26).toNat]⟩
def bbb : ByteArray := ⟨#[66, 66, 66, 66, 66]⟩
def mNext (last : Cl) (h : Hop) : Cl := ⟨if mP h = last.p then bbb else mP h, last.t + 1 + h.m * 7, h.d * 50⟩
def base0 : Cl := ⟨⟨#[65, 65, 65, 65, 65]⟩, 100, 0⟩
def base1 : Cl := ⟨bbb, 200, 9000⟩
/-- the last call behind n hops, and all of them -/
def lastTo (x : List Hop) : Nat → Cl
  | 0 => base1
  | n + 1 => match x[n]? with
    | none => lastTo x n
    | some h => mNext (lastTo x n) h
def madeTo (x : List Hop) : Nat → List Cl
  | 0 => [base0, base1]
  | n + 1 => match x[n]? with
    | none => madeTo x n
    | some h => madeTo x n ++ [mNext (lastTo x n) h]
def mN (x : List Hop) : Nat := min x.length 18
def madeL (x : List Hop) : List Cl := madeTo x (mN x)
theorem lastTo_at {x : List Hop} {n : Nat} {h : Hop} (hx : x[n]? = some h) : lastTo x (n + 1) = mNext (lastTo x n) h := by rw [lastTo, hx]
theorem madeTo_at {x : List Hop} {n : Nat} {h : Hop} (hx : x[n]? = some h) : madeTo x (n + 1) = madeTo x n ++ [mNext (lastTo x n) h] := by rw [madeTo, hx]
theorem madeTo_len {x : List Hop} : ∀ {n : Nat}, n ≤ x.length → (madeTo x n).length = n + 2 := by
  intro n
  induction n with
  | zero => intro _; rfl
  | succ n ih =>
    intro h
    rw [madeTo_at (List.getElem?_eq_getElem (show n < x.length by omega)), List.length_append, ih (by omega)]
    rfl
theorem madeTo_last {x : List Hop} : ∀ {n : Nat}, n ≤ x.length → (madeTo x n)[n + 1]? = some (lastTo x n) := by
  intro n h
  cases n with
  | zero => rfl
  | succ n =>
    have hx := List.getElem?_eq_getElem (show n < x.length by omega)
    rw [madeTo_at hx, lastTo_at hx, List.getElem?_append_right (by rw [madeTo_len (by omega)]; omega), madeTo_len (by omega), Nat.sub_self]
    rfl
theorem mP_up (h : Hop) (hh : HopOk h) : (mP h).size = 5 ∧ upB (mP h) = true ∧ mP h ≠ bbb := by
  have h1 : (mP h).size = 5 := rfl
  have hb : 0 ≤ h.p ∧ h.p ≤ 255 := hh.1
  obtain ⟨k, hk⟩ : ∃ k : Nat, (65 + h.p % 26).toNat = 65 + k ∧ k < 26 := ⟨(h.p % 26).toNat, by omega, by omega⟩
  have hd : mP h = ⟨#[65, 65, 65, 65, UInt8.ofNat (65 + k)]⟩ := by
    unfold mP
    rw [hk.1]
    rfl
  refine ⟨h1, ?_, ?_⟩
  · rw [hd]
    have : ∀ k, k < 26 → upB ⟨#[65, 65, 65, 65, UInt8.ofNat (65 + k)]⟩ = true := by decide +kernel
    exact this k hk.2
  · rw [hd]
    intro e
    have := congrArg (fun b : ByteArray => b.data.toList.head?) e
    simp [bbb] at this
theorem mNext_right {c : Cl} {h : Hop} (hh : HopOk h) (hc : rightC c = true) (ht : c.t ≤ 40000) : rightC (mNext c h) = true ∧ c.t < (mNext c h).t ∧ ((mNext c h).p == c.p) = false ∧ (mNext c h).t ≤ c.t + 1786 := by
  have hb := rightC_bd hc
  obtain ⟨q1, q2, q3⟩ := mP_up h hh
  obtain ⟨w1, w2, w3⟩ := hh
  have hbb : bbb.size = 5 ∧ upB bbb = true := by decide +kernel
  unfold mNext
  refine ⟨?_, by show c.t < c.t + 1 + h.m * 7; omega, ?_, by show c.t + 1 + h.m * 7 ≤ _; omega⟩
  · unfold rightC
    dsimp only
    have hs : (if mP h = c.p then bbb else mP h).size = 5 := by split <;> simp [q1, hbb.1]
    have hu : upB (if mP h = c.p then bbb else mP h) = true := by split <;> simp [q2, hbb.2]
    rw [hs, hu]
    simp
    omega
  · dsimp only
    rw [beq_eq_false_iff_ne]
    split
    · rename_i e
      rw [← e]
      exact fun e2 => q3 e2.symm
    · rename_i e
      exact e
theorem made_ok {x : List Hop} (hx : ∀ h ∈ x, HopOk h) : ∀ {n : Nat}, n ≤ x.length → n ≤ 18 → (rightC (lastTo x n) = true ∧ (lastTo x n).t ≤ 200 + 1786 * n) ∧ ∀ i, i < n + 2 → badAt (madeTo x n) i = false := by
  intro n
  induction n with
  | zero =>
    intro _ _
    have e1 : rightC base1 = true := by decide +kernel
    have e2 : ∀ i, i < 2 → badAt [base0, base1] i = false := by decide +kernel
    exact ⟨⟨e1, by show (200 : Int) ≤ _; omega⟩, e2⟩
  | succ n ih =>
    intro hn h18
    obtain ⟨⟨r1, r2⟩, r3⟩ := ih (by omega) (by omega)
    have hg := List.getElem?_eq_getElem (show n < x.length by omega)
    have hok := hx _ (List.getElem_mem (show n < x.length by omega))
    obtain ⟨s1, s2, s3, s4⟩ := mNext_right hok r1 (by omega)
    have hl := madeTo_len (x := x) (n := n) (by omega)
    rw [lastTo_at hg, madeTo_at hg]
    refine ⟨⟨s1, by omega⟩, ?_⟩
    intro i hi
    by_cases h1 : i < n + 2
    · have := r3 i h1
      unfold badAt at this ⊢
      rw [List.getElem?_append_left (by omega)]
      cases i with
      | zero => exact this
      | succ i => dsimp only at this ⊢; rw [List.getElem?_append_left (by omega)]; exact this
    · obtain rfl : i = n + 2 := by omega
      unfold badAt
      rw [List.getElem?_append_right (by omega), hl, Nat.sub_self]
      dsimp only [List.getElem?_cons_zero]
      rw [List.getElem?_append_left (by omega), madeTo_last (by omega)]
      dsimp only
      rw [s1, s3]
      simp
      omega
theorem made_len (x : List Hop) : (madeL x).length = mN x + 2 := madeTo_len (by unfold mN; omega)
theorem made_val {x : List Hop} (hx : ∀ h ∈ x, HopOk h) : valI (madeL x) = -1 ∧ valE (madeL x) = 0 := by
  have hl := made_len x
  have hm : mN x ≤ 18 := by unfold mN; omega
  have hb : firstBad (madeL x) = none := firstBad_none (fun j hj => (made_ok hx (by unfold mN; omega) hm).2 j (by omega))
  unfold valI valE
  rw [if_neg (by omega), if_neg (by omega), if_neg (by omega), hb]
  exact ⟨rfl, rfl⟩
theorem made_bd {x : List Hop} (hx : ∀ h ∈ x, HopOk h) : ∀ {n : Nat}, n ≤ x.length → n ≤ 18 → ∀ c ∈ madeTo x n, c.t ≤ 200 + 1786 * n := by
  intro n
  induction n with
  | zero => intro _ _ c hc; simp [madeTo, base0, base1] at hc; rcases hc with rfl | rfl <;> (dsimp only; omega)
  | succ n ih =>
    intro hn h18 c hc
    have hg := List.getElem?_eq_getElem (show n < x.length by omega)
    rw [madeTo_at hg, List.mem_append] at hc
    rcases hc with hc | hc
    · have := ih (by omega) (by omega) c hc; omega
    · have := ((made_ok hx hn h18).1).2
      rw [lastTo_at hg] at this
      simp at hc
      rw [hc]
      omega
end
section
open Go.RowKit Go.PlainAid
theorem whTo_at {l : List Cl} {t : Int} {k : Nat} {c : Cl} (hc : l[k]? = some c) (h1 : c.t ≤ t) : ∀ {n : Nat}, k < n → (∀ j d, k < j → j < n → l[j]? = some d → t < d.t) → whTo l t n = some k := by
  intro n
  induction n with
  | zero => intro h; omega
  | succ n ih =>
    intro hk h
    by_cases e : k = n
    · subst e
      exact whTo_here hc h1
    · have hi := ih (by omega) (fun j d h2 h3 hd => h j d h2 (by omega) hd)
      rw [whTo]
      cases hd : l[n]? with
      | none => exact hi
      | some d =>
        dsimp only
        rw [if_neg (by have := h n d (by omega) (by omega) hd; omega)]
        exact hi
theorem whTo_no {l : List Cl} {t : Int} : ∀ {n : Nat}, (∀ j d, j < n → l[j]? = some d → t < d.t) → whTo l t n = none := by
  intro n
  induction n with
  | zero => intro _; rfl
  | succ n ih =>
    intro h
    have hi := ih (fun j d h2 hd => h j d (by omega) hd)
    rw [whTo]
    cases hd : l[n]? with
    | none => exact hi
    | some d =>
      dsimp only
      rw [if_neg (by have := h n d (by omega) hd; omega)]
      exact hi
/-- strictly later -/
theorem val_lt {l : List Cl} (h : valE l = 0) {i j : Nat} {a b : Cl} (hij : i < j) (ha : l[i]? = some a) (hb : l[j]? = some b) : a.t < b.t := by
  have hj := (List.getElem?_eq_some_iff.1 hb).1
  have hc := List.getElem?_eq_getElem (show j - 1 < l.length by omega)
  have h1 := val_incr h (show i ≤ j - 1 by omega) ha hc
  have h2 := (val_next h hc (by rw [show j - 1 + 1 = j by omega]; exact hb)).1
  omega
theorem at_here {l : List Cl} (h : valE l = 0) {k : Nat} {c : Cl} (hc : l[k]? = some c) : atB l c.t k = true := by
  have hk := (List.getElem?_eq_some_iff.1 hc).1
  have hw : whL l c.t = some k := whTo_at hc (by omega) hk (fun j d h2 _ hd => val_lt h h2 hc hd)
  unfold atB whB whK
  rw [hw]
  simp
theorem at_before {l : List Cl} (h : valE l = 0) {k : Nat} {c : Cl} (hc : l[k]? = some c) : atB l (c.t - 1) ((k : Int) - 1) = true := by
  have hk := (List.getElem?_eq_some_iff.1 hc).1
  cases k with
  | zero =>
    have hw : whL l (c.t - 1) = none := whTo_no (fun j d _ hd => by
      have := val_incr h (Nat.zero_le j) hc hd
      omega)
    unfold atB whB whK
    rw [hw]
    simp
    omega
  | succ k =>
    have hb := List.getElem?_eq_getElem (show k < l.length by omega)
    have hw : whL l (c.t - 1) = some k := whTo_at hb (by have := val_lt h (Nat.lt_succ_self k) hb hc; omega) (by omega) (fun j d h2 _ hd => by
      have := val_incr h (show k + 1 ≤ j by omega) hc hd
      omega)
    unfold atB whB whK
    rw [hw]
    simp
theorem wh_none {l : List Cl} {t : Int} (h : valE l = 0) (hw : whL l t = none) {c : Cl} (hc : l[0]? = some c) : t < c.t := by
  have : ∀ n, whTo l t n = none → ∀ j d, j < n → l[j]? = some d → t < d.t := by
    intro n
    induction n with
    | zero => intro _ j d hj; omega
    | succ n ih =>
      intro hn j d hj hd
      rw [whTo] at hn
      cases hc2 : l[n]? with
      | none =>
        rw [hc2] at hn
        by_cases e : j = n
        · rw [e, hc2] at hd; cases hd
        · exact ih hn j d (by omega) hd
      | some c2 =>
        rw [hc2] at hn
        dsimp only at hn
        split at hn
        · cases hn
        · by_cases e : j = n
          · rw [e, hc2] at hd; cases hd; omega
          · exact ih hn j d (by omega) hd
  exact this _ hw 0 c (by have := (List.getElem?_eq_some_iff.1 hc).1; omega) hc
theorem wh_some {l : List Cl} {t : Int} {k : Nat} (hw : whL l t = some k) : ∃ c, l[k]? = some c ∧ c.t ≤ t ∧ ∀ d, l[k + 1]? = some d → t < d.t := by
  have : ∀ n, whTo l t n = some k → ∃ c, l[k]? = some c ∧ c.t ≤ t ∧ (k < n ∧ ∀ j d, k < j → j < n → l[j]? = some d → t < d.t) := by
    intro n
    induction n with
    | zero => intro h; cases h
    | succ n ih =>
      intro hn
      rw [whTo] at hn
      cases hc2 : l[n]? with
      | none =>
        rw [hc2] at hn
        obtain ⟨c, q1, q2, q3, q4⟩ := ih hn
        exact ⟨c, q1, q2, by omega, fun j d h1 h2 hd => by
          by_cases e : j = n
          · rw [e, hc2] at hd; cases hd
          · exact q4 j d h1 (by omega) hd⟩
      | some c2 =>
        rw [hc2] at hn
        dsimp only at hn
        split at hn
        · cases hn
          exact ⟨c2, hc2, by assumption, by omega, fun j d h1 h2 => by omega⟩
        · obtain ⟨c, q1, q2, q3, q4⟩ := ih hn
          exact ⟨c, q1, q2, by omega, fun j d h1 h2 hd => by
            by_cases e : j = n
            · rw [e, hc2] at hd; cases hd; omega
            · exact q4 j d h1 (by omega) hd⟩
  obtain ⟨c, q1, q2, q3, q4⟩ := this _ hw
  exact ⟨c, q1, q2, fun d hd => q4 (k + 1) d (by omega) (List.getElem?_eq_some_iff.1 hd).1 hd⟩
/-- the limits -/
theorem lim_two {l : List Cl} {k : Nat} {a b : Cl} (ha : l[k]? = some a) (hb : l[k + 1]? = some b) : limI l k = lim1 (lim1 0 a.d) b.d := by
  have hk := (List.getElem?_eq_some_iff.1 hb).1
  unfold limI
  rw [if_pos ⟨by omega, by omega⟩, Int.toNat_natCast, ha, hb]
theorem lim_one {l : List Cl} {k : Nat} {a : Cl} (ha : l[k]? = some a) (hb : l[k + 1]? = none) : limI l k = lim1 0 a.d := by
  have hk := (List.getElem?_eq_some_iff.1 ha).1
  unfold limI
  rw [if_pos ⟨by omega, by omega⟩, Int.toNat_natCast, ha, hb]
theorem lim_out {l : List Cl} {n : Int} (h : ¬ (0 ≤ n ∧ n < l.length)) : limI l n = 0 := by unfold limI; rw [if_neg h]
end
section
open Go.RowKit Go.PlainAid
theorem delL_len (l : List Cl) (k b : Int) : (delL l k b).length = l.length := delTo_len (Nat.le_refl _)
theorem delL_get {l : List Cl} {k b : Int} {i : Nat} {c : Cl} (hc : l[i]? = some c) : (delL l k b)[i]? = some (later k b i c) := delTo_get (Nat.le_refl _) (List.getElem?_eq_some_iff.1 hc).1 hc
theorem later_p (k b : Int) (i : Nat) (c : Cl) : (later k b i c).p = c.p ∧ (later k b i c).d = c.d := by unfold later; split <;> exact ⟨rfl, rfl⟩
theorem later_t (k b : Int) (i : Nat) (c : Cl) : (later k b i c).t = if k ≤ i then c.t + b else c.t := by unfold later; split <;> rfl
theorem later_later (k b m : Int) (i : Nat) (c : Cl) : later k m i (later k b i c) = later k (b + m) i c := by
  unfold later
  split
  · simp only [Cl.mk.injEq, true_and, and_true]; omega
  · rfl
theorem later_zero (k : Int) (i : Nat) (c : Cl) : later k 0 i c = c := by
  unfold later
  split
  · simp
  · rfl
theorem list_ext {l m : List Cl} (hl : l.length = m.length) (h : ∀ (i : Nat) (c d : Cl), l[i]? = some c → m[i]? = some d → c = d) : l = m := by
  apply List.ext_getElem?
  intro i
  by_cases hi : i < l.length
  · have h1 := List.getElem?_eq_getElem hi
    have h2 := List.getElem?_eq_getElem (show i < m.length by omega)
    rw [h1, h2, h i _ _ h1 h2]
  · rw [List.getElem?_eq_none (by omega), List.getElem?_eq_none (by omega)]
theorem delL_two (l : List Cl) (k b m : Int) : delL (delL l k b) k m = delL l k (b + m) := by
  refine list_ext (by rw [delL_len, delL_len, delL_len]) fun i c d hc hd => ?_
  have hi := (List.getElem?_eq_some_iff.1 hd).1
  rw [delL_len] at hi
  have h0 := List.getElem?_eq_getElem hi
  rw [delL_get (delL_get h0)] at hc
  rw [delL_get h0] at hd
  cases hc
  cases hd
  exact later_later k b m i _
theorem delL_zero (l : List Cl) (k : Int) : delL l k 0 = l := by
  refine list_ext (delL_len _ _ _) fun i c d hc hd => ?_
  rw [delL_get hd] at hc
  cases hc
  exact later_zero k i d
/-- a right route stays one -/
theorem del_val {l : List Cl} {k b : Int} (h : valE l = 0) (hb : 0 ≤ b) (ht : ∀ c ∈ l, c.t + b ≤ 100000000) : valI (delL l k b) = -1 ∧ valE (delL l k b) = 0 := by
  obtain ⟨h1, h2, h3⟩ := val_ok h
  have hn := delL_len l k b
  have hbad : firstBad (delL l k b) = none := firstBad_none (fun j hj => by
    rw [hn] at hj
    have hc := List.getElem?_eq_getElem hj
    have hd := delL_get (k := k) (b := b) hc
    have hr := val_right h hc
    have hbd := rightC_bd hr
    have htj := ht _ (List.getElem_mem hj)
    unfold badAt
    rw [hd]
    dsimp only
    have hr2 : rightC (later k b j (l[j]'hj)) = true := by
      unfold rightC at hr ⊢
      rw [(later_p k b j _).1, (later_p k b j _).2, later_t]
      simp only [Bool.and_eq_true, decide_eq_true_eq] at hr ⊢
      refine ⟨⟨⟨⟨hr.1.1.1.1, ?_⟩, ?_⟩, hr.1.2⟩, hr.2⟩
      · split <;> omega
      · split <;> omega
    rw [hr2]
    cases j with
    | zero => rfl
    | succ j =>
      have hc0 := List.getElem?_eq_getElem (show j < l.length by omega)
      have hd0 := delL_get (k := k) (b := b) hc0
      obtain ⟨q1, q2⟩ := val_next h hc0 hc
      dsimp only
      rw [hd0]
      dsimp only
      rw [(later_p k b _ _).1, (later_p k b _ _).1, q2, later_t, later_t]
      simp
      (repeat' split) <;> omega)
  unfold valI valE
  rw [if_neg (by omega), if_neg (by omega), if_neg (by omega), hbad]
  exact ⟨rfl, rfl⟩
theorem del_ok {l : List Cl} {k b : Int} (h : valE l = 0) (hk : 0 ≤ k ∧ k < l.length) (hb : 0 ≤ b) (ht : ∀ c ∈ l, c.t + b ≤ 100000000) : delE l k b = 0 := by
  obtain ⟨h1, _, _⟩ := val_ok h
  refine delE_ok h (by omega) ?_
  have hc := List.getElem?_eq_getElem (show l.length - 1 < l.length by omega)
  rw [lastT_eq hc]
  have := ht _ (List.getElem_mem (show l.length - 1 < l.length by omega))
  omega
/-- the first bad call -/
theorem bad_at {l : List Cl} {k : Nat} (h2 : 2 ≤ l.length) (h20 : l.length ≤ 20) (hk : k < l.length) (hb : badAt l k = true) (h : ∀ j, j < k → badAt l j = false) : valI l = k ∧ valE l = 200 := by
  have hf := firstBad_at hk hb h
  unfold valI valE
  rw [if_neg (by omega), if_neg (by omega), if_neg (by omega), hf]
  exact ⟨rfl, rfl⟩
/-- one call is another one: those ahead of it are as they were -/
theorem bad_set {l : List Cl} {k : Nat} {c : Cl} (h : valE l = 0) (hk : k < l.length) : ∀ j, j < k → badAt (l.set k c) j = false := by
  intro j hj
  have h3 := (val_ok h).2.2 j (by omega)
  unfold badAt at h3 ⊢
  rw [List.getElem?_set_ne (by omega)]
  cases j with
  | zero => exact h3
  | succ j => dsimp only at h3 ⊢; rw [List.getElem?_set_ne (by omega)]; exact h3
theorem bad_not {l : List Cl} {k : Nat} {c : Cl} (hk : k < l.length) (hr : rightC c = false) : badAt (l.set k c) k = true := by
  unfold badAt
  rw [List.getElem?_set_self hk]
  dsimp only
  rw [hr]
  rfl
theorem bad_late {l : List Cl} {k : Nat} {b c : Cl} (hk : k + 1 < l.length) (hb : l[k]? = some b) (h : c.t ≤ b.t ∨ c.p = b.p) : badAt (l.set (k + 1) c) (k + 1) = true := by
  unfold badAt
  rw [List.getElem?_set_self hk]
  dsimp only
  rw [List.getElem?_set_ne (by omega), hb]
  dsimp only
  rcases h with h | h
  · rw [decide_eq_true h]; simp
  · rw [h]; simp
/-- the first call at a port from an index on -/
theorem fi_find {l : List Cl} {p : ByteArray} {k : Nat} (hk : isAt l p k = true) : ∀ {n i : Nat}, i ≤ k → k < i + n → (∀ j, i ≤ j → j < k → isAt l p j = false) → fiFrom l p i n = some k := by
  intro n
  induction n with
  | zero => intro i h1 h2; omega
  | succ n ih =>
    intro i h1 h2 h
    rw [fiFrom]
    by_cases e : i = k
    · rw [e, hk]; rfl
    · rw [h i (Nat.le_refl _) (by omega)]
      exact ih (by omega) (by omega) (fun j h3 h4 => h j (by omega) h4)
theorem fi_not {l : List Cl} {p : ByteArray} : ∀ {n i : Nat}, (∀ j, i ≤ j → j < i + n → isAt l p j = false) → fiFrom l p i n = none := by
  intro n
  induction n with
  | zero => intro i _; rfl
  | succ n ih =>
    intro i h
    rw [fiFrom, h i (Nat.le_refl _) (by omega)]
    exact ih (fun j h3 h4 => h j (by omega) (by omega))
theorem find_at {l : List Cl} {p : ByteArray} {k i : Nat} (hk : isAt l p k = true) (h1 : i ≤ k) (h2 : k < l.length) (h : ∀ j, i ≤ j → j < k → isAt l p j = false) : fiK l p i = k ∧ fiB l p i = true := by
  have e : fiL l p i = some k := by
    unfold fiL
    rw [if_pos ⟨by omega, by omega⟩, Int.toNat_natCast]
    exact fi_find hk h1 (by omega) h
  unfold fiK fiB
  rw [e]
  exact ⟨rfl, rfl⟩
theorem find_no {l : List Cl} {p : ByteArray} {i : Nat} (h1 : i ≤ l.length) (h : ∀ j, i ≤ j → j < l.length → isAt l p j = false) : fiK l p i = 0 ∧ fiB l p i = false := by
  have e : fiL l p i = none := by
    unfold fiL
    rw [if_pos ⟨by omega, by omega⟩, Int.toNat_natCast]
    exact fi_not (fun j h2 h3 => h j h2 (by omega))
  unfold fiK fiB
  rw [e]
  exact ⟨rfl, rfl⟩
def zzz : ByteArray := ⟨#[90, 90, 90, 90, 90]⟩
theorem mP_head (h : Hop) : (mP h).data.toList.head? = some 65 := rfl
theorem last_ab (x : List Hop) : ∀ n, (lastTo x n).p.data.toList.head? = some 65 ∨ (lastTo x n).p.data.toList.head? = some 66 := by
  intro n
  induction n with
  | zero => exact .inr rfl
  | succ n ih =>
    rw [lastTo]
    cases x[n]? with
    | none => exact ih
    | some h =>
      unfold mNext
      dsimp only
      split
      · exact .inr rfl
      · exact .inl (mP_head h)
theorem made_ab (x : List Hop) : ∀ n, ∀ c ∈ madeTo x n, c.p.data.toList.head? = some 65 ∨ c.p.data.toList.head? = some 66 := by
  intro n
  induction n with
  | zero =>
    intro c hc
    simp [madeTo] at hc
    rcases hc with rfl | rfl
    · exact .inl rfl
    · exact .inr rfl
  | succ n ih =>
    intro c hc
    cases hx : x[n]? with
    | none => rw [madeTo, hx] at hc; exact ih c hc
    | some h =>
      rw [madeTo_at hx, List.mem_append] at hc
      rcases hc with hc | hc
      · exact ih c hc
      · simp at hc
        rw [hc, ← lastTo_at hx]
        exact last_ab x (n + 1)
theorem made_zzz (x : List Hop) (j : Nat) : isAt (madeL x) zzz j = false := by
  unfold isAt
  cases h : (madeL x)[j]? with
  | none => rfl
  | some c =>
    have := made_ab x _ c (List.mem_of_getElem? h)
    dsimp only
    rw [beq_eq_false_iff_ne]
    intro e
    rw [e] at this
    simp [zzz] at this
end
end Go.Proofs.YtbpklalkoocneaaDoor
