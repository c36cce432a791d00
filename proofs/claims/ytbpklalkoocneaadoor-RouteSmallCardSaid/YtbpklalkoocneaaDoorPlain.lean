/-
  Plain functions of the chapter: calls, routes. No program in sight.
-/
import Derived.RowKit3
import Derived.PlainAid
import Derived.Test.YtbpklalkoocneaaDoorWords
set_option linter.unusedSimpArgs false
set_option linter.unusedVariables false
namespace Go.Proofs.YtbpklalkoocneaaDoor
open Go.RowKit Go.PlainAid
structure Cl where
  p : ByteArray
  t : Int
  d : Int
def cC (c : Cl) : List Value := [.string c.p, .int .i64 c.t, .int .i64 c.d]
def cells (l : List Cl) : List Value := l.flatMap cC
theorem cells_len (l : List Cl) : (cells l).length = l.length * 3 := by
  unfold cells
  induction l with
  | nil => rfl
  | cons c l ih => rw [List.flatMap_cons, List.length_append, ih, List.length_cons]; simp [cC]; omega
theorem cells_get {l : List Cl} {k : Nat} {c : Cl} (h : l[k]? = some c) : (cells l)[k * 3]? = some (.string c.p) ∧ (cells l)[k * 3 + 1]? = some (.int .i64 c.t) ∧ (cells l)[k * 3 + 2]? = some (.int .i64 c.d) := by
  unfold cells
  induction l generalizing k with
  | nil => simp at h
  | cons x l ih =>
    rw [List.flatMap_cons]
    cases k with
    | zero => simp at h; subst h; simp [cC]
    | succ k =>
      have := ih (by simpa using h)
      have e : (k + 1) * 3 = 3 + k * 3 := by omega
      rw [e]
      have hl : (cC x).length = 3 := rfl
      refine ⟨?_, ?_, ?_⟩
      · rw [List.getElem?_append_right (by rw [hl]; omega), hl, Nat.add_sub_cancel_left]; exact this.1
      · rw [Nat.add_assoc, List.getElem?_append_right (by rw [hl]; omega), hl, Nat.add_sub_cancel_left]; exact this.2.1
      · rw [Nat.add_assoc, List.getElem?_append_right (by rw [hl]; omega), hl, Nat.add_sub_cancel_left]; exact this.2.2
/-- all bytes from one on are capital letters -/
def upTo (s : ByteArray) (k : Nat) : Bool := (List.range k).all fun i => decide (65 ≤ bt s i) && decide (bt s i ≤ 90)
theorem upTo_succ (s : ByteArray) (k : Nat) : upTo s (k + 1) = (upTo s k && (decide (65 ≤ bt s k) && decide (bt s k ≤ 90))) := by unfold upTo; simp [List.range_succ]
def upB (s : ByteArray) : Bool := upTo s s.size
def rightC (c : Cl) : Bool := decide (c.p.size = 5) && upB c.p && decide (0 ≤ c.t) && decide (c.t ≤ 100000000) && decide (0 ≤ c.d) && decide (c.d ≤ 500000)
/-- whether a call is not right where it stands -/
def badAt (l : List Cl) (i : Nat) : Bool := match l[i]? with
  | none => false
  | some c => !rightC c || (match i with
    | 0 => false
    | j + 1 => match l[j]? with
      | none => false
      | some b => decide (c.t ≤ b.t) || c.p == b.p)
def firstBad (l : List Cl) : Option Nat := (List.range l.length).find? (badAt l)
theorem firstBad_at {l : List Cl} {k : Nat} (hk : k < l.length) (hb : badAt l k = true) (h : ∀ j, j < k → badAt l j = false) : firstBad l = some k := by
  unfold firstBad
  rw [List.find?_eq_some_iff_getElem]
  refine ⟨hb, k, by simpa using hk, by simp, fun j hj => ?_⟩
  simp [h j hj]
theorem firstBad_none {l : List Cl} (h : ∀ j, j < l.length → badAt l j = false) : firstBad l = none := by
  unfold firstBad
  rw [List.find?_eq_none]
  intro j hj
  simp [h j (by simpa using hj)]
def valI (l : List Cl) : Int := if l.length < 2 ∨ 20 < l.length then -1 else match firstBad l with
  | some k => k
  | none => -1
def valE (l : List Cl) : Int := if l.length < 2 then 2 else if 20 < l.length then 5 else match firstBad l with
  | some _ => 200
  | none => 0
/-- what a call leaves of a limit -/
def lim1 (o d : Int) : Int := if 0 < d ∧ (o = 0 ∨ d < o) then d else o
def limI (l : List Cl) (k : Int) : Int := if 0 ≤ k ∧ k < l.length then (match l[k.toNat]? with
  | none => 0
  | some a => match l[k.toNat + 1]? with
    | none => lim1 0 a.d
    | some b => lim1 (lim1 0 a.d) b.d) else 0
/-- the last call whose time has come, of the first n -/
def whTo (l : List Cl) (t : Int) : Nat → Option Nat
  | 0 => none
  | k + 1 => match l[k]? with
    | none => whTo l t k
    | some c => if c.t ≤ t then some k else whTo l t k
def whL (l : List Cl) (t : Int) : Option Nat := whTo l t l.length
theorem whTo_lt {l : List Cl} {t : Int} {n k : Nat} (h : whTo l t n = some k) : k < n := by
  induction n with
  | zero => cases h
  | succ n ih =>
    unfold whTo at h
    split at h
    · have := ih h; omega
    · split at h
      · cases h; omega
      · have := ih h; omega
theorem whTo_here {l : List Cl} {t : Int} {k : Nat} {c : Cl} (hc : l[k]? = some c) (h : c.t ≤ t) : whTo l t (k + 1) = some k := by unfold whTo; simp [hc, h]
theorem whTo_past {l : List Cl} {t : Int} {k : Nat} {c : Cl} (hc : l[k]? = some c) (h : ¬ c.t ≤ t) : whTo l t (k + 1) = whTo l t k := by rw [whTo]; simp [hc, h]
/-- the first call at a port, from an index on -/
def isAt (l : List Cl) (p : ByteArray) (i : Nat) : Bool := match l[i]? with
  | none => false
  | some c => c.p == p
def fiFrom (l : List Cl) (p : ByteArray) : Nat → Nat → Option Nat
  | _, 0 => none
  | i, n + 1 => if isAt l p i then some i else fiFrom l p (i + 1) n
def fiL (l : List Cl) (p : ByteArray) (k : Int) : Option Nat := if 0 ≤ k ∧ k ≤ l.length then fiFrom l p k.toNat (l.length - k.toNat) else none
theorem fiFrom_ge {l : List Cl} {p : ByteArray} {i n k : Nat} (h : fiFrom l p i n = some k) : i ≤ k ∧ k < i + n := by
  induction n generalizing i with
  | zero => cases h
  | succ n ih =>
    unfold fiFrom at h
    split at h
    · cases h; omega
    · have := ih h; omega
/-- the legs of the first calls -/
def legAt (l : List Cl) (i : Nat) : List Value := match l[i]?, l[i + 1]? with
  | some a, some b => [.string a.p, .string b.p, .int .i64 (b.t - a.t)]
  | _, _ => []
def legTo (l : List Cl) : Nat → List Value
  | 0 => []
  | k + 1 => legTo l k ++ legAt l k
theorem legAt_some {l : List Cl} {i : Nat} {a b : Cl} (ha : l[i]? = some a) (hb : l[i + 1]? = some b) : legAt l i = [.string a.p, .string b.p, .int .i64 (b.t - a.t)] := by unfold legAt; rw [ha, hb]
/-- a route that is later from a call on -/
def later (k : Int) (by_ : Int) (i : Nat) (c : Cl) : Cl := if k ≤ i then { c with t := c.t + by_ } else c
def delTo (l : List Cl) (k by_ : Int) : Nat → List Cl
  | 0 => []
  | n + 1 => delTo l k by_ n ++ (match l[n]? with
    | none => []
    | some c => [later k by_ n c])
def delL (l : List Cl) (k by_ : Int) : List Cl := delTo l k by_ l.length
def lastT (l : List Cl) : Int := match l[l.length - 1]? with
  | none => 0
  | some c => c.t
def delE (l : List Cl) (k by_ : Int) : Int := if valE l ≠ 0 then 200 else if k < 0 ∨ (l.length : Int) ≤ k ∨ by_ < 0 then 2 else if 100000000 - lastT l < by_ then 4 else 0
theorem delTo_len {l : List Cl} {k by_ : Int} {n : Nat} (h : n ≤ l.length) : (delTo l k by_ n).length = n := by
  induction n with
  | zero => rfl
  | succ n ih =>
    rw [delTo, List.length_append, ih (by omega), List.getElem?_eq_getElem (by omega)]
    rfl
theorem delTo_get {l : List Cl} {k by_ : Int} {n i : Nat} {c : Cl} (h : n ≤ l.length) (hi : i < n) (hc : l[i]? = some c) : (delTo l k by_ n)[i]? = some (later k by_ i c) := by
  induction n with
  | zero => omega
  | succ n ih =>
    rw [delTo]
    have hl := delTo_len (k := k) (by_ := by_) (show n ≤ l.length by omega)
    by_cases e : i < n
    · rw [List.getElem?_append_left (by omega)]
      exact ih (by omega) e
    · obtain rfl : i = n := by omega
      rw [List.getElem?_append_right (by omega), hl, Nat.sub_self, hc]
      rfl
/-- what a right route is -/
theorem val_ok {l : List Cl} (h : valE l = 0) : 2 ≤ l.length ∧ l.length ≤ 20 ∧ ∀ i, i < l.length → badAt l i = false := by
  unfold valE at h
  split at h
  · omega
  · split at h
    · omega
    · split at h
      · omega
      · rename_i h1 h2 h3
        refine ⟨by omega, by omega, fun i hi => ?_⟩
        unfold firstBad at h3
        rw [List.find?_eq_none] at h3
        simpa using h3 i (by simpa using hi)
theorem val_right {l : List Cl} (h : valE l = 0) {i : Nat} {c : Cl} (hc : l[i]? = some c) : rightC c = true := by
  have hi := (List.getElem?_eq_some_iff.1 hc).1
  have := (val_ok h).2.2 i hi
  unfold badAt at this
  rw [hc] at this
  simp at this
  exact this.1
theorem val_next {l : List Cl} (h : valE l = 0) {i : Nat} {a b : Cl} (ha : l[i]? = some a) (hb : l[i + 1]? = some b) : a.t < b.t ∧ (b.p == a.p) = false := by
  have hi := (List.getElem?_eq_some_iff.1 hb).1
  have := (val_ok h).2.2 (i + 1) hi
  unfold badAt at this
  rw [hb] at this
  dsimp only at this
  rw [ha] at this
  simp at this
  exact ⟨by omega, this.2.2⟩
theorem val_incr {l : List Cl} (h : valE l = 0) {i j : Nat} {a b : Cl} (hij : i ≤ j) (ha : l[i]? = some a) (hb : l[j]? = some b) : a.t ≤ b.t := by
  induction j generalizing b with
  | zero =>
    obtain rfl : i = 0 := by omega
    rw [ha] at hb; cases hb; omega
  | succ j ih =>
    by_cases e : i = j + 1
    · subst e; rw [ha] at hb; cases hb; omega
    · have hj := (List.getElem?_eq_some_iff.1 hb).1
      have hc := List.getElem?_eq_getElem (show j < l.length by omega)
      have h1 := ih (by omega) hc
      have h2 := (val_next h hc hb).1
      omega
theorem rightC_bd {c : Cl} (h : rightC c = true) : 0 ≤ c.t ∧ c.t ≤ 100000000 ∧ 0 ≤ c.d ∧ c.d ≤ 500000 := by
  unfold rightC at h
  simp at h
  omega
end Go.Proofs.YtbpklalkoocneaaDoor
