/-
  Plain functions of the chapter: spans, lists of them, what is told time by time. No program in sight.
-/
import Derived.RowKit3
import Derived.PlainAid
set_option linter.unusedSimpArgs false
set_option linter.unusedVariables false
namespace Go.Proofs.YtodecgpjidlldaaDoor
open Go.RowKit Go.PlainAid
structure Sp where
  f : Int
  t : Int
def sC (s : Sp) : List Value := [.int .i64 s.f, .int .i64 s.t]
def sps (l : List Sp) : List Value := l.flatMap sC
theorem sps_len (l : List Sp) : (sps l).length = l.length * 2 := by
  unfold sps
  induction l with
  | nil => rfl
  | cons c l ih => rw [List.flatMap_cons, List.length_append, ih, List.length_cons]; simp [sC]; omega
theorem sps_app (a b : List Sp) : sps (a ++ b) = sps a ++ sps b := by unfold sps; rw [List.flatMap_append]
theorem sps_cons (c : Sp) (b : List Sp) : sps (c :: b) = sC c ++ sps b := by unfold sps; rw [List.flatMap_cons]
theorem sps_get {l : List Sp} {k : Nat} {c : Sp} (h : l[k]? = some c) : (sps l)[k * 2]? = some (.int .i64 c.f) ∧ (sps l)[k * 2 + 1]? = some (.int .i64 c.t) := by
  induction l generalizing k with
  | nil => simp at h
  | cons x l ih =>
    rw [sps_cons]
    cases k with
    | zero => simp at h; subst h; simp [sC]
    | succ k =>
      have := ih (by simpa using h)
      have e : (k + 1) * 2 = 2 + k * 2 := by omega
      have hl : (sC x).length = 2 := rfl
      rw [e]
      refine ⟨?_, ?_⟩
      · rw [List.getElem?_append_right (by rw [hl]; omega), hl, Nat.add_sub_cancel_left]; exact this.1
      · rw [Nat.add_assoc, List.getElem?_append_right (by rw [hl]; omega), hl, Nat.add_sub_cancel_left]; exact this.2
/-- a span that is right where it stands -/
def okAt (l : List Sp) (i : Nat) : Bool := match l[i]? with
  | none => true
  | some s => decide (0 ≤ s.f) && decide (s.f < s.t) && decide (s.t ≤ 100000000) && (match i with
    | 0 => true
    | j + 1 => match l[j]? with
      | none => true
      | some r => decide (r.t < s.f))
def okTo (l : List Sp) (n : Nat) : Bool := (List.range n).all (okAt l)
theorem okTo_succ (l : List Sp) (n : Nat) : okTo l (n + 1) = (okTo l n && okAt l n) := by unfold okTo; simp [List.range_succ]
theorem okTo_at {l : List Sp} {n i : Nat} (h : okTo l n = true) (hi : i < n) : okAt l i = true := by
  unfold okTo at h
  rw [List.all_eq_true] at h
  exact h i (by simpa using hi)
def apart (l : List Sp) : Bool := okTo l l.length && decide (l.length ≤ 1000)
theorem ok_own {l : List Sp} (h : okTo l l.length = true) {i : Nat} {a : Sp} (ha : l[i]? = some a) : 0 ≤ a.f ∧ a.f < a.t ∧ a.t ≤ 100000000 := by
  have hi := (List.getElem?_eq_some_iff.1 ha).1
  have := okTo_at h hi
  unfold okAt at this
  rw [ha] at this
  simp only [Bool.and_eq_true, decide_eq_true_eq] at this
  exact ⟨this.1.1.1, this.1.1.2, this.1.2⟩
theorem ok_next {l : List Sp} (h : okTo l l.length = true) {i : Nat} {a b : Sp} (ha : l[i]? = some a) (hb : l[i + 1]? = some b) : a.t < b.f := by
  have hi := (List.getElem?_eq_some_iff.1 hb).1
  have := okTo_at h hi
  unfold okAt at this
  rw [hb] at this
  dsimp only at this
  rw [ha] at this
  simp only [Bool.and_eq_true, decide_eq_true_eq] at this
  exact this.2
theorem ok_lt {l : List Sp} (h : okTo l l.length = true) {i j : Nat} {a b : Sp} (ha : l[i]? = some a) (hb : l[j]? = some b) (hij : i < j) : a.t < b.f := by
  obtain ⟨d, rfl⟩ : ∃ d, j = i + 1 + d := ⟨j - i - 1, by omega⟩
  clear hij
  induction d generalizing b with
  | zero => exact ok_next h ha hb
  | succ d ih =>
    have hj := (List.getElem?_eq_some_iff.1 hb).1
    have hc := List.getElem?_eq_getElem (show i + 1 + d < l.length by omega)
    have h1 := ih hc
    have h2 := ok_own h hc
    have h3 := ok_next h hc (by rw [← hb]; rfl)
    omega
/-- one time more behind spans, one span more -/
def addT (l : List Sp) (x : Int) : List Sp := match l.getLast? with
  | none => [⟨x, x + 1⟩]
  | some s => if s.t = x then l.dropLast ++ [⟨s.f, x + 1⟩] else l ++ [⟨x, x + 1⟩]
def addS (l : List Sp) (a b : Int) : List Sp := if a < b then (match l.getLast? with
  | none => [⟨a, b⟩]
  | some s => if s.t = a then l.dropLast ++ [⟨s.f, b⟩] else l ++ [⟨a, b⟩]) else l
theorem addS_no {l : List Sp} {a b : Int} (h : ¬ a < b) : addS l a b = l := if_neg h
theorem addS_one (l : List Sp) (a : Int) : addT l a = addS l a (a + 1) := by
  unfold addS addT
  rw [if_pos (by omega)]
theorem addS_last (l : List Sp) {a b : Int} (h : a < b) : ∃ m s, addS l a b = m ++ [s] ∧ s.t = b ∧ ∀ c, b < c → addS l a c = m ++ [⟨s.f, c⟩] := by
  unfold addS
  rw [if_pos h]
  cases hl : l.getLast? with
  | none => exact ⟨[], ⟨a, b⟩, rfl, rfl, fun c hc => by rw [if_pos (by omega)]; rfl⟩
  | some s =>
    dsimp only
    by_cases e : s.t = a
    · rw [if_pos e]
      exact ⟨l.dropLast, ⟨s.f, b⟩, rfl, rfl, fun c hc => by rw [if_pos (by omega), if_pos e]⟩
    · rw [if_neg e]
      exact ⟨l, ⟨a, b⟩, rfl, rfl, fun c hc => by rw [if_pos (by omega), if_neg e]⟩
theorem addT_addS (l : List Sp) {a b : Int} (h : a ≤ b) : addT (addS l a b) b = addS l a (b + 1) := by
  by_cases e : a = b
  · subst e
    rw [addS_no (by omega), addS_one]
  · obtain ⟨m, s, h1, h2, h3⟩ := addS_last l (show a < b by omega)
    rw [h1, h3 (b + 1) (by omega)]
    unfold addT
    rw [List.getLast?_concat, List.dropLast_concat]
    dsimp only
    rw [if_pos h2]
/-- the times at which something is so, n of them from x on, as spans -/
def runs (p : Int → Bool) (x : Int) : Nat → List Sp
  | 0 => []
  | n + 1 => if p (x + n) then addT (runs p x n) (x + n) else runs p x n
theorem runs_no {p : Int → Bool} {x : Int} {n : Nat} : ∀ {d : Nat}, (∀ y : Int, x + n ≤ y → y < x + (n + d : Nat) → p y = false) → runs p x (n + d) = runs p x n := by
  intro d
  induction d with
  | zero => intro _; rfl
  | succ d ih =>
    intro h
    rw [← Nat.add_assoc, runs, h (x + (n + d : Nat)) (by omega) (by omega)]
    exact ih (fun y h1 h2 => h y h1 (by omega))
theorem runs_yes {p : Int → Bool} {x : Int} {n : Nat} : ∀ {d : Nat}, (∀ y : Int, x + n ≤ y → y < x + (n + d : Nat) → p y = true) → runs p x (n + d) = addS (runs p x n) (x + n) (x + (n + d : Nat)) := by
  intro d
  induction d with
  | zero => intro _; rw [addS_no (by omega)]; rfl
  | succ d ih =>
    intro h
    rw [← Nat.add_assoc, runs, h (x + (n + d : Nat)) (by omega) (by omega), if_pos rfl, ih (fun y h1 h2 => h y h1 (by omega)), addT_addS _ (by omega)]
    congr 1
    omega
/-- what is told as one span: not so from n on, so from n + d on -/
theorem runs_step {p : Int → Bool} {x : Int} {n d e : Nat} (h0 : ∀ y : Int, x + n ≤ y → y < x + (n + d : Nat) → p y = false) (h1 : ∀ y : Int, x + (n + d : Nat) ≤ y → y < x + (n + d + e : Nat) → p y = true) : runs p x (n + d + e) = addS (runs p x n) (x + (n + d : Nat)) (x + (n + d + e : Nat)) := by
  rw [runs_yes h1, runs_no h0]
theorem addT_len (l : List Sp) (x : Int) : l.length ≤ (addT l x).length := by
  unfold addT
  cases hl : l.getLast? with
  | none =>
    rw [List.getLast?_eq_none_iff] at hl
    subst hl
    exact Nat.zero_le _
  | some s =>
    dsimp only
    split
    · rw [List.length_append, List.length_dropLast]
      simp only [List.length_cons, List.length_nil]
      omega
    · rw [List.length_append]
      omega
theorem runs_len (p : Int → Bool) (x : Int) (n : Nat) : ∀ d : Nat, (runs p x n).length ≤ (runs p x (n + d)).length := by
  intro d
  induction d with
  | zero => exact Nat.le_refl _
  | succ d ih =>
    rw [← Nat.add_assoc, runs]
    split
    · exact Nat.le_trans ih (addT_len _ _)
    · exact ih
/-- a high water, told in two ways -/
theorem high_two {k num den : Int} (hd : 0 < den) : k * num / den = k / den * num + k % den * num / den := by
  have h : k * num = k % den * num + k / den * num * den := by
    have h1 := Int.emod_add_mul_ediv k den
    calc k * num = (k % den + den * (k / den)) * num := by rw [h1]
      _ = k % den * num + k / den * num * den := by
        rw [Int.add_mul, Int.mul_comm den, Int.mul_assoc, Int.mul_assoc, Int.mul_comm den]
  rw [h, Int.add_mul_ediv_right _ _ (by omega), Int.add_comm]
end Go.Proofs.YtodecgpjidlldaaDoor
