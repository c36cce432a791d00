/-
  What two lists of spans have in common. No program in sight.
-/
import Derived.Test.YtodecgpjidlldaaDoorCPlain2
set_option linter.unusedSimpArgs false
set_option linter.unusedVariables false
namespace Go.Proofs.YtodecgpjidlldaaDoor
open Go.RowKit Go.PlainAid
def pc (s r : Sp) : List Sp := if max s.f r.f < min s.t r.t then [⟨max s.f r.f, min s.t r.t⟩] else []
def rowTo (s : Sp) (b : List Sp) : Nat → List Sp
  | 0 => []
  | n + 1 => rowTo s b n ++ (match b[n]? with
    | none => []
    | some r => pc s r)
def bothTo (a b : List Sp) : Nat → List Sp
  | 0 => []
  | n + 1 => bothTo a b n ++ (match a[n]? with
    | none => []
    | some s => rowTo s b b.length)
def bothL (a b : List Sp) : List Sp := bothTo a b a.length
theorem pc_mem {s r z : Sp} (h : z ∈ pc s r) : z.t ≤ s.t ∧ z.t ≤ r.t := by
  unfold pc at h
  split at h
  · simp at h
    subst h
    dsimp only
    omega
  · cases h
theorem rowTo_mem {s : Sp} {b : List Sp} {n : Nat} {z : Sp} (h : z ∈ rowTo s b n) : z.t ≤ s.t ∧ ∃ (j : Nat) (r : Sp), j < n ∧ b[j]? = some r ∧ z.t ≤ r.t := by
  induction n with
  | zero => cases h
  | succ n ih =>
    rw [rowTo, List.mem_append] at h
    rcases h with h | h
    · obtain ⟨h1, j, r, h2, h3⟩ := ih h
      exact ⟨h1, j, r, by omega, h3⟩
    · cases hb : b[n]? with
      | none => rw [hb] at h; cases h
      | some r =>
        rw [hb] at h
        have := pc_mem h
        exact ⟨this.1, n, r, by omega, hb, this.2⟩
theorem bothTo_mem {a b : List Sp} {n : Nat} {z : Sp} (h : z ∈ bothTo a b n) : ∃ (j : Nat) (s : Sp), j < n ∧ a[j]? = some s ∧ z.t ≤ s.t := by
  induction n with
  | zero => cases h
  | succ n ih =>
    rw [bothTo, List.mem_append] at h
    rcases h with h | h
    · obtain ⟨j, r, h2, h3⟩ := ih h
      exact ⟨j, r, by omega, h3⟩
    · cases ha : a[n]? with
      | none => rw [ha] at h; cases h
      | some s =>
        rw [ha] at h
        exact ⟨n, s, by omega, ha, (rowTo_mem h).1⟩
/-- spans that end ahead of the first one's begin, and that begin behind its end, have nothing in common with it -/
theorem rowTo_skip {s : Sp} {b : List Sp} {i : Nat} (h : Bh b s.f i) : ∀ n, n ≤ i → rowTo s b n = [] := by
  intro n
  induction n with
  | zero => intro _; rfl
  | succ n ih =>
    intro hn
    rw [rowTo, ih (by omega)]
    cases hb : b[n]? with
    | none => rfl
    | some r =>
      have := h.lo n r (by omega) hb
      dsimp only
      unfold pc
      rw [if_neg (by omega)]
      rfl
theorem rowTo_rest {s : Sp} {b : List Sp} (h : okTo b b.length = true) {k : Nat} {r : Sp} (hr : b[k]? = some r) (hs : s.t ≤ r.f) : ∀ d, rowTo s b (k + d) = rowTo s b k := by
  intro d
  induction d with
  | zero => rfl
  | succ d ih =>
    rw [← Nat.add_assoc, rowTo, ih]
    cases hb : b[k + d]? with
    | none => simp
    | some q =>
      have hq : s.t ≤ q.f := by
        by_cases e : d = 0
        · subst e
          rw [Nat.add_zero, hr] at hb
          cases hb
          exact hs
        · have h1 := ok_lt h hr hb (by omega)
          have h2 := ok_own h hr
          omega
      dsimp only
      unfold pc
      rw [if_neg (by omega)]
      simp
theorem addS_app {l : List Sp} {a b : Int} (h : ∀ z ∈ l, z.t ≠ a) (hab : a < b) : addS l a b = l ++ [⟨a, b⟩] := by
  unfold addS
  rw [if_pos hab]
  cases hl : l.getLast? with
  | none =>
    rw [List.getLast?_eq_none_iff] at hl
    subst hl
    rfl
  | some s =>
    dsimp only
    rw [if_neg (h s (List.mem_of_getLast? hl))]
/-- one piece more -/
theorem both_add {a b : List Sp} (ha : okTo a a.length = true) (hb : okTo b b.length = true) {n k : Nat} {s r : Sp} (hs : a[n]? = some s) (hr : b[k]? = some r) :
    addS (bothTo a b n ++ rowTo s b k) (max r.f s.f) (min r.t s.t) = bothTo a b n ++ rowTo s b (k + 1) := by
  rw [rowTo, hr]
  dsimp only
  unfold pc
  rw [Int.max_comm r.f s.f, Int.min_comm r.t s.t]
  by_cases e : max s.f r.f < min s.t r.t
  · rw [if_pos e, addS_app (fun z hz => ?_) e, List.append_assoc]
    rw [List.mem_append] at hz
    rcases hz with hz | hz
    · obtain ⟨j, q, h1, h2, h3⟩ := bothTo_mem hz
      have := ok_lt ha h2 hs h1
      omega
    · obtain ⟨_, j, q, h1, h2, h3⟩ := rowTo_mem hz
      have := ok_lt hb h2 hr h1
      omega
  · rw [if_neg e, addS_no e, List.append_nil]
end Go.Proofs.YtodecgpjidlldaaDoor
