/-
  How Read goes on: runs over lists that are joined; where an error is; the law LexBegins, plain.
-/
import Derived.Test.YtdohcglpcgahaaaDoorRY
set_option linter.unusedSimpArgs false
set_option linter.unusedVariables false
namespace Go.Proofs.YtdohcglpcgahaaaDoor
open Go Sat Go.RowKit Go.PlainAid
/-- the state behind a list of bytes -/
def runS : List UInt8 → Nat → Rd → Step
  | [], _, r => .ok r
  | b :: l, i, r => match stepE r i b.toNat with
    | .error e => .error e
    | .ok r' => runS l (i + 1) r'
theorem runS_append : ∀ (l m : List UInt8) (i : Nat) (r : Rd), runS (l ++ m) i r = match runS l i r with
    | .error e => .error e
    | .ok r' => runS m (i + l.length) r'
  | [], m, i, r => rfl
  | b :: l, m, i, r => by
    simp only [List.cons_append, runS, List.length_cons]
    cases stepE r i b.toNat with
    | error e => rfl
    | ok r' =>
      dsimp only
      rw [runS_append l m (i + 1) r', show i + 1 + l.length = i + (l.length + 1) from by omega]
theorem runE_append : ∀ (l m : List UInt8) (i : Nat) (r : Rd), runE (l ++ m) i r = match runS l i r with
    | .error e => ([], e.1, e.2)
    | .ok r' => runE m (i + l.length) r'
  | [], m, i, r => rfl
  | b :: l, m, i, r => by
    simp only [List.cons_append, runS, runE, List.length_cons]
    cases stepE r i b.toNat with
    | error e => rfl
    | ok r' =>
      dsimp only
      rw [runE_append l m (i + 1) r', show i + 1 + l.length = i + (l.length + 1) from by omega]
theorem runE_eq (l : List UInt8) (i : Nat) (r : Rd) : runE l i r = match runS l i r with
    | .error e => ([], e.1, e.2)
    | .ok r' => finE r' ((i + l.length : Nat) : Int) := by
  have := runE_append l [] i r
  rw [List.append_nil] at this
  rw [this]
  rfl
theorem keepE_mode {r r' : Rd} {p c : Int} (h : keepE r p c = .ok r') : r'.mode = 1 := by
  unfold keepE at h
  split at h
  · cases h
  · cases h; rfl
theorem keepE_pos {r : Rd} {p c : Int} {e : Int × Int} (h : keepE r p c = .error e) : e.1 = p := by
  unfold keepE at h
  split at h
  · cases h; rfl
  · cases h
theorem insE_mode {r r' : Rd} {i c : Int} (h : insE r i c = .ok r') (h2 : r'.mode = 2) : c = 63 ∧ r'.mark = i := by
  unfold insE at h
  repeat' split at h
  all_goals first
    | (cases h; dsimp only at h2; omega)
    | (cases h; rename_i hc; exact ⟨hc, rfl⟩)
    | (have := keepE_mode h; omega)
    | cases h
theorem insE_at {r : Rd} {i c : Int} {e : Int × Int} (h : insE r i c = .error e) : e.1 = i := by
  unfold insE at h
  repeat' split at h
  all_goals first | (cases h; rfl) | exact keepE_pos h | cases h
theorem stepE_mode {r r' : Rd} {i c : Int} (h : stepE r i c = .ok r') (h2 : r'.mode = 2) : c = 63 ∧ r'.mark = i ∧ r.mode ≠ 2 := by
  unfold stepE at h
  split at h
  · rename_i h0
    unfold btwE at h
    split at h
    · cases h; omega
    split at h
    · cases h
    · obtain ⟨h3, h4⟩ := insE_mode h h2
      exact ⟨h3, h4, by omega⟩
  split at h
  · obtain ⟨h3, h4⟩ := insE_mode h h2
    exact ⟨h3, h4, by omega⟩
  · unfold relE at h
    split at h
    · cases h
    · have := keepE_mode h
      omega
theorem stepE_at {r : Rd} {i c : Int} {e : Int × Int} (ha : RdAll r) (h : stepE r i c = .error e) : e.1 = if r.mode = 2 then r.mark else i := by
  have hm := ha.mode
  unfold stepE at h
  split at h
  · rename_i h0
    rw [if_neg (by omega)]
    unfold btwE at h
    split at h
    · cases h
    split at h
    · cases h; rfl
    · exact insE_at h
  split at h
  · rw [if_neg (by omega)]
    exact insE_at h
  · rw [if_pos (by omega)]
    unfold relE at h
    split at h
    · cases h; rfl
    · exact keepE_pos h
theorem runS_all : ∀ (l : List UInt8) (i : Nat) (r r' : Rd), RdAll r → runS l i r = .ok r' → RdAll r'
  | [], _, r, r', h, e => by cases e; exact h
  | b :: l, i, r, r', h, e => by
    unfold runS at e
    cases hs : stepE r i b.toNat with
    | error x => rw [hs] at e; cases e
    | ok r1 =>
      rw [hs] at e
      exact runS_all l (i + 1) r1 r' (stepE_all h hs) e
/-- behind a question mark that waits -/
theorem runS_wait {l : List UInt8} {r : Rd} (h : runS l 0 rd0 = .ok r) (h2 : r.mode = 2) : ∃ l0 r0, l = l0 ++ [63] ∧ r.mark = l0.length ∧ runS l0 0 rd0 = .ok r0 ∧ r0.mode ≠ 2 := by
  rcases List.eq_nil_or_concat l with rfl | ⟨l0, b, rfl⟩
  · cases h; cases h2
  rw [List.concat_eq_append, runS_append] at h
  cases hs : runS l0 0 rd0 with
  | error e => rw [hs] at h; cases h
  | ok r0 =>
    rw [hs] at h
    dsimp only at h
    unfold runS at h
    cases ht : stepE r0 ((0 + l0.length : Nat) : Int) b.toNat with
    | error e => rw [ht] at h; cases h
    | ok r1 =>
      rw [ht] at h
      cases h
      obtain ⟨h3, h4, h5⟩ := stepE_mode ht h2
      have hb : b = 63 := UInt8.toNat_inj.1 (by simp; omega)
      refine ⟨l0, r0, by rw [hb, List.concat_eq_append], by rw [h4]; simp, hs, h5⟩
theorem run_split : ∀ (l : List UInt8) (i : Nat) (r : Rd) (e : Int × Int), runS l i r = .error e → ∃ l1 b l2 r1, l = l1 ++ b :: l2 ∧ runS l1 i r = .ok r1 ∧ stepE r1 ((i + l1.length : Nat) : Int) b.toNat = .error e
  | [], _, _, _, h => by cases h
  | b :: l, i, r, e, h => by
    unfold runS at h
    cases hs : stepE r i b.toNat with
    | error x =>
      rw [hs] at h
      cases h
      exact ⟨[], b, l, r, rfl, rfl, hs⟩
    | ok r1 =>
      rw [hs] at h
      obtain ⟨l1, c, l2, r2, h1, h2, h3⟩ := run_split l (i + 1) r1 e h
      refine ⟨b :: l1, c, l2, r2, by rw [h1]; rfl, ?_, ?_⟩
      · unfold runS; rw [hs]; exact h2
      · rw [List.length_cons, show i + (l1.length + 1) = i + 1 + l1.length from by omega]; exact h3
theorem fin_ok {l : List UInt8} {r : Rd} (h : runS l 0 rd0 = .ok r) (h2 : r.mode ≠ 2) : (runE l 0 rd0).2.2 = 0 ∨ (runE l 0 rd0).2.2 = 42 ∧ (runE l 0 rd0).2.1 = l.length := by
  rw [runE_eq, h]
  dsimp only
  unfold finE
  rw [if_neg h2]
  split
  · right; simp
  · left; rfl
theorem run_err {l1 l2 : List UInt8} {b : UInt8} {r : Rd} {e : Int × Int} (h : runS l1 0 rd0 = .ok r) (h2 : stepE r (l1.length : Int) b.toNat = .error e) : runE (l1 ++ b :: l2) 0 rd0 = ([], e.1, e.2) := by
  rw [runE_append, h]
  dsimp only
  unfold runE
  rw [Nat.zero_add, h2]
/-- where an error is, what is before it, and that it does not hang on what is behind it -/
structure Begins (l : List UInt8) (at' : Nat) (e : Int) : Prop where
  lt : at' < l.length
  before : (runE (l.take at') 0 rd0).2.2 = 0 ∨ (runE (l.take at') 0 rd0).2.2 = 42 ∧ (runE (l.take at') 0 rd0).2.1 = at'
  after : ∀ o : List UInt8, (l[at']? = some 63 ∧ e = 41 ∧ l.length = at' + 1) ∨ runE (l.take (if l[at']? = some 63 then min (at' + 2) l.length else at' + 1) ++ o) 0 rd0 = ([], (at' : Int), e) ∨ (e = 41 ∧ ¬ l[at']? = some 63)
theorem begins {l : List UInt8} {at' e : Int} (h : runE l 0 rd0 = ([], at', e)) (h0 : e ≠ 0) (h42 : e ≠ 42) : ∃ n : Nat, at' = n ∧ Begins l n e := by
  rw [runE_eq] at h
  cases hs : runS l 0 rd0 with
  | ok r =>
    rw [hs] at h
    dsimp only at h
    unfold finE at h
    split at h
    · rename_i h2
      obtain ⟨l0, r0, rfl, hm, h3, h4⟩ := runS_wait hs h2
      obtain ⟨-, h5⟩ := Prod.mk.inj h
      obtain ⟨h6, h7⟩ := Prod.mk.inj h5
      subst h7
      refine ⟨l0.length, by rw [← h6, hm], by simp, ?_, fun o => .inl ⟨by simp, rfl, by simp⟩⟩
      rw [List.take_left]
      have := fin_ok h3 h4
      exact this
    split at h
    · obtain ⟨-, h5⟩ := Prod.mk.inj h
      obtain ⟨h6, h7⟩ := Prod.mk.inj h5
      exact absurd h7.symm h42
    · obtain ⟨-, h5⟩ := Prod.mk.inj h
      obtain ⟨h6, h7⟩ := Prod.mk.inj h5
      exact absurd h7.symm h0
  | error x =>
    rw [hs] at h
    dsimp only at h
    obtain ⟨-, h5⟩ := Prod.mk.inj h
    obtain ⟨h6, h7⟩ := Prod.mk.inj h5
    subst h6 h7
    obtain ⟨l1, b, l2, r, rfl, h1, h2⟩ := run_split l 0 rd0 x hs
    rw [Nat.zero_add] at h2
    have hat := stepE_at (runS_all _ _ _ _ rd0_all h1) h2
    by_cases hm : r.mode = 2
    · rw [if_pos hm] at hat
      obtain ⟨l0, r0, rfl, hmk, h3, h4⟩ := runS_wait h1 hm
      refine ⟨l0.length, by rw [hat, hmk], by simp, ?_, fun o => .inr (.inl ?_)⟩
      · rw [List.append_assoc, List.take_left]
        exact fin_ok h3 h4
      · have hmin : min (l0.length + 2) (l0 ++ [(63 : UInt8)] ++ b :: l2).length = (l0 ++ [(63 : UInt8)]).length + 1 := by simp
        rw [if_pos (by simp), hmin, List.take_length_add_append]
        rw [List.append_assoc]
        have := run_err (l2 := o) h1 h2
        rw [hat, hmk] at this
        exact this
    · rw [if_neg hm] at hat
      refine ⟨l1.length, hat, by simp, ?_, fun o => .inr (.inl ?_)⟩
      · rw [List.take_left]
        exact fin_ok h1 hm
      · rw [← hat]
        split
        · rcases Nat.eq_zero_or_pos l2.length with h8 | h8
          · obtain rfl : l2 = [] := List.length_eq_zero_iff.1 h8
            have hmin : min (l1.length + 2) (l1 ++ [b]).length = (l1 ++ [b]).length := by simp
            rw [hmin, List.take_length, List.append_assoc]
            exact run_err (l2 := o) h1 h2
          · have hmin : min (l1.length + 2) (l1 ++ b :: l2).length = l1.length + 2 := by simp; omega
            rw [hmin, List.take_length_add_append, List.append_assoc]
            exact run_err (l2 := l2.take 1 ++ o) h1 h2
        · rw [List.take_length_add_append, List.append_assoc]
          exact run_err (l2 := o) h1 h2
end Go.Proofs.YtdohcglpcgahaaaDoor
