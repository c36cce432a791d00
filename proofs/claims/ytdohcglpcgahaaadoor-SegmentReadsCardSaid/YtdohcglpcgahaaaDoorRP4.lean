/-
  What is read behind other segments: the state shifted. For LexParts. No program in sight.
-/
import Derived.Test.YtdohcglpcgahaaaDoorRB
set_option linter.unusedSimpArgs false
set_option linter.unusedVariables false
namespace Go.Proofs.YtdohcglpcgahaaaDoor
open Go Sat Go.RowKit Go.PlainAid
/-- the same state, with segments o ahead and d bytes later -/
structure Sim (o : List Segm) (d : Int) (r1 r2 : Rd) : Prop where
  out : r2.out = o ++ r1.out
  mode : r2.mode = r1.mode
  seg : r1.mode ≠ 0 → r2.seg = r1.seg
  el : r1.mode ≠ 0 → r2.el = r1.el
  pc : r1.mode ≠ 0 → r2.pc = r1.pc
  mark : r1.mode = 2 → r2.mark = r1.mark + d
def StepR (o : List Segm) (d : Int) : Step → Step → Prop
  | .ok a, .ok b => Sim o d a b
  | .error e, .error f => f = (e.1 + d, e.2)
  | _, _ => False
theorem keep_sim {o : List Segm} {d : Int} {r1 r2 : Rd} {p c : Int} (h : Sim o d r1 r2) (hm : r1.mode ≠ 0) : StepR o d (keepE r1 p c) (keepE r2 (p + d) c) := by
  unfold keepE
  rw [h.pc hm]
  split
  · rfl
  · exact ⟨h.out, rfl, fun _ => h.seg hm, fun _ => h.el hm, fun _ => rfl, fun h => by cases h⟩
theorem ins_sim {o : List Segm} {d : Int} {r1 r2 : Rd} {i c : Int} (h : Sim o d r1 r2) (hm : r1.mode = 1) : StepR o d (insE r1 i c) (insE r2 (i + d) c) := by
  have h0 : r1.mode ≠ 0 := by omega
  unfold insE
  rw [h.seg h0, h.el h0, h.pc h0]
  by_cases c1 : c = 39
  · rw [if_pos c1, if_pos c1]
    exact ⟨by show r2.out ++ _ = o ++ (r1.out ++ _); rw [h.out, List.append_assoc], rfl, fun h => absurd rfl h, fun h => absurd rfl h, fun h => absurd rfl h, fun h => by cases h⟩
  rw [if_neg c1, if_neg c1]
  by_cases c2 : c = 43 ∧ r1.seg.length = 29
  · rw [if_pos c2, if_pos c2]; rfl
  rw [if_neg c2, if_neg c2]
  by_cases c3 : c = 58 ∧ r1.el.length = 9
  · rw [if_pos c3, if_pos c3]; rfl
  rw [if_neg c3, if_neg c3]
  by_cases c4 : c = 43
  · rw [if_pos c4, if_pos c4]
    exact ⟨h.out, rfl, fun _ => rfl, fun _ => rfl, fun _ => rfl, fun h => by cases h⟩
  rw [if_neg c4, if_neg c4]
  by_cases c5 : c = 58
  · rw [if_pos c5, if_pos c5]
    exact ⟨h.out, rfl, fun _ => rfl, fun _ => rfl, fun _ => rfl, fun h => by cases h⟩
  rw [if_neg c5, if_neg c5]
  by_cases c6 : c < 32 ∨ 126 < c
  · rw [if_pos c6, if_pos c6]; rfl
  rw [if_neg c6, if_neg c6]
  by_cases c7 : c = 63
  · rw [if_pos c7, if_pos c7]
    exact ⟨h.out, rfl, fun _ => rfl, fun _ => rfl, fun _ => rfl, fun _ => rfl⟩
  rw [if_neg c7, if_neg c7]
  exact keep_sim h h0
theorem step_sim {o : List Segm} {d : Int} {r1 r2 : Rd} {i c : Int} (h : Sim o d r1 r2) (ha : RdAll r1) (hn : r1.out.length < 5000) (hn2 : r2.out.length < 5000) : StepR o d (stepE r1 i c) (stepE r2 (i + d) c) := by
  have hm := ha.mode
  unfold stepE
  rw [h.mode]
  by_cases m0 : r1.mode = 0
  · rw [if_pos m0, if_pos m0]
    unfold btwE
    by_cases cb : c = 10 ∨ c = 13 ∨ c = 32
    · rw [if_pos cb, if_pos cb]; exact h
    rw [if_neg cb, if_neg cb, if_neg (by omega), if_neg (by omega)]
    exact ins_sim ⟨h.out, rfl, fun _ => rfl, fun _ => rfl, fun _ => rfl, fun h => by cases h⟩ rfl
  rw [if_neg m0, if_neg m0]
  by_cases m1 : r1.mode = 1
  · rw [if_pos m1, if_pos m1]; exact ins_sim h m1
  rw [if_neg m1, if_neg m1]
  have m2 : r1.mode = 2 := by omega
  unfold relE
  rw [h.mark m2]
  by_cases cb : c ≠ 32 ∧ ¬ svc c
  · rw [if_pos cb, if_pos cb]; rfl
  rw [if_neg cb, if_neg cb]
  exact keep_sim h m0
theorem ins_out {r r' : Rd} {i c : Int} (h : insE r i c = .ok r') : r'.out.length ≤ r.out.length + 1 := by
  unfold insE keepE at h
  repeat' split at h
  all_goals first | (cases h; dsimp only; rw [List.length_append]; exact Nat.le_refl _) | (cases h; exact Nat.le_succ _) | cases h
theorem step_out {r r' : Rd} {i c : Int} (h : stepE r i c = .ok r') : r'.out.length ≤ r.out.length + 1 := by
  unfold stepE at h
  split at h
  · unfold btwE at h
    split at h
    · cases h; exact Nat.le_succ _
    split at h
    · cases h
    · exact ins_out (r := { r with seg := [], el := [], pc := [], mode := 1 }) h
  split at h
  · exact ins_out h
  · unfold relE keepE at h
    repeat' split at h
    all_goals first | (cases h; exact Nat.le_succ _) | cases h
theorem runS_out : ∀ (l : List UInt8) (i : Nat) (r r' : Rd), runS l i r = .ok r' → r'.out.length ≤ r.out.length + l.length
  | [], _, r, r', e => by cases e; exact Nat.le_refl _
  | b :: l, i, r, r', e => by
    unfold runS at e
    cases hs : stepE r i b.toNat with
    | error x => rw [hs] at e; cases e
    | ok r1 =>
      rw [hs] at e
      have := runS_out l (i + 1) r1 r' e
      have := step_out hs
      rw [List.length_cons]
      omega
theorem runS_sim {o : List Segm} {d : Nat} : ∀ (l : List UInt8) (i : Nat) (r1 r2 : Rd), Sim o d r1 r2 → RdAll r1 → o.length + r1.out.length + l.length < 5000 → StepR o d (runS l i r1) (runS l (d + i) r2)
  | [], _, _, _, h, _, _ => h
  | b :: l, i, r1, r2, h, ha, hn => by
    rw [List.length_cons] at hn
    have h1 := step_sim (i := (i : Int)) (c := (b.toNat : Int)) h ha (by omega) (by rw [h.out, List.length_append]; omega)
    rw [show (i : Int) + (d : Int) = ((d + i : Nat) : Int) from by omega] at h1
    unfold runS
    cases hs : stepE r1 i b.toNat with
    | error e =>
      rw [hs] at h1
      cases ht : stepE r2 ((d + i : Nat) : Int) b.toNat with
      | error f => rw [ht] at h1; exact h1
      | ok r => rw [ht] at h1; exact h1.elim
    | ok r =>
      rw [hs] at h1
      cases ht : stepE r2 ((d + i : Nat) : Int) b.toNat with
      | error f => rw [ht] at h1; exact h1.elim
      | ok r' =>
        rw [ht] at h1
        have := step_out hs
        exact runS_sim l (i + 1) r r' h1 (stepE_all ha hs) (by omega)
/-- LexParts, plain: what is read of two texts, one behind the other -/
theorem parts {a b : List UInt8} {l : List Segm} {p : Int} (h : runE a 0 rd0 = (l, p, 0)) (ha : a.length ≤ 2000) (hb : b.length ≤ 2000) :
    runE (a ++ b) 0 rd0 = if (runE b 0 rd0).2.2 = 0 then (l ++ (runE b 0 rd0).1, 0, 0) else ([], (a.length : Int) + (runE b 0 rd0).2.1, (runE b 0 rd0).2.2) := by
  rw [runE_eq] at h
  cases hs : runS a 0 rd0 with
  | error e =>
    obtain ⟨l1, c, l2, r1, -, -, h3⟩ := run_split _ _ _ _ hs
    rw [hs] at h
    dsimp only at h
    exact absurd (Prod.mk.inj (Prod.mk.inj h).2).2 (stepE_code h3)
  | ok r =>
    rw [hs] at h
    dsimp only at h
    unfold finE at h
    split at h
    · cases h
    split at h
    · cases h
    rename_i n2 n1
    cases h
    have hall := runS_all _ _ _ _ rd0_all hs
    have hm0 : r.mode = 0 := by have := hall.mode; omega
    have hout := runS_out _ _ _ _ hs
    have hsim : Sim r.out (a.length : Nat) rd0 r := ⟨by show r.out = r.out ++ []; rw [List.append_nil], hm0, fun h => absurd rfl h, fun h => absurd rfl h, fun h => absurd rfl h, fun h => by cases h⟩
    have h2 := runS_sim b 0 rd0 r hsim rd0_all (by have : rd0.out.length = 0 := rfl; omega)
    rw [runE_append, hs, runE_eq b 0 rd0]
    dsimp only
    rw [runE_eq, show 0 + a.length = a.length + 0 from by omega]
    cases ht : runS b 0 rd0 with
    | error e =>
      rw [ht] at h2
      obtain ⟨l1, c, l2, r1, -, -, h3⟩ := run_split _ _ _ _ ht
      have hne := stepE_code h3
      cases hu : runS b (a.length + 0) r with
      | ok r' => rw [hu] at h2; exact h2.elim
      | error f =>
        rw [hu] at h2
        have h4 : f = (e.1 + (a.length : Int), e.2) := h2
        subst h4
        dsimp only
        rw [if_neg hne, Int.add_comm]
    | ok r1 =>
      rw [ht] at h2
      cases hu : runS b (a.length + 0) r with
      | error f => rw [hu] at h2; exact h2.elim
      | ok r' =>
        rw [hu] at h2
        have h4 : Sim r.out (a.length : Nat) r1 r' := h2
        have hm := h4.mode
        have ho := h4.out
        have hk := h4.mark
        by_cases m2 : r1.mode = 2
        · have hk2 := hk m2
          simp [finE, hm, m2, hk2, Int.add_comm]
        by_cases m1 : r1.mode = 1
        · simp [finE, hm, m1]
        simp [finE, hm, m1, m2, ho]
end Go.Proofs.YtdohcglpcgahaaaDoor
