/-
  How Read goes on: runs over lists that are joined; where an error is; the law LexBegins, plain. What is read behind other segments: the state shifted. For LexParts. No program in sight. What is written is read: runs over what Write makes; what is read is right and not longer when it is written. No program in sight.
-/
import Derived.Test.YtdohcglpcgahaaaGreatDoorRY
import Derived.Test.YtdohcglpcgahaaaGreatDoorWP
set_option linter.unusedSimpArgs false
set_option linter.unusedVariables false
namespace Go.Proofs.YtdohcglpcgahaaaGreatDoor
section
open Go Sat Go.RowKit Go.PlainAid
/-- the state behind a list of bytes -/
def runS : List UInt8 → Nat → Rd → Step
  | [], _, r => .ok r
  | b :: l, i, r => match stepE r i b.toNat with
    | .error e => .error e
    | .ok r' => runS l (i + 1) r'
theorem runS_append : ∀ (l m : List UInt8) (i : Nat) (r : Rd), runS (l ++ m) i r = match runS l i r with
    | .error e => .error e
    | .ok r' => runS m (i + l.length) r'
  | [], m, i, r => rfl
  | b :: l, m, i, r => by
    simp only [List.cons_append, runS, List.length_cons]
    cases stepE r i b.toNat with
    | error e => rfl
    | ok r' =>
      dsimp only
      rw [runS_append l m (i + 1) r', show i + 1 + l.length = i + (l.length + 1) from by omega]
theorem runE_append : ∀ (l m : List UInt8) (i : Nat) (r : Rd), runE (l ++ m) i r = match runS l i r with
    | .error e => ([], e.1, e.2)
    | .ok r' => runE m (i + l.length) r'
  | [], m, i, r => rfl
  | b :: l, m, i, r => by
    simp only [List.cons_append, runS, runE, List.length_cons]
    cases stepE r i b.toNat with
    | error e => rfl
    | ok r' =>
      dsimp only
      rw [runE_append l m (i + 1) r', show i + 1 + l.length = i + (l.length + 1) from by omega]
theorem runE_eq (l : List UInt8) (i : Nat) (r : Rd) : runE l i r = match runS l i r with
    | .error e => ([], e.1, e.2)
    | .ok r' => finE r' ((i + l.length : Nat) : Int) := by
  have := runE_append l [] i r
  rw [List.append_nil] at this
  rw [this]
  rfl
theorem runS_all : ∀ (l : List UInt8) (i : Nat) (r r' : Rd), RdAll r → runS l i r = .ok r' → RdAll r'
  | [], _, r, r', h, e => by cases e; exact h
  | b :: l, i, r, r', h, e => by
    unfold runS at e
    cases hs : stepE r i b.toNat with
    | error x => rw [hs] at e; cases e
    | ok r1 =>
      rw [hs] at e
      exact runS_all l (i + 1) r1 r' (stepE_all h hs) e
theorem run_split : ∀ (l : List UInt8) (i : Nat) (r : Rd) (e : Int × Int), runS l i r = .error e → ∃ l1 b l2 r1, l = l1 ++ b :: l2 ∧ runS l1 i r = .ok r1 ∧ stepE r1 ((i + l1.length : Nat) : Int) b.toNat = .error e
  | [], _, _, _, h => by cases h
  | b :: l, i, r, e, h => by
    unfold runS at h
    cases hs : stepE r i b.toNat with
    | error x =>
      rw [hs] at h
      cases h
      exact ⟨[], b, l, r, rfl, rfl, hs⟩
    | ok r1 =>
      rw [hs] at h
      obtain ⟨l1, c, l2, r2, h1, h2, h3⟩ := run_split l (i + 1) r1 e h
      refine ⟨b :: l1, c, l2, r2, by rw [h1]; rfl, ?_, ?_⟩
      · unfold runS; rw [hs]; exact h2
      · rw [List.length_cons, show i + (l1.length + 1) = i + 1 + l1.length from by omega]; exact h3
/-- where an error is, what is before it, and that it does not hang on what is behind it -/
structure Begins (l : List UInt8) (at' : Nat) (e : Int) : Prop where
  lt : at' < l.length
  before : (runE (l.take at') 0 rd0).2.2 = 0 ∨ (runE (l.take at') 0 rd0).2.2 = 42 ∧ (runE (l.take at') 0 rd0).2.1 = at'
  after : ∀ o : List UInt8, (l[at']? = some 63 ∧ e = 41 ∧ l.length = at' + 1) ∨ runE (l.take (if l[at']? = some 63 then min (at' + 2) l.length else at' + 1) ++ o) 0 rd0 = ([], (at' : Int), e) ∨ (e = 41 ∧ ¬ l[at']? = some 63)
end
section
open Go Sat Go.RowKit Go.PlainAid
/-- the same state, with segments o ahead and d bytes later -/
structure Sim (o : List Segm) (d : Int) (r1 r2 : Rd) : Prop where
  out : r2.out = o ++ r1.out
  mode : r2.mode = r1.mode
  seg : r1.mode ≠ 0 → r2.seg = r1.seg
  el : r1.mode ≠ 0 → r2.el = r1.el
  pc : r1.mode ≠ 0 → r2.pc = r1.pc
  mark : r1.mode = 2 → r2.mark = r1.mark + d
def StepR (o : List Segm) (d : Int) : Step → Step → Prop
  | .ok a, .ok b => Sim o d a b
  | .error e, .error f => f = (e.1 + d, e.2)
  | _, _ => False
theorem keep_sim {o : List Segm} {d : Int} {r1 r2 : Rd} {p c : Int} (h : Sim o d r1 r2) (hm : r1.mode ≠ 0) : StepR o d (keepE r1 p c) (keepE r2 (p + d) c) := by
  unfold keepE
  rw [h.pc hm]
  split
  · rfl
  · exact ⟨h.out, rfl, fun _ => h.seg hm, fun _ => h.el hm, fun _ => rfl, fun h => by cases h⟩
theorem ins_sim {o : List Segm} {d : Int} {r1 r2 : Rd} {i c : Int} (h : Sim o d r1 r2) (hm : r1.mode = 1) : StepR o d (insE r1 i c) (insE r2 (i + d) c) := by
  have h0 : r1.mode ≠ 0 := by omega
  unfold insE
  rw [h.seg h0, h.el h0, h.pc h0]
  by_cases c1 : c = 39
  · rw [if_pos c1, if_pos c1]
    exact ⟨by show r2.out ++ _ = o ++ (r1.out ++ _); rw [h.out, List.append_assoc], rfl, fun h => absurd rfl h, fun h => absurd rfl h, fun h => absurd rfl h, fun h => by cases h⟩
  rw [if_neg c1, if_neg c1]
  by_cases c2 : c = 43 ∧ r1.seg.length = 29
  · rw [if_pos c2, if_pos c2]; rfl
  rw [if_neg c2, if_neg c2]
  by_cases c3 : c = 58 ∧ r1.el.length = 9
  · rw [if_pos c3, if_pos c3]; rfl
  rw [if_neg c3, if_neg c3]
  by_cases c4 : c = 43
  · rw [if_pos c4, if_pos c4]
    exact ⟨h.out, rfl, fun _ => rfl, fun _ => rfl, fun _ => rfl, fun h => by cases h⟩
  rw [if_neg c4, if_neg c4]
  by_cases c5 : c = 58
  · rw [if_pos c5, if_pos c5]
    exact ⟨h.out, rfl, fun _ => rfl, fun _ => rfl, fun _ => rfl, fun h => by cases h⟩
  rw [if_neg c5, if_neg c5]
  by_cases c6 : c < 32 ∨ 126 < c
  · rw [if_pos c6, if_pos c6]; rfl
  rw [if_neg c6, if_neg c6]
  by_cases c7 : c = 63
  · rw [if_pos c7, if_pos c7]
    exact ⟨h.out, rfl, fun _ => rfl, fun _ => rfl, fun _ => rfl, fun _ => rfl⟩
  rw [if_neg c7, if_neg c7]
  exact keep_sim h h0
theorem step_sim {o : List Segm} {d : Int} {r1 r2 : Rd} {i c : Int} (h : Sim o d r1 r2) (ha : RdAll r1) (hn : r1.out.length < 5000) (hn2 : r2.out.length < 5000) : StepR o d (stepE r1 i c) (stepE r2 (i + d) c) := by
  have hm := ha.mode
  unfold stepE
  rw [h.mode]
  by_cases m0 : r1.mode = 0
  · rw [if_pos m0, if_pos m0]
    unfold btwE
    by_cases cb : c = 10 ∨ c = 13 ∨ c = 32
    · rw [if_pos cb, if_pos cb]; exact h
    rw [if_neg cb, if_neg cb, if_neg (by omega), if_neg (by omega)]
    exact ins_sim ⟨h.out, rfl, fun _ => rfl, fun _ => rfl, fun _ => rfl, fun h => by cases h⟩ rfl
  rw [if_neg m0, if_neg m0]
  by_cases m1 : r1.mode = 1
  · rw [if_pos m1, if_pos m1]; exact ins_sim h m1
  rw [if_neg m1, if_neg m1]
  have m2 : r1.mode = 2 := by omega
  unfold relE
  rw [h.mark m2]
  by_cases cb : c ≠ 32 ∧ ¬ svc c
  · rw [if_pos cb, if_pos cb]; rfl
  rw [if_neg cb, if_neg cb]
  exact keep_sim h m0
theorem ins_out {r r' : Rd} {i c : Int} (h : insE r i c = .ok r') : r'.out.length ≤ r.out.length + 1 := by
  unfold insE keepE at h
  repeat' split at h
  all_goals first | (cases h; dsimp only; rw [List.length_append]; exact Nat.le_refl _) | (cases h; exact Nat.le_succ _) | cases h
theorem step_out {r r' : Rd} {i c : Int} (h : stepE r i c = .ok r') : r'.out.length ≤ r.out.length + 1 := by
  unfold stepE at h
  split at h
  · unfold btwE at h
    split at h
    · cases h; exact Nat.le_succ _
    split at h
    · cases h
    · exact ins_out (r := { r with seg := [], el := [], pc := [], mode := 1 }) h
  split at h
  · exact ins_out h
  · unfold relE keepE at h
    repeat' split at h
    all_goals first | (cases h; exact Nat.le_succ _) | cases h
theorem runS_out : ∀ (l : List UInt8) (i : Nat) (r r' : Rd), runS l i r = .ok r' → r'.out.length ≤ r.out.length + l.length
  | [], _, r, r', e => by cases e; exact Nat.le_refl _
  | b :: l, i, r, r', e => by
    unfold runS at e
    cases hs : stepE r i b.toNat with
    | error x => rw [hs] at e; cases e
    | ok r1 =>
      rw [hs] at e
      have := runS_out l (i + 1) r1 r' e
      have := step_out hs
      rw [List.length_cons]
      omega
theorem runS_sim {o : List Segm} {d : Nat} : ∀ (l : List UInt8) (i : Nat) (r1 r2 : Rd), Sim o d r1 r2 → RdAll r1 → o.length + r1.out.length + l.length < 5000 → StepR o d (runS l i r1) (runS l (d + i) r2)
  | [], _, _, _, h, _, _ => h
  | b :: l, i, r1, r2, h, ha, hn => by
    rw [List.length_cons] at hn
    have h1 := step_sim (i := (i : Int)) (c := (b.toNat : Int)) h ha (by omega) (by rw [h.out, List.length_append]; omega)
    rw [show (i : Int) + (d : Int) = ((d + i : Nat) : Int) from by omega] at h1
    unfold runS
    cases hs : stepE r1 i b.toNat with
    | error e =>
      rw [hs] at h1
      cases ht : stepE r2 ((d + i : Nat) : Int) b.toNat with
      | error f => rw [ht] at h1; exact h1
      | ok r => rw [ht] at h1; exact h1.elim
    | ok r =>
      rw [hs] at h1
      cases ht : stepE r2 ((d + i : Nat) : Int) b.toNat with
      | error f => rw [ht] at h1; exact h1.elim
      | ok r' =>
        rw [ht] at h1
        have := step_out hs
        exact runS_sim l (i + 1) r r' h1 (stepE_all ha hs) (by omega)
/-- LexParts, plain: what is read of two texts, one behind the other -/
theorem parts {a b : List UInt8} {l : List Segm} {p : Int} (h : runE a 0 rd0 = (l, p, 0)) (ha : a.length ≤ 2000) (hb : b.length ≤ 2000) :
    runE (a ++ b) 0 rd0 = if (runE b 0 rd0).2.2 = 0 then (l ++ (runE b 0 rd0).1, 0, 0) else ([], (a.length : Int) + (runE b 0 rd0).2.1, (runE b 0 rd0).2.2) := by
  rw [runE_eq] at h
  cases hs : runS a 0 rd0 with
  | error e =>
    obtain ⟨l1, c, l2, r1, -, -, h3⟩ := run_split _ _ _ _ hs
    rw [hs] at h
    dsimp only at h
    exact absurd (Prod.mk.inj (Prod.mk.inj h).2).2 (stepE_code h3)
  | ok r =>
    rw [hs] at h
    dsimp only at h
    unfold finE at h
    split at h
    · cases h
    split at h
    · cases h
    rename_i n2 n1
    cases h
    have hall := runS_all _ _ _ _ rd0_all hs
    have hm0 : r.mode = 0 := by have := hall.mode; omega
    have hout := runS_out _ _ _ _ hs
    have hsim : Sim r.out (a.length : Nat) rd0 r := ⟨by show r.out = r.out ++ []; rw [List.append_nil], hm0, fun h => absurd rfl h, fun h => absurd rfl h, fun h => absurd rfl h, fun h => by cases h⟩
    have h2 := runS_sim b 0 rd0 r hsim rd0_all (by have : rd0.out.length = 0 := rfl; omega)
    rw [runE_append, hs, runE_eq b 0 rd0]
    dsimp only
    rw [runE_eq, show 0 + a.length = a.length + 0 from by omega]
    cases ht : runS b 0 rd0 with
    | error e =>
      rw [ht] at h2
      obtain ⟨l1, c, l2, r1, -, -, h3⟩ := run_split _ _ _ _ ht
      have hne := stepE_code h3
      cases hu : runS b (a.length + 0) r with
      | ok r' => rw [hu] at h2; exact h2.elim
      | error f =>
        rw [hu] at h2
        have h4 : f = (e.1 + (a.length : Int), e.2) := h2
        subst h4
        dsimp only
        rw [if_neg hne, Int.add_comm]
    | ok r1 =>
      rw [ht] at h2
      cases hu : runS b (a.length + 0) r with
      | error f => rw [hu] at h2; exact h2.elim
      | ok r' =>
        rw [hu] at h2
        have h4 : Sim r.out (a.length : Nat) r1 r' := h2
        have hm := h4.mode
        have ho := h4.out
        have hk := h4.mark
        by_cases m2 : r1.mode = 2
        · have hk2 := hk m2
          simp [finE, hm, m2, hk2, Int.add_comm]
        by_cases m1 : r1.mode = 1
        · simp [finE, hm, m1]
        simp [finE, hm, m1, m2, ho]
end
section
open Go Sat Go.RowKit Go.PlainAid
def Goes (l : List UInt8) (r : Rd) (Q : Rd → Prop) : Prop := ∀ i, ∃ r', runS l i r = .ok r' ∧ Q r'
theorem Goes.app {l m : List UInt8} {r : Rd} {Q R : Rd → Prop} (h : Goes l r Q) (k : ∀ r', Q r' → Goes m r' R) : Goes (l ++ m) r R := by
  intro i
  obtain ⟨r1, h1, h2⟩ := h i
  obtain ⟨r2, h3, h4⟩ := k r1 h2 (i + l.length)
  exact ⟨r2, by rw [runS_append, h1]; exact h3, h4⟩
theorem Goes.nil {r : Rd} {Q : Rd → Prop} (h : Q r) : Goes [] r Q := fun i => ⟨r, rfl, h⟩
theorem Goes.mono {l : List UInt8} {r : Rd} {Q R : Rd → Prop} (h : Goes l r Q) (k : ∀ r', Q r' → R r') : Goes l r R := fun i => by
  obtain ⟨r1, h1, h2⟩ := h i
  exact ⟨r1, h1, k _ h2⟩
theorem Goes.one {b : UInt8} {r : Rd} {Q : Rd → Prop} (h : ∀ i : Int, ∃ r', stepE r i b.toNat = .ok r' ∧ Q r') : Goes [b] r Q := fun i => by
  obtain ⟨r1, h1, h2⟩ := h i
  exact ⟨r1, by unfold runS; rw [h1]; rfl, h2⟩
/-- inside a segment -/
structure At (r : Rd) (o : List Segm) (sg : Segm) (el : Elem) (pc : List UInt8) : Prop where
  mode : r.mode = 1
  out : r.out = o
  seg : r.seg = sg
  el : r.el = el
  pc : r.pc = pc
theorem chr_b (b : UInt8) : chr (b.toNat : Int) = b := by
  unfold chr
  rw [Int.toNat_natCast]
  exact UInt8.ofNat_toNat
theorem badB_no {b : UInt8} (h : badB b = false) : 32 ≤ b.toNat ∧ b.toNat ≤ 126 := by
  unfold badB at h
  have := of_decide_eq_false h
  omega
theorem step1 {r : Rd} (h : r.mode = 1) (i c : Int) : stepE r i c = insE r i c := by
  unfold stepE
  rw [if_neg (by omega), if_pos h]
theorem step2 {r : Rd} (h : r.mode = 2) (i c : Int) : stepE r i c = relE r i c := by
  unfold stepE
  rw [if_neg (by omega), if_neg (by omega)]
theorem ins_keep {r : Rd} {i c : Int} (h1 : 32 ≤ c) (h2 : c ≤ 126) (h3 : ¬ svc c) : insE r i c = keepE r i c := by
  unfold svc at h3
  unfold insE
  rw [if_neg (by omega), if_neg (by omega), if_neg (by omega), if_neg (by omega), if_neg (by omega), if_neg (by omega), if_neg (by omega)]
theorem ins_rel {r : Rd} {i : Int} : insE r i 63 = .ok { r with mode := 2, mark := i } := by
  unfold insE
  rw [if_neg (by omega), if_neg (by omega), if_neg (by omega), if_neg (by omega), if_neg (by omega), if_neg (by omega), if_pos rfl]
theorem keep_ok {r : Rd} {p : Int} {b : UInt8} (h : r.pc.length < 100) : keepE r p b.toNat = .ok { r with pc := r.pc ++ [b], mode := 1 } := by
  unfold keepE
  rw [if_neg (by omega), chr_b]
theorem goes_rel {r : Rd} {o : List Segm} {sg : Segm} {el : Elem} {pc : List UInt8} {b : UInt8} (h : At r o sg el pc) (hp : pc.length < 100) (hb : svc (b.toNat : Int) ∨ b.toNat = 32) : Goes [63, b] r fun r' => At r' o sg el (pc ++ [b]) := by
  refine Goes.app (l := [63]) (m := [b]) (Q := fun r' => r'.mode = 2 ∧ r'.out = o ∧ r'.seg = sg ∧ r'.el = el ∧ r'.pc = pc) (Goes.one fun i => ⟨_, (step1 h.mode i _).trans ins_rel, rfl, h.out, h.seg, h.el, h.pc⟩) fun r' hr => ?_
  obtain ⟨h1, h2, h3, h4, h5⟩ := hr
  refine Goes.one fun i => ⟨_, (step2 h1 i _).trans (?_ : relE r' i b.toNat = .ok { r' with pc := r'.pc ++ [b], mode := 1 }), rfl, h2, h3, h4, by show r'.pc ++ [b] = pc ++ [b]; rw [h5]⟩
  unfold relE
  rw [if_neg (by rintro ⟨ha, hc⟩; rcases hb with hb | hb; exact hc hb; omega)]
  exact keep_ok (by rw [h5]; exact hp)
theorem goes_b {r : Rd} {o : List Segm} {sg : Segm} {el : Elem} {pc : List UInt8} {b : UInt8} (h : At r o sg el pc) (hp : pc.length < 100) (hb : badB b = false) : Goes (relB b) r fun r' => At r' o sg el (pc ++ [b]) := by
  have h1 := badB_no hb
  unfold relB
  by_cases hs : svc (b.toNat : Int)
  · rw [if_pos hs]
    exact goes_rel h hp (.inl hs)
  · rw [if_neg hs]
    refine Goes.one fun i => ⟨_, (step1 h.mode i _).trans ((ins_keep (by omega) (by omega) hs).trans (keep_ok (by rw [h.pc]; exact hp))), rfl, h.out, h.seg, h.el, by show r.pc ++ [b] = pc ++ [b]; rw [h.pc]⟩
theorem goes_C {o : List Segm} {sg : Segm} {el : Elem} : ∀ (p : List UInt8) (pc : List UInt8) (r : Rd), At r o sg el pc → pc.length + p.length ≤ 100 → p.any badB = false → Goes (p.flatMap relB) r fun r' => At r' o sg el (pc ++ p)
  | [], pc, r, h, _, _ => Goes.nil (by rw [List.append_nil]; exact h)
  | b :: p, pc, r, h, hl, hb => by
    rw [List.any_cons, Bool.or_eq_false_iff] at hb
    rw [List.length_cons] at hl
    rw [List.flatMap_cons]
    refine Goes.app (goes_b h (by omega) hb.1) fun r' h' => ?_
    rw [show pc ++ b :: p = (pc ++ [b]) ++ p from by simp]
    exact goes_C p _ r' h' (by rw [List.length_append, List.length_singleton]; omega) hb.2
theorem ba_data (c : ByteArray) : ba c.data.toList = c := rfl
theorem goes_colon {r : Rd} {o : List Segm} {sg : Segm} {el : Elem} {pc : List UInt8} (h : At r o sg el pc) (hl : el.length < 9) : Goes [58] r fun r' => At r' o sg (el ++ [ba pc]) [] := by
  refine Goes.one fun i => ⟨_, (step1 h.mode i _).trans (?_ : insE r i 58 = .ok { r with el := r.el ++ [ba r.pc], pc := [], mode := 1 }), rfl, h.out, h.seg, by show r.el ++ [ba r.pc] = _; rw [h.el, h.pc], rfl⟩
  unfold insE
  rw [if_neg (by omega), if_neg (by omega), if_neg (by rw [h.el]; omega), if_neg (by omega), if_pos rfl]
theorem goes_plus {r : Rd} {o : List Segm} {sg : Segm} {el : Elem} {pc : List UInt8} (h : At r o sg el pc) (hl : sg.length < 29) : Goes [43] r fun r' => At r' o (sg ++ [el ++ [ba pc]]) [] [] := by
  refine Goes.one fun i => ⟨_, (step1 h.mode i _).trans (?_ : insE r i 43 = .ok { r with seg := r.seg ++ [r.el ++ [ba r.pc]], el := [], pc := [], mode := 1 }), rfl, h.out, by show r.seg ++ [r.el ++ [ba r.pc]] = _; rw [h.seg, h.el, h.pc], rfl, rfl⟩
  unfold insE
  rw [if_neg (by omega), if_neg (by rw [h.seg]; omega), if_neg (by omega), if_pos rfl]
theorem goes_end {r : Rd} {o : List Segm} {sg : Segm} {el : Elem} {pc : List UInt8} (h : At r o sg el pc) : Goes [39] r fun r' => r'.mode = 0 ∧ r'.out = o ++ [sg ++ [el ++ [ba pc]]] := by
  refine Goes.one fun i => ⟨_, (step1 h.mode i _).trans (?_ : insE r i 39 = .ok { r with out := r.out ++ [r.seg ++ [r.el ++ [ba r.pc]]], seg := [], el := [], pc := [], mode := 0 }), rfl, by show r.out ++ _ = _; rw [h.out, h.seg, h.el, h.pc]⟩
  unfold insE
  rw [if_pos rfl]
theorem goes_Cs {o : List Segm} {sg : Segm} : ∀ (cs : Elem) (el : Elem) (pc : List UInt8) (r : Rd), At r o sg el pc → el.length + cs.length ≤ 9 → (∀ c ∈ cs, c.size ≤ 100 ∧ c.data.toList.any badB = false) → Goes (cs.flatMap fun y => 58 :: wC y) r fun r' => ∃ el' pc', At r' o sg el' pc' ∧ el' ++ [ba pc'] = el ++ [ba pc] ++ cs
  | [], el, pc, r, h, _, _ => Goes.nil ⟨el, pc, h, by simp⟩
  | c :: cs, el, pc, r, h, hl, hc => by
    rw [List.length_cons] at hl
    obtain ⟨h1, h2⟩ := hc c List.mem_cons_self
    rw [List.flatMap_cons, List.cons_append, ← List.singleton_append]
    refine Goes.app (goes_colon h (by omega)) fun r1 k1 => ?_
    refine Goes.app (goes_C c.data.toList [] r1 k1 (by show 0 + c.size ≤ 100; omega) h2) fun r2 k2 => ?_
    rw [List.nil_append] at k2
    refine (goes_Cs cs _ _ r2 k2 (by rw [List.length_append, List.length_singleton]; omega) fun y hy => hc y (List.mem_cons_of_mem _ hy)).mono ?_
    rintro r3 ⟨el', pc', k3, k4⟩
    refine ⟨el', pc', k3, ?_⟩
    rw [k4, ba_data]
    simp
theorem rightE_at {e : Elem} (h : rightE e = true) : (1 ≤ e.length ∧ e.length ≤ 10) ∧ ∀ c ∈ e, c.size ≤ 100 ∧ c.data.toList.any badB = false := by
  unfold rightE at h
  rw [Bool.and_eq_true, decide_eq_true_iff, List.all_eq_true] at h
  refine ⟨h.1, fun c hc => ?_⟩
  have h3 := h.2 c hc
  unfold rightC at h3
  rw [Bool.and_eq_true, decide_eq_true_iff] at h3
  exact ⟨h3.1, by simpa using h3.2⟩
theorem goes_Es {o : List Segm} : ∀ (es : Segm) (sg : Segm) (el : Elem) (pc : List UInt8) (r : Rd), At r o sg el pc → sg.length + es.length ≤ 29 → (∀ e ∈ es, rightE e = true) → Goes (es.flatMap fun y => 43 :: wE y) r fun r' => ∃ sg' el' pc', At r' o sg' el' pc' ∧ sg' ++ [el' ++ [ba pc']] = sg ++ [el ++ [ba pc]] ++ es
  | [], sg, el, pc, r, h, _, _ => Goes.nil ⟨sg, el, pc, h, by simp⟩
  | e :: es, sg, el, pc, r, h, hl, hc => by
    rw [List.length_cons] at hl
    obtain ⟨h1, h2⟩ := rightE_at (hc e List.mem_cons_self)
    rw [List.flatMap_cons, List.cons_append, ← List.singleton_append]
    refine Goes.app (goes_plus h (by omega)) fun r1 k1 => ?_
    refine Goes.app (Q := fun r' => ∃ el' pc', At r' o (sg ++ [el ++ [ba pc]]) el' pc' ∧ el' ++ [ba pc'] = e) ?_ fun r2 k2 => ?_
    · cases e with
      | nil => simp at h1
      | cons c cs =>
        obtain ⟨h3, h4⟩ := h2 c List.mem_cons_self
        rw [List.length_cons] at h1
        unfold wE joinW
        refine Goes.app (goes_C c.data.toList [] r1 k1 (by show 0 + c.size ≤ 100; omega) h4) fun r2 k2 => ?_
        rw [List.nil_append] at k2
        refine (goes_Cs cs _ _ r2 k2 (by simp; omega) fun y hy => h2 y (List.mem_cons_of_mem _ hy)).mono ?_
        rintro r3 ⟨el', pc', k3, k4⟩
        exact ⟨el', pc', k3, by rw [k4, ba_data]; simp⟩
    obtain ⟨el', pc', k3, k4⟩ := k2
    refine (goes_Es es _ _ _ r2 k3 (by rw [List.length_append, List.length_singleton]; omega) fun y hy => hc y (List.mem_cons_of_mem _ hy)).mono ?_
    rintro r3 ⟨sg', el2, pc2, k5, k6⟩
    refine ⟨sg', el2, pc2, k5, ?_⟩
    rw [k6, k4]
    simp
theorem btw_fresh {r : Rd} (h0 : r.mode = 0) (hn : r.out.length < 5000) {c : Int} (hc : c ≠ 10 ∧ c ≠ 13 ∧ c ≠ 32) (i : Int) : stepE r i c = stepE { r with seg := [], el := [], pc := [], mode := 1 } i c := by
  rw [step1 (r := { r with seg := [], el := [], pc := [], mode := 1 }) rfl]
  unfold stepE
  rw [if_pos h0]
  unfold btwE
  rw [if_neg (by omega), if_neg (by omega)]
theorem goes_fresh {r : Rd} (h0 : r.mode = 0) (hn : r.out.length < 5000) {b : UInt8} {l : List UInt8} {Q : Rd → Prop} (hc : b.toNat ≠ 10 ∧ b.toNat ≠ 13 ∧ b.toNat ≠ 32) (h : Goes (b :: l) { r with seg := [], el := [], pc := [], mode := 1 } Q) : Goes (b :: l) r Q := by
  intro i
  obtain ⟨r', h1, h2⟩ := h i
  refine ⟨r', ?_, h2⟩
  rw [← h1]
  unfold runS
  rw [btw_fresh h0 hn (by omega)]
theorem wS_eq (c : ByteArray) (cs : Elem) (es : Segm) : wS ((c :: cs) :: es) = (if blankS ((c :: cs) :: es) = true then [63] else []) ++ (c.data.toList.flatMap relB ++ ((cs.flatMap fun y => 58 :: wC y) ++ ((es.flatMap fun y => 43 :: wE y) ++ [39]))) := by
  show (if blankS ((c :: cs) :: es) = true then [63] else []) ++ ((c.data.toList.flatMap relB ++ cs.flatMap fun y => 58 :: wC y) ++ es.flatMap fun y => 43 :: wE y) ++ [39] = _
  simp only [List.append_assoc]
/-- the first byte that is written is no blank -/
theorem wS_first {c : ByteArray} {cs : Elem} {es : Segm} (h : c.data.toList.any badB = false) (hb : blankS ((c :: cs) :: es) = false) : ∃ b l, wS ((c :: cs) :: es) = b :: l ∧ b.toNat ≠ 10 ∧ b.toNat ≠ 13 ∧ b.toNat ≠ 32 := by
  rw [wS_eq, hb, if_neg Bool.false_ne_true, List.nil_append]
  cases hd : c.data.toList with
  | nil =>
    cases cs with
    | nil =>
      cases es with
      | nil => exact ⟨39, _, rfl, by decide, by decide, by decide⟩
      | cons e es => exact ⟨43, _, rfl, by decide, by decide, by decide⟩
    | cons d cs => exact ⟨58, _, rfl, by decide, by decide, by decide⟩
  | cons b t =>
    rw [hd, List.any_cons, Bool.or_eq_false_iff] at h
    have h1 := badB_no h.1
    unfold relB
    by_cases hs : svc (b.toNat : Int)
    · exact ⟨63, _, by simp [hs]; rfl, by decide, by decide, by decide⟩
    · refine ⟨b, _, by simp [hs]; rfl, by omega, by omega, fun e => ?_⟩
      have hb2 : b = 32 := UInt8.toNat_inj.1 (by rw [e]; rfl)
      simp [blankS, Lib.hasPrefix, hd, hb2] at hb
theorem goes_rest {r : Rd} {o : List Segm} {c : ByteArray} {cs : Elem} {es : Segm} {pc : List UInt8} (q : List UInt8) (h : At r o [] [] pc) (hq : c.data.toList = pc ++ q) (hr : rightS ((c :: cs) :: es) = true) : Goes (q.flatMap relB ++ ((cs.flatMap fun y => 58 :: wC y) ++ ((es.flatMap fun y => 43 :: wE y) ++ [39]))) r fun r' => r'.mode = 0 ∧ r'.out = o ++ [(c :: cs) :: es] := by
  obtain ⟨h1, h2⟩ := rightS_at hr
  obtain ⟨h3, h4⟩ := h2 _ List.mem_cons_self
  obtain ⟨h5, h6⟩ := h4 _ List.mem_cons_self
  have hsz : c.size = pc.length + q.length := by rw [← List.length_append, ← hq]; rfl
  rw [hq, List.any_append, Bool.or_eq_false_iff] at h6
  rw [List.length_cons] at h1 h3
  refine Goes.app (goes_C q pc r h (by omega) h6.2) fun r1 k1 => ?_
  rw [← hq] at k1
  refine Goes.app (goes_Cs cs _ _ r1 k1 (by simp; omega) fun y hy => h4 y (List.mem_cons_of_mem _ hy)) fun r2 k2 => ?_
  obtain ⟨el', pc', k3, k4⟩ := k2
  refine Goes.app (goes_Es es _ _ _ r2 k3 (by simp; omega) fun y hy => ?_) fun r3 k5 => ?_
  · unfold rightS at hr
    rw [Bool.and_eq_true, List.all_eq_true] at hr
    exact hr.2 y (List.mem_cons_of_mem _ hy)
  obtain ⟨sg', el2, pc2, k6, k7⟩ := k5
  refine (goes_end k6).mono ?_
  rintro r4 ⟨k8, k9⟩
  refine ⟨k8, ?_⟩
  rw [k9, k7, k4, ba_data]
  simp
theorem goes_seg {r : Rd} {s : Segm} (h0 : r.mode = 0) (hn : r.out.length < 5000) (hr : rightS s = true) : Goes (wS s) r fun r' => r'.mode = 0 ∧ r'.out = r.out ++ [s] := by
  obtain ⟨h1, h2⟩ := rightS_at hr
  obtain ⟨e, es, rfl⟩ : ∃ e es, s = e :: es := by
    cases s with
    | nil => simp at h1
    | cons e es => exact ⟨e, es, rfl⟩
  obtain ⟨h3, h4⟩ := h2 _ List.mem_cons_self
  obtain ⟨c, cs, rfl⟩ : ∃ c cs, e = c :: cs := by
    cases e with
    | nil => simp at h3
    | cons c cs => exact ⟨c, cs, rfl⟩
  obtain ⟨h5, h6⟩ := h4 _ List.mem_cons_self
  have hfr : At { r with seg := [], el := [], pc := [], mode := 1 } r.out [] [] [] := ⟨rfl, rfl, rfl, rfl, rfl⟩
  cases hb : blankS ((c :: cs) :: es) with
  | false =>
    obtain ⟨b, l, e1, e2⟩ := wS_first (cs := cs) (es := es) h6 hb
    rw [e1]
    refine goes_fresh h0 hn e2 ?_
    rw [← e1]
    have := goes_rest (pc := []) c.data.toList hfr rfl hr
    rw [wS_eq, hb, if_neg Bool.false_ne_true, List.nil_append]
    exact this
  | true =>
    obtain ⟨q, hq⟩ : ∃ q, c.data.toList = 32 :: q := by
      cases hd : c.data.toList with
      | nil => simp [blankS, Lib.hasPrefix, hd] at hb
      | cons b t => exact ⟨t, by simp [blankS, Lib.hasPrefix, hd] at hb; rw [hb]⟩
    have e1 : wS ((c :: cs) :: es) = 63 :: ([32] ++ (q.flatMap relB ++ ((cs.flatMap fun y => 58 :: wC y) ++ ((es.flatMap fun y => 43 :: wE y) ++ [39])))) := by
      have hrel : relB 32 = [32] := by decide
      rw [wS_eq, hb, if_pos rfl, hq, List.flatMap_cons, hrel]
      rfl
    rw [e1]
    refine goes_fresh h0 hn (by decide) ?_
    exact Goes.app (l := [63, 32]) (goes_rel hfr (by decide) (.inr rfl)) fun r1 k1 => goes_rest q k1 hq hr
theorem goes_all : ∀ (l : List Segm) (r : Rd), r.mode = 0 → r.out.length + l.length ≤ 5000 → l.all rightS = true → Goes (l.flatMap wS) r fun r' => r'.mode = 0 ∧ r'.out = r.out ++ l
  | [], r, h0, _, _ => Goes.nil ⟨h0, by simp⟩
  | s :: l, r, h0, hn, hr => by
    rw [List.all_cons, Bool.and_eq_true] at hr
    rw [List.length_cons] at hn
    rw [List.flatMap_cons]
    refine Goes.app (goes_seg h0 (by omega) hr.1) fun r1 k1 => ?_
    refine (goes_all l r1 k1.1 (by rw [k1.2, List.length_append, List.length_singleton]; omega) hr.2).mono ?_
    rintro r2 ⟨k2, k3⟩
    exact ⟨k2, by rw [k3, k1.2]; simp⟩
theorem goes_fin {l : List UInt8} {o : List Segm} (h : Goes l rd0 fun r' => r'.mode = 0 ∧ r'.out = o) : runE l 0 rd0 = (o, 0, 0) := by
  obtain ⟨r, h1, h2, h3⟩ := h 0
  rw [runE_eq, h1]
  dsimp only
  unfold finE
  rw [if_neg (by omega), if_neg (by omega), h3]
/-- what is written is read as it was -/
theorem back {l : List Segm} (hn : l.length ≤ 5000) (hr : l.all rightS = true) : runE (l.flatMap wS) 0 rd0 = (l, 0, 0) :=
  goes_fin ((goes_all l rd0 rfl (by show 0 + _ ≤ _; omega) hr).mono fun r' h => ⟨h.1, by rw [h.2]; rfl⟩)
theorem writeRun_eq : ∀ (l : List Segm) (acc : List UInt8), (acc ++ l.flatMap wS).length ≤ 65536 → writeRun l acc = (ba (acc ++ l.flatMap wS), 0)
  | [], acc, _ => by unfold writeRun; simp
  | s :: l, acc, h => by
    rw [List.flatMap_cons, ← List.append_assoc] at h
    have h2 := h
    rw [List.length_append] at h2
    unfold writeRun
    rw [if_neg (by omega), writeRun_eq l _ h, List.flatMap_cons, List.append_assoc]
theorem writeL_eq {l : List Segm} (hn : l.length ≤ 5000) (hr : l.all rightS = true) (hl : (l.flatMap wS).length ≤ 65536) : writeL l = (ba (l.flatMap wS), 0) := by
  unfold writeL
  rw [if_neg (by omega), if_pos hr, writeRun_eq l [] (by simpa using hl), List.nil_append]
end
end Go.Proofs.YtdohcglpcgahaaaGreatDoor
