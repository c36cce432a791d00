/-
  What is read is right, and not longer when it is written: LexAgain, plain. No program in sight.
-/
import Derived.Test.YtdohcglpcgahaaaGreatDoorRPX
set_option linter.unusedSimpArgs false
set_option linter.unusedVariables false
namespace Go.Proofs.YtdohcglpcgahaaaGreatDoor
open Go Sat Go.RowKit Go.PlainAid
def curS (sg : Segm) (el : Elem) (pc : List UInt8) : Segm := sg ++ [el ++ [ba pc]]
/-- the open segment as it would be written so far -/
def wO (sg : Segm) (el : Elem) (pc : List UInt8) : List UInt8 := (if blankS (curS sg el pc) = true then [63] else []) ++ joinW 43 wE (curS sg el pc)
theorem joinW_snoc {α : Type} (c : UInt8) (f : α → List UInt8) : ∀ (l : List α) (x : α), joinW c f (l ++ [x]) = (l.flatMap fun y => f y ++ [c]) ++ f x
  | [], x => by simp [joinW]
  | [y], x => by simp [joinW]
  | y :: z :: l, x => by
    have h := joinW_snoc c f (z :: l) x
    have h1 : joinW c f (y :: z :: l ++ [x]) = f y ++ (c :: joinW c f (z :: l ++ [x])) := by simp [joinW]
    rw [h1, h]
    simp
theorem wE_snoc (el : Elem) (c : ByteArray) : wE (el ++ [c]) = (el.flatMap fun y => wC y ++ [58]) ++ wC c := joinW_snoc 58 wC el c
theorem wC_ba (l : List UInt8) : wC (ba l) = l.flatMap relB := rfl
theorem wO_eq (sg : Segm) (el : Elem) (pc : List UInt8) : wO sg el pc = (if blankS (curS sg el pc) = true then [63] else []) ++ ((sg.flatMap fun e => wE e ++ [43]) ++ ((el.flatMap fun y => wC y ++ [58]) ++ pc.flatMap relB)) := by
  unfold wO curS
  rw [joinW_snoc, wE_snoc, wC_ba]
theorem blank_keep {sg : Segm} {el : Elem} {pc : List UInt8} {b : UInt8} (h : sg = [] → el = [] → pc ≠ []) : blankS (curS sg el (pc ++ [b])) = blankS (curS sg el pc) := by
  unfold curS
  cases sg with
  | nil =>
    cases el with
    | nil =>
      cases pc with
      | nil => exact absurd rfl (h rfl rfl)
      | cons x l => simp [blankS, Lib.hasPrefix, ba, List.isPrefixOf]
    | cons x l => simp [blankS]
  | cons e l =>
    cases e with
    | nil => simp [blankS]
    | cons x l => simp [blankS]
theorem blank_new {b : UInt8} : blankS (curS [] [] [b]) = true ↔ b = 32 := by
  show ([32].isPrefixOf [b]) = true ↔ b = 32
  rw [List.isPrefixOf, List.isPrefixOf, Bool.and_true, beq_iff_eq]
  exact eq_comm
theorem blank_colon {sg : Segm} {el : Elem} {pc : List UInt8} : blankS (curS sg (el ++ [ba pc]) []) = blankS (curS sg el pc) := by
  unfold curS
  cases sg with
  | nil =>
    cases el with
    | nil => simp [blankS]
    | cons x l => simp [blankS]
  | cons e l =>
    cases e with
    | nil => simp [blankS]
    | cons x l => simp [blankS]
theorem blank_plus {sg : Segm} {el : Elem} {pc : List UInt8} : blankS (curS (sg ++ [el ++ [ba pc]]) [] []) = blankS (curS sg el pc) := by
  unfold curS
  cases sg with
  | nil =>
    cases el with
    | nil => simp [blankS]
    | cons x l => simp [blankS]
  | cons e l =>
    cases e with
    | nil => simp [blankS]
    | cons x l => simp [blankS]
theorem wO_colon (sg : Segm) (el : Elem) (pc : List UInt8) : (wO sg (el ++ [ba pc]) []).length = (wO sg el pc).length + 1 := by
  rw [wO_eq, wO_eq, blank_colon]
  simp only [List.length_append, List.flatMap_append, List.flatMap_cons, List.flatMap_nil, List.length_cons, List.length_nil, List.append_nil, wC_ba]
  omega
theorem wO_plus (sg : Segm) (el : Elem) (pc : List UInt8) : (wO (sg ++ [el ++ [ba pc]]) [] []).length = (wO sg el pc).length + 1 := by
  rw [wO_eq, wO_eq, blank_plus]
  simp only [List.length_append, List.flatMap_append, List.flatMap_cons, List.flatMap_nil, List.length_cons, List.length_nil, List.append_nil, wC_ba, wE_snoc]
  omega
theorem wO_end (sg : Segm) (el : Elem) (pc : List UInt8) : (wS (sg ++ [el ++ [ba pc]])).length = (wO sg el pc).length + 1 := by
  unfold wS wO curS
  simp only [List.length_append, List.length_cons, List.length_nil]
theorem wO_keep (sg : Segm) (el : Elem) (pc : List UInt8) (b : UInt8) (h : sg = [] → el = [] → pc = [] → b ≠ 32) : (wO sg el (pc ++ [b])).length = (wO sg el pc).length + (relB b).length := by
  rw [wO_eq, wO_eq]
  have hb : blankS (curS sg el (pc ++ [b])) = blankS (curS sg el pc) := by
    by_cases h0 : sg = [] ∧ el = [] ∧ pc = []
    · obtain ⟨rfl, rfl, rfl⟩ := h0
      have h1 := h rfl rfl rfl
      have h2 : blankS (curS [] [] ([] ++ [b])) = false := by
        rw [← Bool.not_eq_true]
        exact fun e => h1 (blank_new.1 e)
      rw [h2]
      rfl
    · exact blank_keep fun a c d => h0 ⟨a, c, d⟩
  rw [hb]
  simp only [List.length_append, List.flatMap_append, List.flatMap_cons, List.flatMap_nil, List.length_cons, List.length_nil, List.append_nil]
  omega
theorem wO_first (sg : Segm) (el : Elem) (pc : List UInt8) : (wO sg el (pc ++ [32])).length ≤ (wO sg el pc).length + 2 := by
  by_cases h0 : sg = [] ∧ el = [] ∧ pc = []
  · obtain ⟨rfl, rfl, rfl⟩ := h0
    rw [wO_eq, wO_eq]
    simp only [List.nil_append, List.flatMap_nil, List.append_nil, List.length_append, List.flatMap_cons]
    have h1 : (relB 32).length = 1 := by decide
    split <;> simp [h1] <;> omega
  · rw [wO_keep sg el pc 32 (fun a b c => absurd ⟨a, b, c⟩ h0), show (relB 32).length = 1 by decide]
    omega
/-- the reader's state: all that was read is right -/
structure Inv (r : Rd) : Prop where
  out : r.out.all rightS = true
  seg : r.mode ≠ 0 → ∀ e ∈ r.seg, rightE e = true
  el : r.mode ≠ 0 → ∀ c ∈ r.el, rightC c = true
  pc : r.mode ≠ 0 → ∀ b ∈ r.pc, badB b = false
  one : r.mode = 1 → r.seg = [] → r.el = [] → r.pc ≠ []
def wl (r : Rd) : Nat := (r.out.flatMap wS).length + if r.mode = 0 then 0 else (wO r.seg r.el r.pc).length + (if r.mode = 2 then 1 else 0)
theorem rightC_ba {pc : List UInt8} (hl : pc.length ≤ 100) (h : ∀ b ∈ pc, badB b = false) : rightC (ba pc) = true := by
  unfold rightC
  rw [Bool.and_eq_true, decide_eq_true_iff]
  refine ⟨hl, ?_⟩
  show (!pc.any badB) = true
  rw [Bool.not_eq_true', List.any_eq_false]
  intro b hb
  rw [h b hb]
  simp
theorem rightE_of {el : Elem} {pc : List UInt8} (hl : el.length ≤ 9) (hp : pc.length ≤ 100) (h : ∀ c ∈ el, rightC c = true) (h2 : ∀ b ∈ pc, badB b = false) : rightE (el ++ [ba pc]) = true := by
  unfold rightE
  rw [Bool.and_eq_true, decide_eq_true_iff, List.all_append, Bool.and_eq_true, List.all_eq_true]
  exact ⟨by rw [List.length_append, List.length_singleton]; omega, h, by simp [rightC_ba hp h2]⟩
theorem chr_toNat {c : Int} (h0 : 0 ≤ c) (h1 : c ≤ 255) : ((chr c).toNat : Int) = c := by
  unfold chr
  rw [UInt8.toNat_ofNat']
  omega
theorem relB_one {b : UInt8} (h : ¬ svc (b.toNat : Int)) : (relB b).length = 1 := by unfold relB; rw [if_neg h]; rfl
theorem ins_inv {r r' : Rd} {i c : Int} (ha : RdAll r) (hm : r.mode = 1) (ho : r.out.all rightS = true) (hs : ∀ e ∈ r.seg, rightE e = true) (he : ∀ c ∈ r.el, rightC c = true) (hp : ∀ b ∈ r.pc, badB b = false)
    (hb : r.seg = [] → r.el = [] → r.pc = [] → c ≠ 32) (h0 : 0 ≤ c) (h1 : c ≤ 255) (h : insE r i c = .ok r') : Inv r' ∧ wl r' ≤ (r.out.flatMap wS).length + (wO r.seg r.el r.pc).length + 1 := by
  obtain ⟨⟨g1, g2, g3, g4⟩, g5, g6, g7⟩ := ha
  unfold insE at h
  split at h
  · cases h
    have hE := rightE_of g3 g4 he hp
    refine ⟨⟨?_, fun h => absurd rfl h, fun h => absurd rfl h, fun h => absurd rfl h, fun h => by cases h⟩, ?_⟩
    · show (r.out ++ [r.seg ++ [r.el ++ [ba r.pc]]]).all rightS = true
      rw [List.all_append, ho, Bool.true_and, List.all_cons, List.all_nil, Bool.and_true]
      unfold rightS
      rw [Bool.and_eq_true, decide_eq_true_iff, List.all_append, Bool.and_eq_true, List.all_eq_true]
      exact ⟨by rw [List.length_append, List.length_singleton]; omega, hs, by simp [hE]⟩
    · unfold wl
      rw [if_pos rfl]
      show ((r.out ++ [r.seg ++ [r.el ++ [ba r.pc]]]).flatMap wS).length + 0 ≤ _
      rw [List.flatMap_append, List.length_append, List.flatMap_cons, List.flatMap_nil, List.append_nil, wO_end]
      omega
  split at h
  · cases h
  split at h
  · cases h
  split at h
  · cases h
    have hE := rightE_of g3 g4 he hp
    refine ⟨⟨ho, fun _ e hx => ?_, fun _ c hx => (by cases hx), fun _ c hx => (by cases hx), fun _ hx => by simp at hx⟩, ?_⟩
    · rcases List.mem_append.1 hx with hx | hx
      · exact hs e hx
      · rw [List.mem_singleton.1 hx]; exact hE
    · show (r.out.flatMap wS).length + ((wO (r.seg ++ [r.el ++ [ba r.pc]]) [] []).length + 0) ≤ _
      rw [wO_plus]
      omega
  split at h
  · cases h
    have hE := rightC_ba g4 hp
    refine ⟨⟨ho, fun _ => hs, fun _ e hx => ?_, fun _ c hx => (by cases hx), fun _ _ hx => by simp at hx⟩, ?_⟩
    · rcases List.mem_append.1 hx with hx | hx
      · exact he e hx
      · rw [List.mem_singleton.1 hx]; exact hE
    · show (r.out.flatMap wS).length + ((wO r.seg (r.el ++ [ba r.pc]) []).length + 0) ≤ _
      rw [wO_colon]
      omega
  split at h
  · cases h
  split at h
  · cases h
    exact ⟨⟨ho, fun _ => hs, fun _ => he, fun _ => hp, fun h => by cases h⟩, by
      show (r.out.flatMap wS).length + ((wO r.seg r.el r.pc).length + 1) ≤ _
      omega⟩
  · rename_i k1 k2 k3 k4 k5 k6 k7
    unfold keepE at h
    split at h
    · cases h
    cases h
    have hc := chr_toNat h0 h1
    have hbad : badB (chr c) = false := by
      unfold badB
      exact decide_eq_false (by omega)
    have hsv : ¬ svc ((chr c).toNat : Int) := by rw [hc]; unfold svc; omega
    refine ⟨⟨ho, fun _ => hs, fun _ => he, fun _ b hx => ?_, fun _ _ _ hx => by simp at hx⟩, ?_⟩
    · rcases List.mem_append.1 hx with hx | hx
      · exact hp b hx
      · rw [List.mem_singleton.1 hx]; exact hbad
    · show (r.out.flatMap wS).length + ((wO r.seg r.el (r.pc ++ [chr c])).length + 0) ≤ _
      rw [wO_keep _ _ _ _ (fun a b d e => hb a b d (by rw [← hc, e]; rfl)), relB_one hsv]
      omega
theorem step_inv {r r' : Rd} {i c : Int} (ha : RdAll r) (hi : Inv r) (h0 : 0 ≤ c) (h1 : c ≤ 255) (h : stepE r i c = .ok r') : Inv r' ∧ wl r' ≤ wl r + 1 := by
  unfold stepE at h
  split at h
  · rename_i m0
    have hw : wl r = (r.out.flatMap wS).length := by unfold wl; rw [if_pos m0]; rfl
    unfold btwE at h
    split at h
    · cases h; exact ⟨hi, Nat.le_succ _⟩
    split at h
    · cases h
    · rename_i hc hn
      have h2 := ha.ok.out
      have := ins_inv (r := { r with seg := [], el := [], pc := [], mode := 1 }) ⟨⟨h2, Nat.zero_le _, Nat.zero_le _, Nat.zero_le _⟩, by show 1 ≤ 2; decide, fun h => absurd h (by decide : (1 : Nat) ≠ 0), fun _ => by show r.out.length < 5000; omega⟩ rfl hi.out (fun e hx => by cases hx) (fun e hx => by cases hx) (fun e hx => by cases hx) (fun _ _ _ => by omega) h0 h1 h
      rw [hw]
      exact this
  split at h
  · rename_i m0 m1
    have hw : wl r = (r.out.flatMap wS).length + (wO r.seg r.el r.pc).length := by unfold wl; rw [if_neg m0, if_neg (by omega)]; omega
    rw [hw]
    exact ins_inv ha m1 hi.out (hi.seg m0) (hi.el m0) (hi.pc m0) (fun a b d => absurd d (hi.one m1 a b)) h0 h1 h
  · rename_i m0 m1
    have m2 : r.mode = 2 := by have := ha.mode; omega
    have hw : wl r = (r.out.flatMap wS).length + (wO r.seg r.el r.pc).length + 1 := by unfold wl; rw [if_neg m0, if_pos m2]; omega
    rw [hw]
    unfold relE at h
    split at h
    · cases h
    rename_i hc
    unfold keepE at h
    split at h
    · cases h
    cases h
    have hc' := chr_toNat h0 h1
    have hcc : c = 32 ∨ svc c := by
      by_cases h5 : c = 32
      · exact .inl h5
      · exact .inr (Classical.not_not.1 fun h6 => hc ⟨h5, h6⟩)
    have hbad : badB (chr c) = false := by
      unfold badB
      refine decide_eq_false ?_
      unfold svc at hcc
      omega
    refine ⟨⟨hi.out, fun _ => hi.seg m0, fun _ => hi.el m0, fun _ b hx => ?_, fun _ _ _ hx => by simp at hx⟩, ?_⟩
    · rcases List.mem_append.1 hx with hx | hx
      · exact hi.pc m0 b hx
      · rw [List.mem_singleton.1 hx]; exact hbad
    · show (r.out.flatMap wS).length + ((wO r.seg r.el (r.pc ++ [chr c])).length + 0) ≤ _
      rcases hcc with h5 | h5
      · have h6 : chr c = 32 := UInt8.toNat_inj.1 (by rw [show (32 : UInt8).toNat = 32 from rfl]; omega)
        rw [h6]
        have := wO_first r.seg r.el r.pc
        omega
      · have h7 : (relB (chr c)).length ≤ 2 := relB_len _
        rw [wO_keep _ _ _ _ (fun _ _ _ e => by
          have h8 : ((chr c).toNat : Int) = 32 := by rw [e]; rfl
          unfold svc at h5
          omega)]
        omega
theorem run_inv : ∀ (l : List UInt8) (i : Nat) (r r' : Rd), RdAll r → Inv r → runS l i r = .ok r' → Inv r' ∧ wl r' ≤ wl r + l.length
  | [], _, r, r', ha, hi, e => by cases e; exact ⟨hi, Nat.le_refl _⟩
  | b :: l, i, r, r', ha, hi, e => by
    unfold runS at e
    cases hs : stepE r i b.toNat with
    | error x => rw [hs] at e; cases e
    | ok r1 =>
      rw [hs] at e
      have hb := UInt8.toNat_lt b
      obtain ⟨h1, h2⟩ := step_inv ha hi (by omega) (by omega) hs
      obtain ⟨h3, h4⟩ := run_inv l (i + 1) r1 r' (stepE_all ha hs) h1 e
      exact ⟨h3, by rw [List.length_cons]; omega⟩
theorem rd0_inv : Inv rd0 := ⟨rfl, fun h => absurd rfl h, fun h => absurd rfl h, fun h => absurd rfl h, fun h => by cases h⟩
/-- what is read without an error -/
structure Again (t : List UInt8) (l : List Segm) (p : Int) : Prop where
  pos : p = 0
  right : l.all rightS = true
  len : (l.flatMap wS).length ≤ t.length
  few : l.length ≤ 5000
theorem again {t : List UInt8} {l : List Segm} {p : Int} (h : runE t 0 rd0 = (l, p, 0)) : Again t l p := by
  rw [runE_eq] at h
  cases hs : runS t 0 rd0 with
  | error e =>
    obtain ⟨l1, c, l2, r1, -, -, h3⟩ := run_split _ _ _ _ hs
    rw [hs] at h
    exact absurd (Prod.mk.inj (Prod.mk.inj h).2).2 (stepE_code h3)
  | ok r =>
    rw [hs] at h
    dsimp only at h
    unfold finE at h
    split at h
    · cases h
    split at h
    · cases h
    rename_i n2 n1
    cases h
    obtain ⟨h1, h2⟩ := run_inv t 0 rd0 r rd0_all rd0_inv hs
    have hall := runS_all _ _ _ _ rd0_all hs
    refine ⟨rfl, h1.out, ?_, hall.ok.out⟩
    have h3 : wl r = (r.out.flatMap wS).length := by
      unfold wl
      rw [if_pos (by have := hall.mode; omega)]
      rfl
    have h4 : wl rd0 = 0 := rfl
    omega
/-- where an error is -/
structure Wrong (t : List UInt8) (l : List Segm) (p q : Int) : Prop where
  nil : l = []
  ge : 0 ≤ p
  le : p ≤ t.length
  end_ : p = t.length ↔ q = 42
end Go.Proofs.YtdohcglpcgahaaaGreatDoor
