/-
  What is written is read: runs over what Write makes; what is read is right and not longer when it is written. No program in sight.
-/
import Derived.Test.YtdohcglpcgahaaaDoorRP4
import Derived.Test.YtdohcglpcgahaaaDoorWP
set_option linter.unusedSimpArgs false
set_option linter.unusedVariables false
namespace Go.Proofs.YtdohcglpcgahaaaDoor
open Go Sat Go.RowKit Go.PlainAid
def Goes (l : List UInt8) (r : Rd) (Q : Rd → Prop) : Prop := ∀ i, ∃ r', runS l i r = .ok r' ∧ Q r'
theorem Goes.app {l m : List UInt8} {r : Rd} {Q R : Rd → Prop} (h : Goes l r Q) (k : ∀ r', Q r' → Goes m r' R) : Goes (l ++ m) r R := by
  intro i
  obtain ⟨r1, h1, h2⟩ := h i
  obtain ⟨r2, h3, h4⟩ := k r1 h2 (i + l.length)
  exact ⟨r2, by rw [runS_append, h1]; exact h3, h4⟩
theorem Goes.nil {r : Rd} {Q : Rd → Prop} (h : Q r) : Goes [] r Q := fun i => ⟨r, rfl, h⟩
theorem Goes.mono {l : List UInt8} {r : Rd} {Q R : Rd → Prop} (h : Goes l r Q) (k : ∀ r', Q r' → R r') : Goes l r R := fun i => by
  obtain ⟨r1, h1, h2⟩ := h i
  exact ⟨r1, h1, k _ h2⟩
theorem Goes.one {b : UInt8} {r : Rd} {Q : Rd → Prop} (h : ∀ i : Int, ∃ r', stepE r i b.toNat = .ok r' ∧ Q r') : Goes [b] r Q := fun i => by
  obtain ⟨r1, h1, h2⟩ := h i
  exact ⟨r1, by unfold runS; rw [h1]; rfl, h2⟩
/-- inside a segment -/
structure At (r : Rd) (o : List Segm) (sg : Segm) (el : Elem) (pc : List UInt8) : Prop where
  mode : r.mode = 1
  out : r.out = o
  seg : r.seg = sg
  el : r.el = el
  pc : r.pc = pc
theorem chr_b (b : UInt8) : chr (b.toNat : Int) = b := by
  unfold chr
  rw [Int.toNat_natCast]
  exact UInt8.ofNat_toNat
theorem badB_no {b : UInt8} (h : badB b = false) : 32 ≤ b.toNat ∧ b.toNat ≤ 126 := by
  unfold badB at h
  have := of_decide_eq_false h
  omega
theorem step1 {r : Rd} (h : r.mode = 1) (i c : Int) : stepE r i c = insE r i c := by
  unfold stepE
  rw [if_neg (by omega), if_pos h]
theorem step2 {r : Rd} (h : r.mode = 2) (i c : Int) : stepE r i c = relE r i c := by
  unfold stepE
  rw [if_neg (by omega), if_neg (by omega)]
theorem ins_keep {r : Rd} {i c : Int} (h1 : 32 ≤ c) (h2 : c ≤ 126) (h3 : ¬ svc c) : insE r i c = keepE r i c := by
  unfold svc at h3
  unfold insE
  rw [if_neg (by omega), if_neg (by omega), if_neg (by omega), if_neg (by omega), if_neg (by omega), if_neg (by omega), if_neg (by omega)]
theorem ins_rel {r : Rd} {i : Int} : insE r i 63 = .ok { r with mode := 2, mark := i } := by
  unfold insE
  rw [if_neg (by omega), if_neg (by omega), if_neg (by omega), if_neg (by omega), if_neg (by omega), if_neg (by omega), if_pos rfl]
theorem keep_ok {r : Rd} {p : Int} {b : UInt8} (h : r.pc.length < 100) : keepE r p b.toNat = .ok { r with pc := r.pc ++ [b], mode := 1 } := by
  unfold keepE
  rw [if_neg (by omega), chr_b]
theorem goes_rel {r : Rd} {o : List Segm} {sg : Segm} {el : Elem} {pc : List UInt8} {b : UInt8} (h : At r o sg el pc) (hp : pc.length < 100) (hb : svc (b.toNat : Int) ∨ b.toNat = 32) : Goes [63, b] r fun r' => At r' o sg el (pc ++ [b]) := by
  refine Goes.app (l := [63]) (m := [b]) (Q := fun r' => r'.mode = 2 ∧ r'.out = o ∧ r'.seg = sg ∧ r'.el = el ∧ r'.pc = pc) (Goes.one fun i => ⟨_, (step1 h.mode i _).trans ins_rel, rfl, h.out, h.seg, h.el, h.pc⟩) fun r' hr => ?_
  obtain ⟨h1, h2, h3, h4, h5⟩ := hr
  refine Goes.one fun i => ⟨_, (step2 h1 i _).trans (?_ : relE r' i b.toNat = .ok { r' with pc := r'.pc ++ [b], mode := 1 }), rfl, h2, h3, h4, by show r'.pc ++ [b] = pc ++ [b]; rw [h5]⟩
  unfold relE
  rw [if_neg (by rintro ⟨ha, hc⟩; rcases hb with hb | hb; exact hc hb; omega)]
  exact keep_ok (by rw [h5]; exact hp)
theorem goes_b {r : Rd} {o : List Segm} {sg : Segm} {el : Elem} {pc : List UInt8} {b : UInt8} (h : At r o sg el pc) (hp : pc.length < 100) (hb : badB b = false) : Goes (relB b) r fun r' => At r' o sg el (pc ++ [b]) := by
  have h1 := badB_no hb
  unfold relB
  by_cases hs : svc (b.toNat : Int)
  · rw [if_pos hs]
    exact goes_rel h hp (.inl hs)
  · rw [if_neg hs]
    refine Goes.one fun i => ⟨_, (step1 h.mode i _).trans ((ins_keep (by omega) (by omega) hs).trans (keep_ok (by rw [h.pc]; exact hp))), rfl, h.out, h.seg, h.el, by show r.pc ++ [b] = pc ++ [b]; rw [h.pc]⟩
theorem goes_C {o : List Segm} {sg : Segm} {el : Elem} : ∀ (p : List UInt8) (pc : List UInt8) (r : Rd), At r o sg el pc → pc.length + p.length ≤ 100 → p.any badB = false → Goes (p.flatMap relB) r fun r' => At r' o sg el (pc ++ p)
  | [], pc, r, h, _, _ => Goes.nil (by rw [List.append_nil]; exact h)
  | b :: p, pc, r, h, hl, hb => by
    rw [List.any_cons, Bool.or_eq_false_iff] at hb
    rw [List.length_cons] at hl
    rw [List.flatMap_cons]
    refine Goes.app (goes_b h (by omega) hb.1) fun r' h' => ?_
    rw [show pc ++ b :: p = (pc ++ [b]) ++ p from by simp]
    exact goes_C p _ r' h' (by rw [List.length_append, List.length_singleton]; omega) hb.2
theorem ba_data (c : ByteArray) : ba c.data.toList = c := rfl
theorem goes_colon {r : Rd} {o : List Segm} {sg : Segm} {el : Elem} {pc : List UInt8} (h : At r o sg el pc) (hl : el.length < 9) : Goes [58] r fun r' => At r' o sg (el ++ [ba pc]) [] := by
  refine Goes.one fun i => ⟨_, (step1 h.mode i _).trans (?_ : insE r i 58 = .ok { r with el := r.el ++ [ba r.pc], pc := [], mode := 1 }), rfl, h.out, h.seg, by show r.el ++ [ba r.pc] = _; rw [h.el, h.pc], rfl⟩
  unfold insE
  rw [if_neg (by omega), if_neg (by omega), if_neg (by rw [h.el]; omega), if_neg (by omega), if_pos rfl]
theorem goes_plus {r : Rd} {o : List Segm} {sg : Segm} {el : Elem} {pc : List UInt8} (h : At r o sg el pc) (hl : sg.length < 29) : Goes [43] r fun r' => At r' o (sg ++ [el ++ [ba pc]]) [] [] := by
  refine Goes.one fun i => ⟨_, (step1 h.mode i _).trans (?_ : insE r i 43 = .ok { r with seg := r.seg ++ [r.el ++ [ba r.pc]], el := [], pc := [], mode := 1 }), rfl, h.out, by show r.seg ++ [r.el ++ [ba r.pc]] = _; rw [h.seg, h.el, h.pc], rfl, rfl⟩
  unfold insE
  rw [if_neg (by omega), if_neg (by rw [h.seg]; omega), if_neg (by omega), if_pos rfl]
theorem goes_end {r : Rd} {o : List Segm} {sg : Segm} {el : Elem} {pc : List UInt8} (h : At r o sg el pc) : Goes [39] r fun r' => r'.mode = 0 ∧ r'.out = o ++ [sg ++ [el ++ [ba pc]]] := by
  refine Goes.one fun i => ⟨_, (step1 h.mode i _).trans (?_ : insE r i 39 = .ok { r with out := r.out ++ [r.seg ++ [r.el ++ [ba r.pc]]], seg := [], el := [], pc := [], mode := 0 }), rfl, by show r.out ++ _ = _; rw [h.out, h.seg, h.el, h.pc]⟩
  unfold insE
  rw [if_pos rfl]
theorem goes_Cs {o : List Segm} {sg : Segm} : ∀ (cs : Elem) (el : Elem) (pc : List UInt8) (r : Rd), At r o sg el pc → el.length + cs.length ≤ 9 → (∀ c ∈ cs, c.size ≤ 100 ∧ c.data.toList.any badB = false) → Goes (cs.flatMap fun y => 58 :: wC y) r fun r' => ∃ el' pc', At r' o sg el' pc' ∧ el' ++ [ba pc'] = el ++ [ba pc] ++ cs
  | [], el, pc, r, h, _, _ => Goes.nil ⟨el, pc, h, by simp⟩
  | c :: cs, el, pc, r, h, hl, hc => by
    rw [List.length_cons] at hl
    obtain ⟨h1, h2⟩ := hc c List.mem_cons_self
    rw [List.flatMap_cons, List.cons_append, ← List.singleton_append]
    refine Goes.app (goes_colon h (by omega)) fun r1 k1 => ?_
    refine Goes.app (goes_C c.data.toList [] r1 k1 (by show 0 + c.size ≤ 100; omega) h2) fun r2 k2 => ?_
    rw [List.nil_append] at k2
    refine (goes_Cs cs _ _ r2 k2 (by rw [List.length_append, List.length_singleton]; omega) fun y hy => hc y (List.mem_cons_of_mem _ hy)).mono ?_
    rintro r3 ⟨el', pc', k3, k4⟩
    refine ⟨el', pc', k3, ?_⟩
    rw [k4, ba_data]
    simp
theorem rightE_at {e : Elem} (h : rightE e = true) : (1 ≤ e.length ∧ e.length ≤ 10) ∧ ∀ c ∈ e, c.size ≤ 100 ∧ c.data.toList.any badB = false := by
  unfold rightE at h
  rw [Bool.and_eq_true, decide_eq_true_iff, List.all_eq_true] at h
  refine ⟨h.1, fun c hc => ?_⟩
  have h3 := h.2 c hc
  unfold rightC at h3
  rw [Bool.and_eq_true, decide_eq_true_iff] at h3
  exact ⟨h3.1, by simpa using h3.2⟩
theorem goes_Es {o : List Segm} : ∀ (es : Segm) (sg : Segm) (el : Elem) (pc : List UInt8) (r : Rd), At r o sg el pc → sg.length + es.length ≤ 29 → (∀ e ∈ es, rightE e = true) → Goes (es.flatMap fun y => 43 :: wE y) r fun r' => ∃ sg' el' pc', At r' o sg' el' pc' ∧ sg' ++ [el' ++ [ba pc']] = sg ++ [el ++ [ba pc]] ++ es
  | [], sg, el, pc, r, h, _, _ => Goes.nil ⟨sg, el, pc, h, by simp⟩
  | e :: es, sg, el, pc, r, h, hl, hc => by
    rw [List.length_cons] at hl
    obtain ⟨h1, h2⟩ := rightE_at (hc e List.mem_cons_self)
    rw [List.flatMap_cons, List.cons_append, ← List.singleton_append]
    refine Goes.app (goes_plus h (by omega)) fun r1 k1 => ?_
    refine Goes.app (Q := fun r' => ∃ el' pc', At r' o (sg ++ [el ++ [ba pc]]) el' pc' ∧ el' ++ [ba pc'] = e) ?_ fun r2 k2 => ?_
    · cases e with
      | nil => simp at h1
      | cons c cs =>
        obtain ⟨h3, h4⟩ := h2 c List.mem_cons_self
        rw [List.length_cons] at h1
        unfold wE joinW
        refine Goes.app (goes_C c.data.toList [] r1 k1 (by show 0 + c.size ≤ 100; omega) h4) fun r2 k2 => ?_
        rw [List.nil_append] at k2
        refine (goes_Cs cs _ _ r2 k2 (by simp; omega) fun y hy => h2 y (List.mem_cons_of_mem _ hy)).mono ?_
        rintro r3 ⟨el', pc', k3, k4⟩
        exact ⟨el', pc', k3, by rw [k4, ba_data]; simp⟩
    obtain ⟨el', pc', k3, k4⟩ := k2
    refine (goes_Es es _ _ _ r2 k3 (by rw [List.length_append, List.length_singleton]; omega) fun y hy => hc y (List.mem_cons_of_mem _ hy)).mono ?_
    rintro r3 ⟨sg', el2, pc2, k5, k6⟩
    refine ⟨sg', el2, pc2, k5, ?_⟩
    rw [k6, k4]
    simp
theorem btw_fresh {r : Rd} (h0 : r.mode = 0) (hn : r.out.length < 5000) {c : Int} (hc : c ≠ 10 ∧ c ≠ 13 ∧ c ≠ 32) (i : Int) : stepE r i c = stepE { r with seg := [], el := [], pc := [], mode := 1 } i c := by
  rw [step1 (r := { r with seg := [], el := [], pc := [], mode := 1 }) rfl]
  unfold stepE
  rw [if_pos h0]
  unfold btwE
  rw [if_neg (by omega), if_neg (by omega)]
theorem goes_fresh {r : Rd} (h0 : r.mode = 0) (hn : r.out.length < 5000) {b : UInt8} {l : List UInt8} {Q : Rd → Prop} (hc : b.toNat ≠ 10 ∧ b.toNat ≠ 13 ∧ b.toNat ≠ 32) (h : Goes (b :: l) { r with seg := [], el := [], pc := [], mode := 1 } Q) : Goes (b :: l) r Q := by
  intro i
  obtain ⟨r', h1, h2⟩ := h i
  refine ⟨r', ?_, h2⟩
  rw [← h1]
  unfold runS
  rw [btw_fresh h0 hn (by omega)]
theorem wS_eq (c : ByteArray) (cs : Elem) (es : Segm) : wS ((c :: cs) :: es) = (if blankS ((c :: cs) :: es) = true then [63] else []) ++ (c.data.toList.flatMap relB ++ ((cs.flatMap fun y => 58 :: wC y) ++ ((es.flatMap fun y => 43 :: wE y) ++ [39]))) := by
  show (if blankS ((c :: cs) :: es) = true then [63] else []) ++ ((c.data.toList.flatMap relB ++ cs.flatMap fun y => 58 :: wC y) ++ es.flatMap fun y => 43 :: wE y) ++ [39] = _
  simp only [List.append_assoc]
/-- the first byte that is written is no blank -/
theorem wS_first {c : ByteArray} {cs : Elem} {es : Segm} (h : c.data.toList.any badB = false) (hb : blankS ((c :: cs) :: es) = false) : ∃ b l, wS ((c :: cs) :: es) = b :: l ∧ b.toNat ≠ 10 ∧ b.toNat ≠ 13 ∧ b.toNat ≠ 32 := by
  rw [wS_eq, hb, if_neg Bool.false_ne_true, List.nil_append]
  cases hd : c.data.toList with
  | nil =>
    cases cs with
    | nil =>
      cases es with
      | nil => exact ⟨39, _, rfl, by decide, by decide, by decide⟩
      | cons e es => exact ⟨43, _, rfl, by decide, by decide, by decide⟩
    | cons d cs => exact ⟨58, _, rfl, by decide, by decide, by decide⟩
  | cons b t =>
    rw [hd, List.any_cons, Bool.or_eq_false_iff] at h
    have h1 := badB_no h.1
    unfold relB
    by_cases hs : svc (b.toNat : Int)
    · exact ⟨63, _, by simp [hs]; rfl, by decide, by decide, by decide⟩
    · refine ⟨b, _, by simp [hs]; rfl, by omega, by omega, fun e => ?_⟩
      have hb2 : b = 32 := UInt8.toNat_inj.1 (by rw [e]; rfl)
      simp [blankS, Lib.hasPrefix, hd, hb2] at hb
theorem goes_rest {r : Rd} {o : List Segm} {c : ByteArray} {cs : Elem} {es : Segm} {pc : List UInt8} (q : List UInt8) (h : At r o [] [] pc) (hq : c.data.toList = pc ++ q) (hr : rightS ((c :: cs) :: es) = true) : Goes (q.flatMap relB ++ ((cs.flatMap fun y => 58 :: wC y) ++ ((es.flatMap fun y => 43 :: wE y) ++ [39]))) r fun r' => r'.mode = 0 ∧ r'.out = o ++ [(c :: cs) :: es] := by
  obtain ⟨h1, h2⟩ := rightS_at hr
  obtain ⟨h3, h4⟩ := h2 _ List.mem_cons_self
  obtain ⟨h5, h6⟩ := h4 _ List.mem_cons_self
  have hsz : c.size = pc.length + q.length := by rw [← List.length_append, ← hq]; rfl
  rw [hq, List.any_append, Bool.or_eq_false_iff] at h6
  rw [List.length_cons] at h1 h3
  refine Goes.app (goes_C q pc r h (by omega) h6.2) fun r1 k1 => ?_
  rw [← hq] at k1
  refine Goes.app (goes_Cs cs _ _ r1 k1 (by simp; omega) fun y hy => h4 y (List.mem_cons_of_mem _ hy)) fun r2 k2 => ?_
  obtain ⟨el', pc', k3, k4⟩ := k2
  refine Goes.app (goes_Es es _ _ _ r2 k3 (by simp; omega) fun y hy => ?_) fun r3 k5 => ?_
  · unfold rightS at hr
    rw [Bool.and_eq_true, List.all_eq_true] at hr
    exact hr.2 y (List.mem_cons_of_mem _ hy)
  obtain ⟨sg', el2, pc2, k6, k7⟩ := k5
  refine (goes_end k6).mono ?_
  rintro r4 ⟨k8, k9⟩
  refine ⟨k8, ?_⟩
  rw [k9, k7, k4, ba_data]
  simp
theorem goes_seg {r : Rd} {s : Segm} (h0 : r.mode = 0) (hn : r.out.length < 5000) (hr : rightS s = true) : Goes (wS s) r fun r' => r'.mode = 0 ∧ r'.out = r.out ++ [s] := by
  obtain ⟨h1, h2⟩ := rightS_at hr
  obtain ⟨e, es, rfl⟩ : ∃ e es, s = e :: es := by
    cases s with
    | nil => simp at h1
    | cons e es => exact ⟨e, es, rfl⟩
  obtain ⟨h3, h4⟩ := h2 _ List.mem_cons_self
  obtain ⟨c, cs, rfl⟩ : ∃ c cs, e = c :: cs := by
    cases e with
    | nil => simp at h3
    | cons c cs => exact ⟨c, cs, rfl⟩
  obtain ⟨h5, h6⟩ := h4 _ List.mem_cons_self
  have hfr : At { r with seg := [], el := [], pc := [], mode := 1 } r.out [] [] [] := ⟨rfl, rfl, rfl, rfl, rfl⟩
  cases hb : blankS ((c :: cs) :: es) with
  | false =>
    obtain ⟨b, l, e1, e2⟩ := wS_first (cs := cs) (es := es) h6 hb
    rw [e1]
    refine goes_fresh h0 hn e2 ?_
    rw [← e1]
    have := goes_rest (pc := []) c.data.toList hfr rfl hr
    rw [wS_eq, hb, if_neg Bool.false_ne_true, List.nil_append]
    exact this
  | true =>
    obtain ⟨q, hq⟩ : ∃ q, c.data.toList = 32 :: q := by
      cases hd : c.data.toList with
      | nil => simp [blankS, Lib.hasPrefix, hd] at hb
      | cons b t => exact ⟨t, by simp [blankS, Lib.hasPrefix, hd] at hb; rw [hb]⟩
    have e1 : wS ((c :: cs) :: es) = 63 :: ([32] ++ (q.flatMap relB ++ ((cs.flatMap fun y => 58 :: wC y) ++ ((es.flatMap fun y => 43 :: wE y) ++ [39])))) := by
      have hrel : relB 32 = [32] := by decide
      rw [wS_eq, hb, if_pos rfl, hq, List.flatMap_cons, hrel]
      rfl
    rw [e1]
    refine goes_fresh h0 hn (by decide) ?_
    exact Goes.app (l := [63, 32]) (goes_rel hfr (by decide) (.inr rfl)) fun r1 k1 => goes_rest q k1 hq hr
theorem goes_all : ∀ (l : List Segm) (r : Rd), r.mode = 0 → r.out.length + l.length ≤ 5000 → l.all rightS = true → Goes (l.flatMap wS) r fun r' => r'.mode = 0 ∧ r'.out = r.out ++ l
  | [], r, h0, _, _ => Goes.nil ⟨h0, by simp⟩
  | s :: l, r, h0, hn, hr => by
    rw [List.all_cons, Bool.and_eq_true] at hr
    rw [List.length_cons] at hn
    rw [List.flatMap_cons]
    refine Goes.app (goes_seg h0 (by omega) hr.1) fun r1 k1 => ?_
    refine (goes_all l r1 k1.1 (by rw [k1.2, List.length_append, List.length_singleton]; omega) hr.2).mono ?_
    rintro r2 ⟨k2, k3⟩
    exact ⟨k2, by rw [k3, k1.2]; simp⟩
theorem goes_fin {l : List UInt8} {o : List Segm} (h : Goes l rd0 fun r' => r'.mode = 0 ∧ r'.out = o) : runE l 0 rd0 = (o, 0, 0) := by
  obtain ⟨r, h1, h2, h3⟩ := h 0
  rw [runE_eq, h1]
  dsimp only
  unfold finE
  rw [if_neg (by omega), if_neg (by omega), h3]
/-- what is written is read as it was -/
theorem back {l : List Segm} (hn : l.length ≤ 5000) (hr : l.all rightS = true) : runE (l.flatMap wS) 0 rd0 = (l, 0, 0) :=
  goes_fin ((goes_all l rd0 rfl (by show 0 + _ ≤ _; omega) hr).mono fun r' h => ⟨h.1, by rw [h.2]; rfl⟩)
/-- bytes between segments -/
theorem goes_blank {r : Rd} {b : UInt8} (h0 : r.mode = 0) (hb : b.toNat = 10 ∨ b.toNat = 13 ∨ b.toNat = 32) : Goes [b] r fun r' => r' = r := by
  refine Goes.one fun i => ⟨r, ?_, rfl⟩
  unfold stepE btwE
  rw [if_pos h0, if_pos (by omega)]
theorem writeRun_eq : ∀ (l : List Segm) (acc : List UInt8), (acc ++ l.flatMap wS).length ≤ 65536 → writeRun l acc = (ba (acc ++ l.flatMap wS), 0)
  | [], acc, _ => by unfold writeRun; simp
  | s :: l, acc, h => by
    rw [List.flatMap_cons, ← List.append_assoc] at h
    have h2 := h
    rw [List.length_append] at h2
    unfold writeRun
    rw [if_neg (by omega), writeRun_eq l _ h, List.flatMap_cons, List.append_assoc]
theorem writeL_eq {l : List Segm} (hn : l.length ≤ 5000) (hr : l.all rightS = true) (hl : (l.flatMap wS).length ≤ 65536) : writeL l = (ba (l.flatMap wS), 0) := by
  unfold writeL
  rw [if_neg (by omega), if_pos hr, writeRun_eq l [] (by simpa using hl), List.nil_append]
end Go.Proofs.YtdohcglpcgahaaaDoor
