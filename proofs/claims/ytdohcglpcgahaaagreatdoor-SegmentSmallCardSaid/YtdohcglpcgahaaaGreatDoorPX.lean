/-
  Messages that are written are read as they were, with trimmed data. No program in sight. A text at one place of a segment, written and read. No program in sight. What is read is right, trimmed, and not longer when it is written. No program in sight.
-/
import Derived.Test.YtdohcglpcgahaaaGreatDoorTP
import Derived.Test.YtdohcglpcgahaaaGreatDoorSSX
import Derived.Test.YtdohcglpcgahaaaGreatDoorRC
import Derived.Test.YtdohcglpcgahaaaGreatDoorSWX
import Derived.Test.YtdohcglpcgahaaaGreatDoorBK
set_option linter.unusedSimpArgs false
set_option linter.unusedVariables false
namespace Go.Proofs.YtdohcglpcgahaaaGreatDoor
section
open Go Sat Go.RowKit Go.PlainAid
theorem cutN_fix (t : Elem) (h : t.length ≤ 1 ∨ t[t.length - 1]? ≠ some emp) : cutN t t.length = t.length := by
  generalize hn : t.length = n at h ⊢
  match n, h with
  | 0, _ => rfl
  | 1, _ => rfl
  | m + 2, h =>
    unfold cutN
    rcases h with h | h
    · omega
    · exact if_neg h
theorem trimE_fix {t : Elem} (h0 : t ≠ []) (h : t.length ≤ 1 ∨ t[t.length - 1]? ≠ some emp) : trimE t = t := by
  unfold trimE
  rw [if_neg h0, cutN_fix t h, List.take_length]
theorem trimE_idem (e : Elem) : trimE (trimE e) = trimE e := by
  by_cases he : e = []
  · subst he
    rfl
  · refine trimE_fix (trimE_ne e) ?_
    have h1 : trimE e = e.take (cutN e e.length) := by unfold trimE; rw [if_neg he]
    have h2 := cutN_le e e.length
    have h4 := cutN_pos e e.length (List.length_pos_iff.2 he)
    have h3 : (trimE e).length = cutN e e.length := by rw [h1, List.length_take]; omega
    rcases (cutN_spec e e.length).2 with h | h
    · exact .inl (by omega)
    · right
      rw [h3, h1, List.getElem?_take, if_pos (by omega)]
      exact h
theorem trimE_one (s : ByteArray) : trimE [s] = [s] := trimE_fix (by simp) (.inl (by simp))
theorem cutM_fix (l : Dat) (h : l = [] ∨ l[l.length - 1]? ≠ some [emp]) : cutM l l.length = l.length := by
  generalize hn : l.length = n at h ⊢
  match n, h with
  | 0, _ => rfl
  | m + 1, h =>
    unfold cutM
    rcases h with h | h
    · rw [h] at hn
      cases hn
    · exact if_neg h
theorem trimS_fix {l : Dat} (h1 : l.map trimE = l) (h2 : l = [] ∨ l[l.length - 1]? ≠ some [emp]) : trimS l = l := by
  unfold trimS
  rw [h1, cutM_fix l h2, List.take_length]
theorem trimS_els (d : Dat) : (trimS d).map trimE = trimS d := by
  unfold trimS
  rw [List.map_take, List.map_map]
  congr 1
  exact List.map_congr_left fun e _ => trimE_idem e
theorem trimS_last (d : Dat) : trimS d = [] ∨ (trimS d)[(trimS d).length - 1]? ≠ some [emp] := by
  have h1 := cutM_le (d.map trimE) d.length
  have hl : (trimS d).length = cutM (d.map trimE) d.length := by unfold trimS; rw [List.length_take, List.length_map]; omega
  rcases (cutM_spec (d.map trimE) d.length).2 with h | h
  · left
    exact List.eq_nil_of_length_eq_zero (by omega)
  · rcases Nat.eq_zero_or_pos (trimS d).length with h0 | h0
    · exact .inl (List.eq_nil_of_length_eq_zero h0)
    · right
      rw [hl]
      unfold trimS
      rw [List.getElem?_take, if_pos (by omega)]
      exact h
theorem trimS_idem (d : Dat) : trimS (trimS d) = trimS d := trimS_fix (trimS_els d) (trimS_last d)
theorem trimS_cons {t : ByteArray} (ht : t ≠ emp) (d : Dat) : trimS ([t] :: trimS d) = [t] :: trimS d := by
  refine trimS_fix (by rw [List.map_cons, trimE_one, trimS_els]) (.inr ?_)
  rw [List.length_cons, Nat.add_sub_cancel]
  rcases trimS_last d with h | h
  · rw [h]
    intro h2
    have := Option.some.inj h2
    exact ht (List.cons.inj this).1
  · rcases Nat.eq_zero_or_pos (trimS d).length with h0 | h0
    · rw [h0]
      intro h2
      have := Option.some.inj h2
      exact ht (List.cons.inj this).1
    · obtain ⟨n, hn⟩ : ∃ n, (trimS d).length = n + 1 := ⟨(trimS d).length - 1, by omega⟩
      rw [hn] at h ⊢
      exact h
def trimM (m : Msg) : Msg := { m with segs := m.segs.map fun s => (s.1, trimS s.2) }
theorem letters_ne {l : List UInt8} {low high : Nat} {dg : Bool} (h : lettersB l low high dg = true) (h0 : 0 < low) : l ≠ [] := by
  unfold lettersB at h
  rw [Bool.and_eq_true, decide_eq_true_eq] at h
  intro h1
  rw [h1] at h
  simp at h
  omega
theorem ne_emp {s : ByteArray} (h : s.data.toList ≠ []) : s ≠ emp := fun h1 => h (by rw [h1]; rfl)
theorem kind_ne {s : ByteArray} (h : kindB s = true) : s ≠ emp := ne_emp (letters_ne h (by omega))
theorem ref_ne {s : ByteArray} (h : refB s = true) : s ≠ emp := ne_emp (letters_ne h (by omega))
theorem tag_at {s : ByteArray} (h : tagB s = true) : s ≠ emp ∧ s ≠ hedS ∧ s ≠ endS := by
  unfold tagB at h
  simp only [Bool.and_eq_true, decide_eq_true_eq] at h
  exact ⟨ne_emp (letters_ne h.1.1 (by omega)), h.1.2, h.2⟩
theorem trim3 {a b c : ByteArray} (hc : c ≠ emp) : trimS [[a], [b], [c]] = [[a], [b], [c]] := by
  refine trimS_fix (by rw [List.map_cons, List.map_cons, List.map_cons, trimE_one, trimE_one, trimE_one]; rfl) (.inr ?_)
  intro h2
  have := Option.some.inj h2
  exact hc (List.cons.inj this).1
theorem step_head {r : Rst} {m : Msg} (ho : r.opn = false) (hr : refB m.ref = true) (hk : kindB m.kind = true) (hm : m.ref ∉ r.met) : stepG r (headS m) = .ok { r with opn := true, kind := m.kind, ref := m.ref, segs := [], met := m.ref :: r.met } := by
  unfold stepG
  rw [if_pos ⟨rfl, rfl⟩]
  unfold headG
  rw [if_neg, if_neg]
  · rfl
  · exact hm
  · intro h
    rcases h with h | h | h | h
    · rw [ho] at h; cases h
    · cases h
    · exact absurd hr (by rw [show m.ref = at2 (headS m) 1 from rfl, h]; simp)
    · exact absurd hk (by rw [show m.kind = at2 (headS m) 2 from rfl, h]; simp)
theorem step_body {r : Rst} {s : Sg} (ho : r.opn = true) (ht : tagB s.1 = true) : stepG r (bodyS s) = .ok { r with segs := r.segs ++ [(s.1, trimS s.2)] } := by
  obtain ⟨h1, h2, h3⟩ := tag_at ht
  unfold stepG
  rw [if_neg (fun h => h2 h.2), if_neg (fun h => h3 h.2)]
  unfold otherG
  rw [if_neg (by rw [ho]; simp), if_neg]
  · rfl
  · intro h
    rcases h with h | h
    · cases h
    · exact absurd ht (by rw [show s.1 = at2 (bodyS s) 0 from rfl, h]; simp)
theorem step_tail {r : Rst} {m : Msg} (ho : r.opn = true) (hr : r.ref = m.ref) (hn : r.segs.length = m.segs.length) : stepG r (tailS m) = .ok { r with opn := false, out := r.out ++ [r.msg] } := by
  unfold stepG
  rw [if_neg (fun h => absurd (show endS = hedS from h.2) (by decide)), if_pos ⟨rfl, rfl⟩]
  unfold endG
  rw [if_neg (by rw [ho]; simp), if_neg]
  intro h
  rcases h with h | h | h
  · cases h
  · exact h (by rw [hn]; rfl)
  · exact h hr.symm
theorem run_body : ∀ (l : List Sg) (i : Nat) (r : Rst) (rest : List Segm), r.opn = true → (∀ s ∈ l, tagB s.1 = true) → runG (l.map bodyS ++ rest) i r = runG rest (i + l.length) { r with segs := r.segs ++ l.map fun s => (s.1, trimS s.2) }
  | [], i, r, rest, _, _ => by simp
  | s :: l, i, r, rest, ho, h => by
    have hs := h s List.mem_cons_self
    rw [List.map_cons, List.cons_append, runG]
    have e : trimS (bodyS s) = bodyS s := trimS_cons (tag_at hs).1 s.2
    rw [e, step_body ho hs]
    dsimp only
    rw [run_body l (i + 1) { r with segs := r.segs ++ [(s.1, trimS s.2)] } rest ho (fun s hs => h s (List.mem_cons_of_mem _ hs))]
    rw [show i + 1 + l.length = i + (s :: l).length by simp; omega]
    simp
theorem rightM_at {m : Msg} (h : rightM m = true) : kindB m.kind = true ∧ refB m.ref = true ∧ ∀ s ∈ m.segs, tagB s.1 = true ∧ rightS ([s.1] :: s.2) = true := by
  unfold rightM at h
  simp only [Bool.and_eq_true] at h
  refine ⟨h.1.1, h.1.2, fun s hs => ?_⟩
  have := List.all_eq_true.1 h.2 s hs
  unfold rightG at this
  simpa using this
theorem run_msg {m : Msg} (h : rightM m = true) (i : Nat) (r : Rst) (rest : List Segm) (ho : r.opn = false) (hm : m.ref ∉ r.met) :
    runG (segsM m ++ rest) i r = runG rest (i + (m.segs.length + 2)) ⟨false, m.kind, m.ref, (trimM m).segs, m.ref :: r.met, r.out ++ [trimM m]⟩ := by
  obtain ⟨hk, hr, hs⟩ := rightM_at h
  unfold segsM
  rw [List.append_assoc, List.cons_append, runG]
  rw [show trimS (headS m) = headS m from trim3 (kind_ne hk), step_head ho hr hk hm]
  dsimp only
  rw [run_body _ _ _ _ rfl (fun s h => (hs s h).1)]
  rw [List.singleton_append, runG]
  rw [show trimS (tailS m) = tailS m from trim3 (ref_ne hr), step_tail rfl rfl (by simp)]
  dsimp only
  congr 1
  omega
theorem run_all : ∀ (l : List Msg) (i : Nat) (r : Rst), r.opn = false → okFrom r.met l = true → runG (segsL l) i r = (r.out ++ l.map trimM, 0, 0)
  | [], i, r, ho, _ => by
    show (if r.opn = true then _ else _) = _
    rw [if_neg (by rw [ho]; simp)]
    simp
  | m :: l, i, r, ho, h => by
    rw [okFrom] at h
    simp only [Bool.and_eq_true, Bool.not_eq_true', decide_eq_false_iff_not] at h
    rw [show segsL (m :: l) = segsM m ++ segsL l from rfl, run_msg h.1 i r _ ho h.2.1, run_all l _ _ rfl h.2.2]
    simp
/-- what is written is read -/
theorem back_all {l : List Msg} (hok : okFrom [] l = true) (hn : (segsL l).length ≤ 5000) (hr : (segsL l).all rightS = true) (hl : ((segsL l).flatMap wS).length ≤ 65536) :
    writeG l = (ba ((segsL l).flatMap wS), 0) ∧ readG ((segsL l).flatMap wS) = (l.map trimM, 0, 0) := by
  refine ⟨by unfold writeG; rw [if_pos hok, writeL_eq hn hr hl], ?_⟩
  have hE : readE ((segsL l).flatMap wS) = (segsL l, 0, 0) := by
    unfold readE
    rw [if_neg (by omega)]
    exact back hn hr
  unfold readG
  rw [hE]
  rw [if_pos rfl]
  rw [run_all l 0 rst0 rfl hok]
  rfl
/-! what is written is right -/
theorem badB_cap {b : UInt8} (h : (capB b || (true && digB b)) = true) : badB b = false := by
  unfold capB digB at h
  unfold badB
  simp at h
  simp
  omega
theorem letters_ok {l : List UInt8} {low high : Nat} {dg : Bool} (h : lettersB l low high dg = true) : l.length ≤ high ∧ l.any badB = false := by
  unfold lettersB at h
  rw [Bool.and_eq_true, decide_eq_true_eq] at h
  refine ⟨h.2.2, ?_⟩
  rw [List.any_eq_false]
  intro b hb
  have h1 := List.all_eq_true.1 h.1 b hb
  rw [badB_cap]
  · simp
  · cases dg with
    | true => exact h1
    | false =>
      simp at h1
      simp [h1]
theorem rightC_letters {s : ByteArray} {low high : Nat} {dg : Bool} (h : lettersB s.data.toList low high dg = true) (hh : high ≤ 100) : rightC s = true := by
  obtain ⟨h1, h2⟩ := letters_ok h
  unfold rightC
  rw [h2, decide_eq_true (show s.size ≤ 100 from Nat.le_trans h1 hh)]
  rfl
theorem rightE_one {s : ByteArray} (h : rightC s = true) : rightE [s] = true := by
  unfold rightE
  simp [h]
theorem right3 {a b c : ByteArray} (ha : rightC a = true) (hb : rightC b = true) (hc : rightC c = true) : rightS [[a], [b], [c]] = true := by
  unfold rightS
  simp [rightE_one ha, rightE_one hb, rightE_one hc]
theorem trimE_right {e : Elem} (h : rightE e = true) : rightE (trimE e) = true := by
  unfold trimE
  split
  · exact rightE_one (by decide)
  · rename_i he
    unfold rightE at h ⊢
    rw [Bool.and_eq_true, decide_eq_true_eq] at h ⊢
    have h1 := cutN_pos e e.length (List.length_pos_iff.2 he)
    refine ⟨by rw [List.length_take]; omega, ?_⟩
    rw [List.all_eq_true] at h ⊢
    exact fun c hc => h.2 c (List.mem_of_mem_take hc)
end
section
open Go Sat Go.RowKit Go.PlainAid
end
section
open Go Sat Go.RowKit Go.PlainAid
theorem trimS_tail {t : Elem} {d : Dat} (h : trimS (t :: d) = t :: d) : trimS d = d := by
  have h1 := trimS_els (t :: d)
  rw [h, List.map_cons] at h1
  have h2 := trimS_last (t :: d)
  rw [h] at h2
  refine trimS_fix (List.cons.inj h1).2 ?_
  rcases h2 with h2 | h2
  · cases h2
  · cases d with
    | nil => exact .inl rfl
    | cons x d => exact .inr h2
theorem step_ok {r r' : Rst} {d : Dat} (h : stepG r d = .ok r') :
    (r.opn = false ∧ d = headS ⟨at2 d 2, at2 d 1, []⟩ ∧ refB (at2 d 1) = true ∧ kindB (at2 d 2) = true ∧ at2 d 1 ∉ r.met ∧ r' = { r with opn := true, kind := at2 d 2, ref := at2 d 1, segs := [], met := at2 d 1 :: r.met })
    ∨ (r.opn = true ∧ d = tailS r.msg ∧ r' = { r with opn := false, out := r.out ++ [r.msg] })
    ∨ (r.opn = true ∧ d = [at2 d 0] :: d.tail ∧ tagB (at2 d 0) = true ∧ r' = { r with segs := r.segs ++ [(at2 d 0, d.tail)] }) := by
  have h3 : singleB d = true → d = [[at2 d 0], [at2 d 1], [at2 d 2]] := fun hs => by
    obtain ⟨e0, h0, h0', hl⟩ := single_at hs (i := 0) (by omega)
    obtain ⟨e1, h1, h1', -⟩ := single_at hs (i := 1) (by omega)
    obtain ⟨e2, h2, h2', -⟩ := single_at hs (i := 2) (by omega)
    match d, hl with
    | [a, b, c], _ =>
      cases h0; cases h1; cases h2
      rw [← h0', ← h1', ← h2']
  unfold stepG at h
  split at h
  · rename_i hc
    unfold headG at h
    split at h
    · cases h
    split at h
    · cases h
    rename_i n1 n2
    injection h with h
    simp only [not_or] at n1
    obtain ⟨a1, a2, a3, a4⟩ := n1
    left
    refine ⟨by simpa using a1, ?_, by simpa using a3, by simpa using a4, n2, h.symm⟩
    have := h3 (by simpa using a2)
    rw [hc.2] at this
    exact this
  split at h
  · rename_i hc0 hc
    unfold endG at h
    split at h
    · cases h
    split at h
    · cases h
    rename_i n1 n2
    injection h with h
    simp only [not_or] at n2
    obtain ⟨a2, a3, a4⟩ := n2
    right; left
    refine ⟨by simpa using n1, ?_, h.symm⟩
    have h5 := h3 (by simpa using a2)
    rw [hc.2, Classical.not_not.1 a3, Classical.not_not.1 a4] at h5
    exact h5
  · unfold otherG at h
    split at h
    · cases h
    split at h
    · cases h
    rename_i n1 n2
    injection h with h
    simp only [not_or] at n2
    right; right
    refine ⟨by simpa using n1, ?_, by simpa using n2.2, h.symm⟩
    have hf : firstB d = true := by simpa using n2.1
    unfold firstB at hf
    cases d with
    | nil => cases hf
    | cons e d =>
      unfold oneB at hf
      rw [decide_eq_true_eq] at hf
      obtain ⟨s, rfl⟩ := List.length_eq_one_iff.1 hf
      rfl
theorem stepG_ne0 {r : Rst} {d : Dat} {e : Int} (h : stepG r d = .error e) : e ≠ 0 := by
  unfold stepG headG endG otherG at h
  repeat' split at h
  all_goals first | (cases h; done) | (injection h with h; omega)
theorem trimS_right {s : Segm} (h : rightS s = true) (h0 : trimS s ≠ []) : rightS (trimS s) = true := by
  unfold rightS at h ⊢
  rw [Bool.and_eq_true, decide_eq_true_eq, List.all_eq_true] at h ⊢
  refine ⟨⟨List.length_pos_iff.2 h0, Nat.le_trans (trimS_len s) h.1.2⟩, fun e he => ?_⟩
  unfold trimS at he
  obtain ⟨e0, h0, rfl⟩ := List.mem_map.1 (List.mem_of_mem_take he)
  exact trimE_right (h.2 e0 h0)
/-- what is left of a list is read as messages -/
structure ReadL (met : List ByteArray) (l : List Msg) : Prop where
  ok : okFrom met l = true
  trim : l.map trimM = l
theorem run_read : ∀ (L : List Segm) (i : Nat) (r : Rst) (l : List Msg) (p : Int), L.all rightS = true → runG L i r = (l, p, 0) → p = 0 ∧
    (r.opn = false → ∃ l', l = r.out ++ l' ∧ ReadL r.met l' ∧ segsL l' = L.map trimS) ∧
    (r.opn = true → ∃ more l', l = r.out ++ ⟨r.kind, r.ref, r.segs ++ more⟩ :: l' ∧ ReadL r.met l' ∧ more.all rightG = true ∧ (∀ s ∈ more, trimS s.2 = s.2) ∧ more.map bodyS ++ tailS ⟨r.kind, r.ref, r.segs ++ more⟩ :: segsL l' = L.map trimS)
  | [], i, r, l, p, _, h => by
    unfold runG at h
    split at h
    · cases h
    · rename_i ho
      cases h
      exact ⟨rfl, fun _ => ⟨[], by simp, ⟨rfl, rfl⟩, rfl⟩, fun h => absurd h ho⟩
  | s :: L, i, r, l, p, hr, h => by
    unfold runG at h
    rw [List.all_cons, Bool.and_eq_true] at hr
    cases hs : stepG r (trimS s) with
    | error e =>
      rw [hs] at h
      have := stepG_ne0 hs
      cases h
      exact absurd rfl this
    | ok r' =>
      rw [hs] at h
      obtain ⟨hp, i1, i2⟩ := run_read L (i + 1) r' l p hr.2 h
      refine ⟨hp, ?_⟩
      rcases step_ok hs with ⟨ho, hd, h1, h2, h3, rfl⟩ | ⟨ho, hd, rfl⟩ | ⟨ho, hd, h1, rfl⟩
      · refine ⟨fun _ => ?_, fun h => by rw [ho] at h; cases h⟩
        obtain ⟨more, l', e1, e2, e3, e4, e5⟩ := i2 rfl
        dsimp only at e1 e2 e5
        rw [List.nil_append] at e1 e5
        refine ⟨_, e1, ⟨?_, ?_⟩, ?_⟩
        · rw [okFrom, e2.ok]
          have : rightM ⟨at2 (trimS s) 2, at2 (trimS s) 1, more⟩ = true := by
            unfold rightM
            rw [h2, h1, e3]
            rfl
          rw [this, decide_eq_false h3]
          rfl
        · rw [List.map_cons, e2.trim]
          congr 1
          unfold trimM
          congr 1
          conv => rhs; rw [← List.map_id more]
          exact List.map_congr_left fun x hx => Prod.ext rfl (e4 x hx)
        · rw [List.map_cons, ← e5]
          conv => rhs; rw [hd]
          show segsM ⟨_, _, more⟩ ++ segsL l' = _
          rw [show segsM ⟨at2 (trimS s) 2, at2 (trimS s) 1, more⟩ = headS ⟨at2 (trimS s) 2, at2 (trimS s) 1, []⟩ :: (more.map bodyS ++ [tailS ⟨at2 (trimS s) 2, at2 (trimS s) 1, more⟩]) from rfl, List.cons_append, List.append_assoc]
          rfl
      · refine ⟨fun h => (by rw [ho] at h; cases h), fun _ => ?_⟩
        obtain ⟨l', e1, e2, e3⟩ := i1 rfl
        dsimp only at e1 e2
        refine ⟨[], l', by rw [e1, List.append_nil]; simp [Rst.msg], e2, rfl, fun s hs => (by cases hs), ?_⟩
        rw [List.map_cons, ← e3]
        conv => rhs; rw [hd]
        simp [Rst.msg]
      · refine ⟨fun h => (by rw [ho] at h; cases h), fun _ => ?_⟩
        obtain ⟨more, l', e1, e2, e3, e4, e5⟩ := i2 ho
        dsimp only at e1 e2 e5
        rw [List.append_assoc] at e1 e5
        have htt : trimS (trimS s).tail = (trimS s).tail := by
          refine trimS_tail (t := [at2 (trimS s) 0]) ?_
          rw [← hd]
          exact trimS_idem s
        refine ⟨_, l', e1, e2, ?_, ?_, ?_⟩
        · rw [List.singleton_append, List.all_cons, e3, Bool.and_true]
          unfold rightG
          rw [h1]
          show rightS ([at2 (trimS s) 0] :: (trimS s).tail) = true
          rw [← hd]
          exact trimS_right hr.1 (by rw [hd]; simp)
        · intro x hx
          rcases List.mem_cons.1 hx with rfl | hx
          · exact htt
          · exact e4 x hx
        · rw [List.map_cons, ← e5]
          conv => rhs; rw [hd]
          show bodyS _ :: _ = _
          unfold bodyS
          dsimp only
          rw [htt]
          rfl
theorem joinW_take {α : Type} (c : UInt8) (f : α → List UInt8) : ∀ (l : List α) (n : Nat), (joinW c f (l.take n)).length ≤ (joinW c f l).length
  | [], n => by simp
  | x :: l, 0 => by simp [joinW]
  | x :: l, n + 1 => by
    rw [List.take_succ_cons]
    unfold joinW
    rw [List.length_append, List.length_append]
    have : ((l.take n).flatMap fun y => c :: f y).length ≤ (l.flatMap fun y => c :: f y).length := by
      conv => rhs; rw [← List.take_append_drop n l]
      rw [List.flatMap_append, List.length_append]
      exact Nat.le_add_right _ _
    omega
theorem flat_le {α : Type} (c : UInt8) (f : α → List UInt8) (g : α → α) : ∀ (l : List α), (∀ x ∈ l, (f (g x)).length ≤ (f x).length) → ((l.map g).flatMap fun y => c :: f y).length ≤ (l.flatMap fun y => c :: f y).length
  | [], _ => by simp
  | x :: l, h => by
    have h1 := flat_le c f g l (fun x hx => h x (List.mem_cons_of_mem _ hx))
    have h2 := h x List.mem_cons_self
    simp only [List.map_cons, List.flatMap_cons, List.length_append, List.length_cons] at h1 ⊢
    omega
theorem joinW_map {α : Type} (c : UInt8) (f : α → List UInt8) (g : α → α) (l : List α) (h : ∀ x ∈ l, (f (g x)).length ≤ (f x).length) : (joinW c f (l.map g)).length ≤ (joinW c f l).length := by
  cases l with
  | nil => simp
  | cons x l =>
    have h1 := flat_le c f g l (fun x hx => h x (List.mem_cons_of_mem _ hx))
    have h2 := h x List.mem_cons_self
    rw [List.map_cons]
    unfold joinW
    rw [List.length_append, List.length_append]
    omega
theorem wE_trim {e : Elem} (h : e ≠ []) : (wE (trimE e)).length ≤ (wE e).length := by
  unfold trimE
  rw [if_neg h]
  exact joinW_take 58 wC e _
theorem trimE_head (c : ByteArray) (e : Elem) : ∃ e', trimE (c :: e) = c :: e' := by
  unfold trimE
  rw [if_neg (by simp)]
  have h := cutN_pos (c :: e) (c :: e).length (by simp)
  obtain ⟨n, hn⟩ : ∃ n, cutN (c :: e) (c :: e).length = n + 1 := ⟨_, (Nat.sub_add_cancel h).symm⟩
  rw [hn, List.take_succ_cons]
  exact ⟨_, rfl⟩
theorem wS_trim {s : Segm} (h : rightS s = true) : (wS (trimS s)).length ≤ (wS s).length := by
  obtain ⟨⟨-, -⟩, hr⟩ := rightS_at h
  have hne : ∀ e ∈ s, e ≠ [] := fun e he h => by
    have := (hr e he).1.1
    rw [h] at this
    simp at this
  have h1 : (joinW 43 wE (trimS s)).length ≤ (joinW 43 wE s).length := Nat.le_trans (joinW_take 43 wE _ _) (joinW_map 43 wE trimE s fun e he => wE_trim (hne e he))
  have h2 : blankS (trimS s) = true → blankS s = true := by
    intro h2
    cases s with
    | nil => exact absurd h2 (by decide)
    | cons e s =>
      cases e with
      | nil => exact absurd rfl (hne [] List.mem_cons_self)
      | cons c e =>
        obtain ⟨e', he'⟩ := trimE_head c e
        unfold trimS at h2
        rw [List.map_cons, he'] at h2
        cases hn : cutM ((c :: e') :: s.map trimE) ((c :: e) :: s).length with
        | zero => rw [hn, List.take_zero] at h2; exact absurd h2 (by decide)
        | succ n =>
          rw [hn, List.take_succ_cons] at h2
          exact h2
  unfold wS
  simp only [List.length_append]
  by_cases h3 : blankS (trimS s) = true
  · rw [if_pos h3, if_pos (h2 h3)]
    omega
  · rw [if_neg h3]
    simp only [List.length_nil]
    omega
theorem flat_trim : ∀ (L : List Segm), L.all rightS = true → ((L.map trimS).flatMap wS).length ≤ (L.flatMap wS).length
  | [], _ => by simp
  | s :: L, h => by
    rw [List.all_cons, Bool.and_eq_true] at h
    have h1 := wS_trim h.1
    have h2 := flat_trim L h.2
    simp only [List.map_cons, List.flatMap_cons, List.length_append]
    omega
theorem segs_right : ∀ (L : List Segm), L.all rightS = true → ∀ l : List Msg, segsL l = L.map trimS → (segsL l).all rightS = true := fun L h l hl => by
  rw [hl, List.all_eq_true]
  intro s hs
  obtain ⟨s0, h0, rfl⟩ := List.mem_map.1 hs
  refine trimS_right (List.all_eq_true.1 h s0 h0) ?_
  rw [← hl] at hs
  unfold segsL at hs
  obtain ⟨m, -, hm⟩ := List.mem_flatMap.1 hs
  unfold segsM at hm
  intro he
  rw [he] at hm
  rcases List.mem_append.1 hm with hm | hm
  · rcases List.mem_cons.1 hm with hm | hm
    · cases hm
    · obtain ⟨s, -, hs⟩ := List.mem_map.1 hm
      cases hs
  · rw [List.mem_singleton] at hm
    cases hm
/-- what Read makes of a text without an error -/
structure AgainG (t : List UInt8) (l : List Msg) : Prop where
  ok : okFrom [] l = true
  trim : l.map trimM = l
  write : writeG l = (ba ((segsL l).flatMap wS), 0)
  read : readG ((segsL l).flatMap wS) = (l, 0, 0)
  len : ((segsL l).flatMap wS).length ≤ t.length
  few : (segsL l).length ≤ 5000
theorem againG {t : List UInt8} {l : List Msg} {p : Int} (ht : t.length ≤ 65536) (h : readG t = (l, p, 0)) : p = 0 ∧ AgainG t l := by
  unfold readG at h
  split at h
  case isFalse hn => exact absurd (Prod.mk.inj (Prod.mk.inj h).2).2 hn
  rename_i h0
  obtain ⟨L, q, c, hE⟩ : ∃ L q c, readE t = (L, q, c) := ⟨_, _, _, rfl⟩
  rw [hE] at h h0
  dsimp only at h h0
  subst h0
  have hA : Again t L q := by
    unfold readE at hE
    rw [if_neg (by omega)] at hE
    exact again hE
  obtain ⟨hp, h1, -⟩ := run_read L 0 rst0 l p hA.right h
  obtain ⟨l', e1, e2, e3⟩ := h1 rfl
  have e1' : l = l' := e1
  subst e1'
  have hr := segs_right L hA.right l e3
  have hlen : ((segsL l).flatMap wS).length ≤ t.length := by
    rw [e3]
    exact Nat.le_trans (flat_trim L hA.right) hA.len
  have hn : (segsL l).length ≤ 5000 := by
    rw [e3, List.length_map]
    exact hA.few
  have hb := back_all e2.ok hn hr (by omega)
  refine ⟨hp, e2.ok, e2.trim, hb.1, ?_, hlen, hn⟩
  rw [hb.2, e2.trim]
theorem readG_wrong {t : List UInt8} {l : List Msg} {p e : Int} (h : readG t = (l, p, e)) (he : e ≠ 0) : l = [] := by
  have hrun : ∀ (L : List Segm) (i : Nat) (r : Rst), runG L i r = (l, p, e) → l = [] := by
    intro L
    induction L with
    | nil =>
      intro i r h
      unfold runG at h
      split at h
      · cases h; rfl
      · cases h; exact absurd rfl he
    | cons s L ih =>
      intro i r h
      unfold runG at h
      split at h
      · cases h; rfl
      · exact ih _ _ h
  unfold readG at h
  split at h
  · exact hrun _ _ _ h
  · cases h; rfl
end
end Go.Proofs.YtdohcglpcgahaaaGreatDoor
