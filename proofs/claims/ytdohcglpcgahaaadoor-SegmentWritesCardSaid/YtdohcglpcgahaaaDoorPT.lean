/-
  Messages that are written are read as they were, with trimmed data. No program in sight.
-/
import Derived.Test.YtdohcglpcgahaaaDoorTP
import Derived.Test.YtdohcglpcgahaaaDoorSSX
import Derived.Test.YtdohcglpcgahaaaDoorRC
import Derived.Test.YtdohcglpcgahaaaDoorSWX
set_option linter.unusedSimpArgs false
set_option linter.unusedVariables false
namespace Go.Proofs.YtdohcglpcgahaaaDoor
open Go Sat Go.RowKit Go.PlainAid
theorem cutN_fix (t : Elem) (h : t.length ≤ 1 ∨ t[t.length - 1]? ≠ some emp) : cutN t t.length = t.length := by
  generalize hn : t.length = n at h ⊢
  match n, h with
  | 0, _ => rfl
  | 1, _ => rfl
  | m + 2, h =>
    unfold cutN
    rcases h with h | h
    · omega
    · exact if_neg h
theorem trimE_fix {t : Elem} (h0 : t ≠ []) (h : t.length ≤ 1 ∨ t[t.length - 1]? ≠ some emp) : trimE t = t := by
  unfold trimE
  rw [if_neg h0, cutN_fix t h, List.take_length]
theorem trimE_idem (e : Elem) : trimE (trimE e) = trimE e := by
  by_cases he : e = []
  · subst he
    rfl
  · refine trimE_fix (trimE_ne e) ?_
    have h1 : trimE e = e.take (cutN e e.length) := by unfold trimE; rw [if_neg he]
    have h2 := cutN_le e e.length
    have h4 := cutN_pos e e.length (List.length_pos_iff.2 he)
    have h3 : (trimE e).length = cutN e e.length := by rw [h1, List.length_take]; omega
    rcases (cutN_spec e e.length).2 with h | h
    · exact .inl (by omega)
    · right
      rw [h3, h1, List.getElem?_take, if_pos (by omega)]
      exact h
theorem trimE_one (s : ByteArray) : trimE [s] = [s] := trimE_fix (by simp) (.inl (by simp))
theorem cutM_fix (l : Dat) (h : l = [] ∨ l[l.length - 1]? ≠ some [emp]) : cutM l l.length = l.length := by
  generalize hn : l.length = n at h ⊢
  match n, h with
  | 0, _ => rfl
  | m + 1, h =>
    unfold cutM
    rcases h with h | h
    · rw [h] at hn
      cases hn
    · exact if_neg h
theorem trimS_fix {l : Dat} (h1 : l.map trimE = l) (h2 : l = [] ∨ l[l.length - 1]? ≠ some [emp]) : trimS l = l := by
  unfold trimS
  rw [h1, cutM_fix l h2, List.take_length]
theorem trimS_els (d : Dat) : (trimS d).map trimE = trimS d := by
  unfold trimS
  rw [List.map_take, List.map_map]
  congr 1
  exact List.map_congr_left fun e _ => trimE_idem e
theorem trimS_last (d : Dat) : trimS d = [] ∨ (trimS d)[(trimS d).length - 1]? ≠ some [emp] := by
  have h1 := cutM_le (d.map trimE) d.length
  have hl : (trimS d).length = cutM (d.map trimE) d.length := by unfold trimS; rw [List.length_take, List.length_map]; omega
  rcases (cutM_spec (d.map trimE) d.length).2 with h | h
  · left
    exact List.eq_nil_of_length_eq_zero (by omega)
  · rcases Nat.eq_zero_or_pos (trimS d).length with h0 | h0
    · exact .inl (List.eq_nil_of_length_eq_zero h0)
    · right
      rw [hl]
      unfold trimS
      rw [List.getElem?_take, if_pos (by omega)]
      exact h
theorem trimS_idem (d : Dat) : trimS (trimS d) = trimS d := trimS_fix (trimS_els d) (trimS_last d)
theorem trimS_cons {t : ByteArray} (ht : t ≠ emp) (d : Dat) : trimS ([t] :: trimS d) = [t] :: trimS d := by
  refine trimS_fix (by rw [List.map_cons, trimE_one, trimS_els]) (.inr ?_)
  rw [List.length_cons, Nat.add_sub_cancel]
  rcases trimS_last d with h | h
  · rw [h]
    intro h2
    have := Option.some.inj h2
    exact ht (List.cons.inj this).1
  · rcases Nat.eq_zero_or_pos (trimS d).length with h0 | h0
    · rw [h0]
      intro h2
      have := Option.some.inj h2
      exact ht (List.cons.inj this).1
    · obtain ⟨n, hn⟩ : ∃ n, (trimS d).length = n + 1 := ⟨(trimS d).length - 1, by omega⟩
      rw [hn] at h ⊢
      exact h
def trimM (m : Msg) : Msg := { m with segs := m.segs.map fun s => (s.1, trimS s.2) }
theorem letters_ne {l : List UInt8} {low high : Nat} {dg : Bool} (h : lettersB l low high dg = true) (h0 : 0 < low) : l ≠ [] := by
  unfold lettersB at h
  rw [Bool.and_eq_true, decide_eq_true_eq] at h
  intro h1
  rw [h1] at h
  simp at h
  omega
theorem ne_emp {s : ByteArray} (h : s.data.toList ≠ []) : s ≠ emp := fun h1 => h (by rw [h1]; rfl)
theorem kind_ne {s : ByteArray} (h : kindB s = true) : s ≠ emp := ne_emp (letters_ne h (by omega))
theorem ref_ne {s : ByteArray} (h : refB s = true) : s ≠ emp := ne_emp (letters_ne h (by omega))
theorem tag_at {s : ByteArray} (h : tagB s = true) : s ≠ emp ∧ s ≠ hedS ∧ s ≠ endS := by
  unfold tagB at h
  simp only [Bool.and_eq_true, decide_eq_true_eq] at h
  exact ⟨ne_emp (letters_ne h.1.1 (by omega)), h.1.2, h.2⟩
theorem trim3 {a b c : ByteArray} (hc : c ≠ emp) : trimS [[a], [b], [c]] = [[a], [b], [c]] := by
  refine trimS_fix (by rw [List.map_cons, List.map_cons, List.map_cons, trimE_one, trimE_one, trimE_one]; rfl) (.inr ?_)
  intro h2
  have := Option.some.inj h2
  exact hc (List.cons.inj this).1
theorem step_head {r : Rst} {m : Msg} (ho : r.opn = false) (hr : refB m.ref = true) (hk : kindB m.kind = true) (hm : m.ref ∉ r.met) : stepG r (headS m) = .ok { r with opn := true, kind := m.kind, ref := m.ref, segs := [], met := m.ref :: r.met } := by
  unfold stepG
  rw [if_pos ⟨rfl, rfl⟩]
  unfold headG
  rw [if_neg, if_neg]
  · rfl
  · exact hm
  · intro h
    rcases h with h | h | h | h
    · rw [ho] at h; cases h
    · cases h
    · exact absurd hr (by rw [show m.ref = at2 (headS m) 1 from rfl, h]; simp)
    · exact absurd hk (by rw [show m.kind = at2 (headS m) 2 from rfl, h]; simp)
theorem step_body {r : Rst} {s : Sg} (ho : r.opn = true) (ht : tagB s.1 = true) : stepG r (bodyS s) = .ok { r with segs := r.segs ++ [(s.1, trimS s.2)] } := by
  obtain ⟨h1, h2, h3⟩ := tag_at ht
  unfold stepG
  rw [if_neg (fun h => h2 h.2), if_neg (fun h => h3 h.2)]
  unfold otherG
  rw [if_neg (by rw [ho]; simp), if_neg]
  · rfl
  · intro h
    rcases h with h | h
    · cases h
    · exact absurd ht (by rw [show s.1 = at2 (bodyS s) 0 from rfl, h]; simp)
theorem step_tail {r : Rst} {m : Msg} (ho : r.opn = true) (hr : r.ref = m.ref) (hn : r.segs.length = m.segs.length) : stepG r (tailS m) = .ok { r with opn := false, out := r.out ++ [r.msg] } := by
  unfold stepG
  rw [if_neg (fun h => absurd (show endS = hedS from h.2) (by decide)), if_pos ⟨rfl, rfl⟩]
  unfold endG
  rw [if_neg (by rw [ho]; simp), if_neg]
  intro h
  rcases h with h | h | h
  · cases h
  · exact h (by rw [hn]; rfl)
  · exact h hr.symm
theorem run_body : ∀ (l : List Sg) (i : Nat) (r : Rst) (rest : List Segm), r.opn = true → (∀ s ∈ l, tagB s.1 = true) → runG (l.map bodyS ++ rest) i r = runG rest (i + l.length) { r with segs := r.segs ++ l.map fun s => (s.1, trimS s.2) }
  | [], i, r, rest, _, _ => by simp
  | s :: l, i, r, rest, ho, h => by
    have hs := h s List.mem_cons_self
    rw [List.map_cons, List.cons_append, runG]
    have e : trimS (bodyS s) = bodyS s := trimS_cons (tag_at hs).1 s.2
    rw [e, step_body ho hs]
    dsimp only
    rw [run_body l (i + 1) { r with segs := r.segs ++ [(s.1, trimS s.2)] } rest ho (fun s hs => h s (List.mem_cons_of_mem _ hs))]
    rw [show i + 1 + l.length = i + (s :: l).length by simp; omega]
    simp
theorem rightM_at {m : Msg} (h : rightM m = true) : kindB m.kind = true ∧ refB m.ref = true ∧ ∀ s ∈ m.segs, tagB s.1 = true ∧ rightS ([s.1] :: s.2) = true := by
  unfold rightM at h
  simp only [Bool.and_eq_true] at h
  refine ⟨h.1.1, h.1.2, fun s hs => ?_⟩
  have := List.all_eq_true.1 h.2 s hs
  unfold rightG at this
  simpa using this
theorem run_msg {m : Msg} (h : rightM m = true) (i : Nat) (r : Rst) (rest : List Segm) (ho : r.opn = false) (hm : m.ref ∉ r.met) :
    runG (segsM m ++ rest) i r = runG rest (i + (m.segs.length + 2)) ⟨false, m.kind, m.ref, (trimM m).segs, m.ref :: r.met, r.out ++ [trimM m]⟩ := by
  obtain ⟨hk, hr, hs⟩ := rightM_at h
  unfold segsM
  rw [List.append_assoc, List.cons_append, runG]
  rw [show trimS (headS m) = headS m from trim3 (kind_ne hk), step_head ho hr hk hm]
  dsimp only
  rw [run_body _ _ _ _ rfl (fun s h => (hs s h).1)]
  rw [List.singleton_append, runG]
  rw [show trimS (tailS m) = tailS m from trim3 (ref_ne hr), step_tail rfl rfl (by simp)]
  dsimp only
  congr 1
  omega
theorem run_all : ∀ (l : List Msg) (i : Nat) (r : Rst), r.opn = false → okFrom r.met l = true → runG (segsL l) i r = (r.out ++ l.map trimM, 0, 0)
  | [], i, r, ho, _ => by
    show (if r.opn = true then _ else _) = _
    rw [if_neg (by rw [ho]; simp)]
    simp
  | m :: l, i, r, ho, h => by
    rw [okFrom] at h
    simp only [Bool.and_eq_true, Bool.not_eq_true', decide_eq_false_iff_not] at h
    rw [show segsL (m :: l) = segsM m ++ segsL l from rfl, run_msg h.1 i r _ ho h.2.1, run_all l _ _ rfl h.2.2]
    simp
/-- what is written is read -/
theorem back_all {l : List Msg} (hok : okFrom [] l = true) (hn : (segsL l).length ≤ 5000) (hr : (segsL l).all rightS = true) (hl : ((segsL l).flatMap wS).length ≤ 65536) :
    writeG l = (ba ((segsL l).flatMap wS), 0) ∧ readG ((segsL l).flatMap wS) = (l.map trimM, 0, 0) := by
  refine ⟨by unfold writeG; rw [if_pos hok, writeL_eq hn hr hl], ?_⟩
  have hE : readE ((segsL l).flatMap wS) = (segsL l, 0, 0) := by
    unfold readE
    rw [if_neg (by omega)]
    exact back hn hr
  unfold readG
  rw [hE]
  rw [if_pos rfl]
  rw [run_all l 0 rst0 rfl hok]
  rfl
/-! what is written is right -/
theorem badB_cap {b : UInt8} (h : (capB b || (true && digB b)) = true) : badB b = false := by
  unfold capB digB at h
  unfold badB
  simp at h
  simp
  omega
theorem letters_ok {l : List UInt8} {low high : Nat} {dg : Bool} (h : lettersB l low high dg = true) : l.length ≤ high ∧ l.any badB = false := by
  unfold lettersB at h
  rw [Bool.and_eq_true, decide_eq_true_eq] at h
  refine ⟨h.2.2, ?_⟩
  rw [List.any_eq_false]
  intro b hb
  have h1 := List.all_eq_true.1 h.1 b hb
  rw [badB_cap]
  · simp
  · cases dg with
    | true => exact h1
    | false =>
      simp at h1
      simp [h1]
theorem rightC_letters {s : ByteArray} {low high : Nat} {dg : Bool} (h : lettersB s.data.toList low high dg = true) (hh : high ≤ 100) : rightC s = true := by
  obtain ⟨h1, h2⟩ := letters_ok h
  unfold rightC
  rw [h2, decide_eq_true (show s.size ≤ 100 from Nat.le_trans h1 hh)]
  rfl
theorem rightE_one {s : ByteArray} (h : rightC s = true) : rightE [s] = true := by
  unfold rightE
  simp [h]
theorem right3 {a b c : ByteArray} (ha : rightC a = true) (hb : rightC b = true) (hc : rightC c = true) : rightS [[a], [b], [c]] = true := by
  unfold rightS
  simp [rightE_one ha, rightE_one hb, rightE_one hc]
theorem trimE_right {e : Elem} (h : rightE e = true) : rightE (trimE e) = true := by
  unfold trimE
  split
  · exact rightE_one (by decide)
  · rename_i he
    unfold rightE at h ⊢
    rw [Bool.and_eq_true, decide_eq_true_eq] at h ⊢
    have h1 := cutN_pos e e.length (List.length_pos_iff.2 he)
    refine ⟨by rw [List.length_take]; omega, ?_⟩
    rw [List.all_eq_true] at h ⊢
    exact fun c hc => h.2 c (List.mem_of_mem_take hc)
theorem body_right {s : Sg} (h : rightS ([s.1] :: s.2) = true) : rightS (bodyS s) = true := by
  unfold rightS at h ⊢
  rw [Bool.and_eq_true, decide_eq_true_eq, List.all_eq_true] at h ⊢
  refine ⟨?_, fun e he => ?_⟩
  · unfold bodyS
    have := trimS_len s.2
    have h1 := h.1
    simp only [List.length_cons] at h1 ⊢
    omega
  · unfold bodyS at he
    rcases List.mem_cons.1 he with rfl | he
    · exact h.2 _ List.mem_cons_self
    · unfold trimS at he
      obtain ⟨e0, h0, rfl⟩ := List.mem_map.1 (List.mem_of_mem_take he)
      exact trimE_right (h.2 e0 (List.mem_cons_of_mem _ h0))
end Go.Proofs.YtdohcglpcgahaaaDoor
