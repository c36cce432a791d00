/-
  The text of a call, and the call of a text. No program in sight.
-/
import Derived.Test.YtbpklalkoocneaaDoorPlain
import Derived.Test.YtbpklalkoocneaaDoorSplit
set_option linter.unusedSimpArgs false
set_option linter.unusedVariables false
namespace Go.Proofs.YtbpklalkoocneaaDoor
open Go.RowKit Go.PlainAid Go.Lib
def itB (n : Int) : ByteArray := ⟨(itoa n).toArray⟩
def wrB (c : Cl) : ByteArray := c.p ++ ⟨#[32]⟩ ++ itB c.t ++ ⟨#[32]⟩ ++ itB c.d
def wrL (p : List UInt8) (t d : Int) : List UInt8 := p ++ 32 :: (itoa t ++ 32 :: itoa d)
theorem wrB_data (c : Cl) : (wrB c).data.toList = wrL c.p.data.toList c.t c.d := by
  unfold wrB wrL itB
  simp
theorem ba_ext {a b : ByteArray} (h : a.data.toList = b.data.toList) : a = b := by
  cases a; cases b; simp at h; simp [h]
theorem bt_mem {s : ByteArray} {b : UInt8} (h : b ∈ s.data.toList) : ∃ i, i < s.size ∧ bt s i = (b.toNat : Int) := by
  obtain ⟨i, hi, rfl⟩ := List.getElem_of_mem h
  have hs : i < s.size := by simpa using hi
  refine ⟨i, hs, ?_⟩
  unfold bt
  rw [dif_pos hs]
  rfl
theorem right_no_blank {c : Cl} (h : rightC c = true) : (32 : UInt8) ∉ c.p.data.toList := by
  intro hb
  obtain ⟨i, hi, he⟩ := bt_mem hb
  unfold rightC upB upTo at h
  simp only [Bool.and_eq_true, List.all_eq_true, List.mem_range, decide_eq_true_eq] at h
  have := h.1.1.1.1.2 i hi
  rw [he] at this
  simp at this
theorem wr_cut {c : Cl} (h : rightC c = true) : cutAt 32 (wrB c).data.toList = [c.p.data.toList, itoa c.t, itoa c.d] := by
  have hb := rightC_bd h
  rw [wrB_data]
  exact cutAt_of_three (right_no_blank h) (itoa_no_blank hb.1) (itoa_no_blank hb.2.2.1)
theorem itoa_inj {a b : Int} (ha : 0 ≤ a) (hb : 0 ≤ b) (h : itoa a = itoa b) : a = b := by
  have h1 := atoi_itoa ha
  rw [h, atoi_itoa hb] at h1
  injection h1 with h1
  exact h1.symm
theorem wr_inj {a b : Cl} (ha : rightC a = true) (hb : rightC b = true) (h : wrB a = wrB b) : a = b := by
  have h1 := wr_cut ha
  rw [h, wr_cut hb] at h1
  simp only [List.cons.injEq, and_true] at h1
  have ba := rightC_bd ha
  have bb := rightC_bd hb
  obtain ⟨p, t, d⟩ := a
  obtain ⟨q, u, e⟩ := b
  have e1 : p = q := (ba_ext h1.1).symm
  have e2 : t = u := itoa_inj ba.1 bb.1 h1.2.1.symm
  have e3 : d = e := itoa_inj ba.2.2.1 bb.2.2.1 h1.2.2.symm
  rw [e1, e2, e3]
open Classical in
noncomputable def prs (s : ByteArray) : Option Cl := if h : ∃ c, rightC c = true ∧ wrB c = s then some (Classical.choose h) else none
theorem prs_of {s : ByteArray} {c : Cl} (h1 : rightC c = true) (h2 : wrB c = s) : prs s = some c := by
  have h : ∃ c, rightC c = true ∧ wrB c = s := ⟨c, h1, h2⟩
  unfold prs
  rw [dif_pos h]
  obtain ⟨g1, g2⟩ := Classical.choose_spec h
  rw [wr_inj g1 h1 (g2.trans h2.symm)]
theorem prs_some {s : ByteArray} {c : Cl} (h : prs s = some c) : rightC c = true ∧ wrB c = s := by
  unfold prs at h
  split at h
  · rename_i h1
    injection h with h
    subst h
    exact Classical.choose_spec h1
  · cases h
theorem prs_none {s : ByteArray} (h : ∀ c, rightC c = true → wrB c ≠ s) : prs s = none := by
  cases hp : prs s with
  | none => rfl
  | some c => exact absurd (prs_some hp).2 (h c (prs_some hp).1)
end Go.Proofs.YtbpklalkoocneaaDoor
