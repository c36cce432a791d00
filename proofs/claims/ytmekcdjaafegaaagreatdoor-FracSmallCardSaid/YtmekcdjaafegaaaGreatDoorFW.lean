/-
  What the walks of texts ask of a world; strings.Cut and strings.CutPrefix at one byte; what Read is to answer.
-/
import Derived.Test.YtmekcdjaafegaaaGreatDoorN19
namespace Go.Proofs.YtmekcdjaafegaaaGreatDoor
open Go Sat Go.RowKit Go.PlainAid
set_option linter.unusedSimpArgs false
set_option linter.unusedVariables false
structure Wf (w : World) : Prop where
  top : ∃ m, w.cell? ⟨0, 0, none⟩ = some (.int .i64 m)
theorem Wf.mono {w w' : World} {B : Nat} (h : Wf w) (hb : Below B w w') (hB : w.heap.size ≤ B) : Wf w' := by
  obtain ⟨m, h1⟩ := h.top
  refine ⟨m, ?_⟩
  have hlt : 0 < w.heap.size := by
    unfold World.cell? at h1
    split at h1
    · rename_i e
      exact heap_lt e
    · cases h1
  rw [← h1]
  exact World.cell?_of_block (hb.block _ (Nat.lt_of_lt_of_le hlt hB))
theorem Wf.at_ {cx : Cx} {H : Heap} {w : World} (h : Wf cx.W) (hn : cx.n0 = cx.W.heap.size) (hM : cx.M = []) (hw : Holds cx H w) : Wf w := h.mono (below_of hn hM hw) (Nat.le_refl _)
def pre (s : ByteArray) : ByteArray := ⟨(Lib.trimPrefix s.data.toList [45]).toArray⟩
def ng (s : ByteArray) : Bool := Lib.hasPrefix s.data.toList [45]
def ab (s : ByteArray) : ByteArray := ⟨(Lib.cut s.data.toList [47]).1.toArray⟩
def be (s : ByteArray) : ByteArray := ⟨(Lib.cut s.data.toList [47]).2.1.toArray⟩
def sm (s : ByteArray) : Bool := (Lib.cut s.data.toList [47]).2.2
theorem cutPre_any (s : ByteArray) (w : World) : Calls Tryz.prog 40 #[.string s, .string ⟨#[45]⟩] w fun e w' => e = .returned (.tuple #[.string (pre s), .bool (ng s)]) ∧ Below w.heap.size w w' :=
  (Tryz.strings_CutPrefix s ⟨#[45]⟩ w).mono fun e w' h => ⟨h.1, by rw [h.2]; exact Below.refl _ _⟩
theorem cut_any (s : ByteArray) (w : World) (hw : Wf w) (hs : s.size < 4294967281) : Calls Tryz.prog 41 #[.string s, .string ⟨#[47]⟩] w fun e w' => e = .returned (.tuple #[.string (ab s), .string (be s), .bool (sm s)]) ∧ Below w.heap.size w w' := by
  obtain ⟨m, hm⟩ := hw.top
  exact (Any.strings_Cut { Tryz.laysM145 with } s ⟨#[47]⟩ m w hs hm).mono fun e w' h => ⟨h.1, by obtain ⟨n, rfl⟩ := h.2; exact ⟨rfl, rfl, rfl, Nat.le_refl _, fun _ _ => rfl⟩⟩
theorem pre_len (s : ByteArray) : (pre s).size ≤ s.size := Lib.trimPrefix_le ..
theorem ab_len (s : ByteArray) : (ab s).size ≤ s.size := by
  show (Lib.cut s.data.toList [47]).1.length ≤ s.data.toList.length
  unfold Lib.cut
  split
  · rw [List.length_take]; omega
  · exact Nat.le_refl _
theorem be_len (s : ByteArray) : (be s).size ≤ s.size := by
  show (Lib.cut s.data.toList [47]).2.1.length ≤ s.data.toList.length
  unfold Lib.cut
  split
  · rw [List.length_drop]; omega
  · exact Nat.zero_le _
theorem dval_pos {s : ByteArray} (h : dB s = true) (h0 : s ≠ ⟨#[48]⟩) : 0 < dval s.data.toList := by
  obtain ⟨⟨l⟩⟩ := s
  have h1 : l ≠ [48] := fun e => h0 (by rw [e])
  unfold dB digB at h
  have key : ∀ (m : List UInt8) (v : Nat), 0 < v → 0 < m.foldl (fun v c => 10 * v + (c.toNat - 48)) v := by
    intro m
    induction m with
    | nil => intro v hv; exact hv
    | cons c m ih => intro v hv; exact ih _ (by show 0 < 10 * v + (c.toNat - 48); omega)
  cases l with
  | nil => simp at h
  | cons a m =>
    simp only [List.isEmpty_cons, Bool.not_false, Bool.true_and, Bool.and_eq_true, Bool.or_eq_true, beq_iff_eq, bne_iff_ne, List.head?_cons, ne_eq, Option.some.injEq] at h
    have ha := isD_iff.1 (List.all_eq_true.1 h.1 a List.mem_cons_self)
    have h2 : a ≠ 48 := by
      rcases h.2 with h2 | h2
      · exact absurd h2 h1
      · exact h2
    have h3 : a.toNat ≠ 48 := fun e => h2 (UInt8.toNat_inj.1 e)
    show 0 < m.foldl (fun v c => 10 * v + (c.toNat - 48)) (10 * 0 + (a.toNat - 48))
    exact key m _ (by omega)
theorem dB_all {s : ByteArray} (h : dB s = true) : ∀ c ∈ s.data.toList, isD c = true := by
  unfold dB digB at h
  simp only [Bool.and_eq_true] at h
  exact List.all_eq_true.1 h.2.1
/-- the denominator's text -/
def lo (s : ByteArray) : ByteArray := if sm s = true then be s else ⟨#[49]⟩
def okS (a b : ByteArray) : Bool := dB a && dB b && !(b == (⟨#[48]⟩ : ByteArray))
def fits (a : ByteArray) : Bool := decide (a.size ≤ 78) && decide (dval a.data.toList < big)
def rdF (s : ByteArray) : Fr := (fitF (ng s) (dval (ab (pre s)).data.toList) (dval (lo (pre s)).data.toList)).1
def readE (s : ByteArray) : Fr × Int :=
  if okS (ab (pre s)) (lo (pre s)) = true then
    if (fits (ab (pre s)) && fits (lo (pre s))) = true then
      if (textE (rdF s)).1 = s then (rdF s, 0) else (zeroF, 11)
    else (zeroF, 3)
  else (zeroF, 10)
theorem rdF_big (s : ByteArray) : Big (rdF s) := ⟨(fitF_small _ _ _).1, (fitF_small _ _ _).2⟩
end Go.Proofs.YtmekcdjaafegaaaGreatDoor
