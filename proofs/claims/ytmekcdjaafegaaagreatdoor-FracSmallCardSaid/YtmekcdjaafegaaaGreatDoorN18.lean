/-
  The walks of the frac package: which texts are decimal digits.
-/
import Derived.Test.YtmekcdjaafegaaaGreatDoorN17
import Derived.Test.YtmekcdjaafegaaaGreatDoorFU
import Derived.Test.YtmekcdjaafegaaaGreatDoorSR
namespace Go.Proofs.YtmekcdjaafegaaaGreatDoor
open Go Sat Go.RowKit Go.PlainAid
set_option linter.unusedSimpArgs false
set_option linter.unusedVariables false
theorem trim_tens (s : ByteArray) (w : World) (hs : s.size ≤ 9223372036854775807) :
    Calls Tryz.prog 79 #[.string s, .string ⟨#[48, 49, 50, 51, 52, 53, 54, 55, 56, 57]⟩] w fun e w' => e = .returned (.string ⟨(Lib.trimS s.data.toList tens).toArray⟩) ∧ Below w.heap.size w w' :=
  Any.strings_Trim_laid Tryz.lays160 (by kernel_rfl) s ⟨#[48, 49, 50, 51, 52, 53, 54, 55, 56, 57]⟩ w hs (by show 10 < 4294967281; omega) (fun j b hb => by
    have h1 : ∀ c ∈ tens, c.toNat < 128 := by decide
    exact h1 b (List.mem_of_getElem? hb))
def dB (s : ByteArray) : Bool := digB s.data.toList
theorem ba_eq {s t : ByteArray} : s = t ↔ s.data.toList = t.data.toList := by
  constructor
  · rintro rfl; rfl
  · intro h
    cases s; cases t
    congr 1
    exact Array.toList_inj.1 h
theorem ba_beq (s t : ByteArray) : (s == t) = decide (s = t) := by
  by_cases h : s = t
  · rw [decide_eq_true h]; subst h; exact beq_self_eq_true _
  · rw [decide_eq_false h]; exact beq_eq_false_iff_ne.2 h
theorem dig_real {s T : ByteArray} (hT : T = ⟨(Lib.trimS s.data.toList tens).toArray⟩) : (!(s == (⟨#[]⟩ : ByteArray)) && T == (⟨#[]⟩ : ByteArray) && (s == (⟨#[48]⟩ : ByteArray) || bt s (Int.toNat 0) != 48)) = dB s := by
  obtain ⟨⟨l⟩⟩ := s
  have e1 : ((⟨⟨l⟩⟩ : ByteArray) == (⟨#[]⟩ : ByteArray)) = l.isEmpty := by
    rw [ba_beq]
    cases l with
    | nil => rfl
    | cons a l => exact decide_eq_false fun h => by have := ba_eq.1 h; cases this
  have e2 : (T == (⟨#[]⟩ : ByteArray)) = l.all isD := by
    rw [ba_beq, Bool.eq_iff_iff, decide_eq_true_iff, hT, ba_eq, List.all_eq_true]
    exact trimS_nil
  have e3 : ((⟨⟨l⟩⟩ : ByteArray) == (⟨#[48]⟩ : ByteArray)) = (l == [48]) := by
    rw [ba_beq, Bool.eq_iff_iff, decide_eq_true_iff, ba_eq, beq_iff_eq]
  rw [e1, e2, e3]
  unfold dB digB
  cases l with
  | nil => rfl
  | cons a l =>
    have e4 : (bt (⟨⟨a :: l⟩⟩ : ByteArray) (Int.toNat 0) != 48) = ((a :: l).head? != some 48) := by
      have e5 : bt (⟨⟨a :: l⟩⟩ : ByteArray) (Int.toNat 0) = (a.toNat : Int) := rfl
      rw [e5, Bool.eq_iff_iff, bne_iff_ne, bne_iff_ne, List.head?_cons]
      constructor
      · intro h h2
        injection h2 with h2
        rw [h2] at h
        exact h rfl
      · intro h h2
        refine h (congrArg some (UInt8.toNat_inj.1 ?_))
        show a.toNat = 48
        omega
    rw [e4]
    show (true && (a :: l).all isD && _) = (true && _)
    rw [Bool.true_and, Bool.true_and]
set_option maxRecDepth 100000 in
set_option maxHeartbeats 8000000 in
theorem digits_any (s : ByteArray) (w : World) (hs : s.size ≤ 9223372036854775807) :
    Calls Tryz.prog 42 #[.string s] w fun e w' => e = .returned (.bool (dB s)) ∧ Below w.heap.size w w' := by
  refine calls_sat (cx := Tryz.cx 19 [] [] [] w) (Tryz.ok ..) Tryz.func42 rfl [.v (.string s)] rfl (by show 1 ≤ 19; omega) [] (holds_nil (Nat.le_refl _)) ?_
  obtain ⟨T, hT⟩ : ∃ T : ByteArray, T = ⟨(Lib.trimS s.data.toList tens).toArray⟩ := ⟨_, rfl⟩
  have hTn : T = ⟨#[]⟩ ↔ ∀ c ∈ s.data.toList, isD c = true := by
    rw [hT, ba_eq]
    exact trimS_nil
  have hsz : s.size = s.data.toList.length := rfl
  have hb0 : (!(s == (⟨#[]⟩ : ByteArray)) && T == (⟨#[]⟩ : ByteArray) && !(s == (⟨#[48]⟩ : ByteArray))) = true → 0 < s.size := fun h => by
    rcases Nat.eq_zero_or_pos s.size with h1 | h1
    · have : s = ⟨#[]⟩ := ba_eq.2 (List.eq_nil_of_length_eq_zero h1)
      rw [this] at h
      simp [ba_beq] at h
    · exact h1
  repeat' ((conv => whnf); first | refine walk (Tryz.ok ..) ?_ | refine sideL2 ?_ | fail)
  refine calledQ_pure (v := .string T) (.v (.string T)) rfl (fun _ w' => by rw [hT]; exact trim_tens s w' hs) ?_
  repeat' ((conv => whnf); first | refine side2 ?_ | fail)
  conv => whnf
  refine And.intro (fun h => ⟨Int.le_refl _, by have := hb0 h; omega⟩) ?_
  repeat' ((conv => whnf); first | refine walk (Tryz.ok ..) ?_ | refine side2 ?_ | fail)
  exact done_pure rfl rfl (congrArg Value.bool (dig_real hT))
end Go.Proofs.YtmekcdjaafegaaaGreatDoor
