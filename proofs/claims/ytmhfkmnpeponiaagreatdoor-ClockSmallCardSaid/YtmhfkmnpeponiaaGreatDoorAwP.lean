/-
  The examples of the chapter, computed. No program in sight.
-/
import Derived.Test.YtmhfkmnpeponiaaGreatDoorTText
import Derived.Test.YtmhfkmnpeponiaaGreatDoorC15P
set_option linter.unusedSimpArgs false
set_option linter.unusedVariables false
namespace Go.Proofs.YtmhfkmnpeponiaaGreatDoor
open Go Sat Go.RowKit Go.PlainAid
def portW : List Sp := [⟨360, 1320⟩, ⟨1800, 2760⟩, ⟨3240, 4200⟩, ⟨4680, 5640⟩, ⟨6120, 7080⟩]
def portC : List Sp := [⟨1800, 2000⟩]
def portL : List Sp := [⟨360, 1320⟩, ⟨2000, 2760⟩]
def awT : Td := ⟨100, 1491, 2, 60, 90⟩
theorem port_ok : calOk portW portC = true := by kernel_rfl
theorem aw_opn (y : Int) (h0 : 0 ≤ y) (h1 : y < 3000) : opn portW portC y = (decide (360 ≤ y ∧ y < 1320) || decide (2000 ≤ y ∧ y < 2760)) := by
  rw [Bool.eq_iff_iff]
  unfold opn inB inTo portW portC
  simp [List.range_succ]
  omega
theorem aw_spans : snL portW portC 0 3000 = portL ∧ snE portW portC 0 3000 = 0 := by
  have hxt : (0 : Int) ≤ 3000 := by omega
  have e0 : toldAt (opn portW portC) 0 3000 0 = [] := toldAt_begin hxt (by omega)
  have e1 : toldAt (opn portW portC) 0 3000 1320 = [⟨360, 1320⟩] := by
    rw [toldAt_step (pos := 0) (a := 360) hxt (by omega) (by omega) (fun y h1 h2 h3 h4 => by rw [aw_opn y h3 h4]; simp; omega) (fun y h1 h2 h3 h4 => by rw [aw_opn y h3 h4]; simp; omega), e0]
    rfl
  have e2 : toldAt (opn portW portC) 0 3000 2760 = portL := by
    rw [toldAt_step (pos := 1320) (a := 2000) hxt (by omega) (by omega) (fun y h1 h2 h3 h4 => by rw [aw_opn y h3 h4]; simp; omega) (fun y h1 h2 h3 h4 => by rw [aw_opn y h3 h4]; simp; omega), e1]
    rfl
  have e3 : snR portW portC 0 3000 = portL := by
    unfold snR
    rw [toldAt_no (pos := 2760) hxt (by omega) (fun y h1 h2 h3 h4 => by rw [aw_opn y h3 h4]; simp; omega), e2]
  have hok : snOk portW portC 0 3000 = true := by
    unfold snOk
    rw [port_ok]
    rfl
  have h := sn_yes hok (by rw [e3]; show 2 ≤ 1000; omega)
  rw [h.1, h.2, e3]
  exact ⟨rfl, rfl⟩
theorem aw_tidy : tidalB awT = true := by kernel_rfl
theorem aw_wins : wnL awT 0 200 = [⟨40, 190⟩] ∧ wnE awT 0 200 = 0 := by
  have hT := tidy_of aw_tidy
  have hxt : (0 : Int) ≤ 200 := by omega
  have h0 : hiw awT (0 : Nat) = 100 := rfl
  have h1 : hiw awT (1 : Nat) = 845 := rfl
  have e0 : toldAt (winP awT) 0 200 0 = [] := toldAt_begin hxt (by omega)
  have e1 : toldAt (winP awT) 0 200 190 = [⟨40, 190⟩] := by
    rw [toldAt_step (pos := 0) (a := 40) hxt (by omega) (by omega) (fun y h1 h2 h3 h4 => winP_out hT (k := 0) (by rw [h0]; show y < 100 - 60; omega) (fun j hj => absurd hj (by omega))) (fun y h1 h2 h3 h4 => winP_in (k := 0) (by rw [h0]; show 100 - 60 ≤ y; omega) (by rw [h0]; show y < 100 + 90; omega)), e0]
    rfl
  have e3 : wnR awT 0 200 = [⟨40, 190⟩] := by
    unfold wnR
    rw [toldAt_no (pos := 190) hxt (by omega) (fun y h2 h3 h4 h5 => winP_out hT (k := 1) (by rw [h1]; show y < 845 - 60; omega) (fun j hj => by
      obtain rfl : j = 0 := by omega
      rw [h0]
      show 100 + 90 ≤ y
      omega)), e1]
  have hok : wnOk awT 0 200 = true := by
    unfold wnOk
    rw [aw_tidy]
    rfl
  have h := wn_yes hok (by rw [e3]; show 1 ≤ 1000; omega)
  rw [h.1, h.2, e3]
  exact ⟨rfl, rfl⟩
theorem aw_fit : fitL portL 1200 200 = some 2000 := by kernel_rfl
theorem aw_fin : finL portL 1200 200 = some 2080 := by kernel_rfl
theorem aw_portL : okTo portL portL.length = true := by kernel_rfl
theorem aw_high : (hgV awT 0 = 100 ∧ hgE awT 0 = 0) ∧ (hgV awT 1 = 845 ∧ hgE awT 1 = 0) ∧ (hgV awT 2 = 1591 ∧ hgE awT 2 = 0) ∧ (hgV awT 3 = 2336 ∧ hgE awT 3 = 0) := by
  refine ⟨⟨?_, ?_⟩, ⟨?_, ?_⟩, ⟨?_, ?_⟩, ⟨?_, ?_⟩⟩ <;> kernel_rfl
def txtA : ByteArray := ⟨#[49, 32, 77, 111, 110, 32, 48, 48, 58, 48, 48]⟩
def txtB : ByteArray := ⟨#[48, 32, 83, 117, 110, 32, 48, 56, 58, 48, 53]⟩
def txtX : ByteArray := ⟨#[49, 32, 77, 111, 110, 32, 48, 58, 48, 48]⟩
def txtY : ByteArray := ⟨#[48, 49, 32, 77, 111, 110, 32, 48, 48, 58, 48, 48]⟩
def txtZ : ByteArray := ⟨#[49, 32, 77, 111, 110, 32, 50, 52, 58, 48, 48]⟩
theorem itB_1 : itB 1 = ⟨#[49]⟩ := itB_small (by omega) (by omega)
theorem itB_0 : itB 0 = ⟨#[48]⟩ := itB_small (by omega) (by omega)
theorem aw_txA : txB 10080 = txtA := by
  unfold txB
  rw [show (10080 : Int) / 10080 = 1 by omega, itB_1]
  kernel_rfl
theorem aw_txB : txB 9125 = txtB := by
  unfold txB
  rw [show (9125 : Int) / 10080 = 0 by omega, itB_0]
  kernel_rfl
theorem aw_rdB : rdV txtB = 9125 ∧ rdE txtB = 0 := rd_yes (by kernel_rfl) aw_txB
theorem aw_rdX : rdV txtX = 0 ∧ rdE txtX = 20 := by
  refine rd_no fun t h e => ?_
  have h1 := tx_cut h
  rw [e] at h1
  have h2 : cutAt 32 txtX.data.toList = [[49], [77, 111, 110], [48, 58, 48, 48]] := by decide
  rw [h2] at h1
  simp only [List.cons.injEq, and_true] at h1
  have := congrArg List.length h1.2.2
  simp [clkL] at this
theorem aw_rdY : rdV txtY = 0 ∧ rdE txtY = 20 := by
  refine rd_no fun t h e => ?_
  have h1 := tx_cut h
  rw [e] at h1
  have h2 : cutAt 32 txtY.data.toList = [[48, 49], [77, 111, 110], [48, 48, 58, 48, 48]] := by decide
  rw [h2] at h1
  simp only [List.cons.injEq, and_true] at h1
  have hb := (tx_bd h).1
  have h3 := itoa_pos hb.1
  rw [← h1.1] at h3
  have h4 := dv_dec (t / 10080).toNat
  rw [← h3] at h4
  have h5 : (t / 10080).toNat = 1 := by rw [← h4]; rfl
  rw [h5, Lib.decDigits] at h3
  simp at h3
theorem aw_rdZ : rdV txtZ = 0 ∧ rdE txtZ = 20 := by
  refine rd_no fun t h e => ?_
  have h1 := tx_cut h
  rw [e] at h1
  have h2 : cutAt 32 txtZ.data.toList = [[49], [77, 111, 110], [50, 52, 58, 48, 48]] := by decide
  rw [h2] at h1
  simp only [List.cons.injEq, and_true] at h1
  have hb := (tx_bd h).2.2.1
  have h3 := h1.2.2
  unfold clkL at h3
  simp only [List.cons.injEq, and_true, true_and] at h3
  have q1 := dig_nat (n := 48 + t % 10080 % 1440 / 60 / 10) (by omega) (by omega)
  have q2 := dig_nat (n := 48 + t % 10080 % 1440 / 60 % 10) (by omega) (by omega)
  rw [← h3.1] at q1
  rw [← h3.2.1] at q2
  have e1 : ((50 : UInt8).toNat : Int) = 50 := rfl
  have e2 : ((52 : UInt8).toNat : Int) = 52 := rfl
  omega
end Go.Proofs.YtmhfkmnpeponiaaGreatDoor
