/-
  The walk of IsoKinds.
-/
import Derived.Test.YtedpadjlkddgjaaDoorM
namespace Go.Proofs.YtedpadjlkddgjaaDoor
open Go.RowKit Go.PlainAid
theorem idx_le (p : Nat → Bool) : idx p ≤ 6 := by
  unfold idx
  simp only [idxFrom]
  repeat' split
  all_goals omega
theorem idx_lt_iff (p : Nat → Bool) (h : idx p < 6) : p (idx p) = true := by
  unfold idx at *
  simp only [idxFrom] at *
  repeat' split at *
  all_goals first | assumption | omega
theorem idx_six (p : Nat → Bool) (h : ¬ idx p < 6) : ∀ j, j < 6 → p j = false := by
  unfold idx at *
  simp only [idxFrom] at *
  repeat' split at *
  all_goals first | omega | skip
  intro j hj
  match j, hj with
  | 0, _ => simp_all
  | 1, _ => simp_all
  | 2, _ => simp_all
  | 3, _ => simp_all
  | 4, _ => simp_all
  | 5, _ => simp_all
theorem idx_kc6 : idx (isC (kc 6)) = 6 := by decide +kernel
theorem idx_back {k : Nat} (hk : k < 6) : idx (isK (ksz k) (khi k) (krf k)) = k := by
  match k, hk with
  | 0, _ => decide +kernel
  | 1, _ => decide +kernel
  | 2, _ => decide +kernel
  | 3, _ => decide +kernel
  | 4, _ => decide +kernel
  | 5, _ => decide +kernel
theorem isC_eq {s : ByteArray} {k : Nat} (h : isC s k = true) : s = kc k := by
  unfold isC at h
  rw [toList_btl] at h
  exact (btl_inj (by simpa using h)).symm
theorem isK_eq {z : Int} {h r : Bool} {k : Nat} (e : isK z h r k = true) : z = ksz k ∧ h = khi k ∧ r = krf k := by
  unfold isK at e
  simp only [Bool.and_eq_true, beq_iff_eq] at e
  exact ⟨e.1.1.symm, e.1.2.symm, e.2.symm⟩
theorem notK {z : Int} {h r : Bool} (e : ∀ j, j < 6 → isK z h r j = false) : ¬ (z = 20 ∧ h = false) ∧ z ≠ 40 := by
  have e0 := e 0 (by omega)
  have e1 := e 1 (by omega)
  have e2 := e 2 (by omega)
  have e3 := e 3 (by omega)
  have e4 := e 4 (by omega)
  have e5 := e 5 (by omega)
  unfold isK at *
  constructor
  · rintro ⟨rfl, rfl⟩
    cases r <;> simp [ksz, khi, krf] at e0 e1
  · rintro rfl
    cases h <;> cases r <;> simp [ksz, khi, krf] at e2 e3 e4 e5
theorem kc_four {k : Nat} (hk : k < 6) : (kc k).size = 4 := by
  match k, hk with
  | 0, _ => rfl
  | 1, _ => rfl
  | 2, _ => rfl
  | 3, _ => rfl
  | 4, _ => rfl
  | 5, _ => rfl
/-- what the law asks of a kind in the table -/
theorem kind_in {k : Nat} (hk : k < 6) : (ksz k = 20 ∨ ksz k = 40) ∧ (khi k = true → ksz k = 40) := by
  match k, hk with
  | 0, _ => decide
  | 1, _ => decide
  | 2, _ => decide
  | 3, _ => decide
  | 4, _ => decide
  | 5, _ => decide
theorem code_in {k : Nat} (hk : k < 6) (w : World) (b o c : Nat) (hw : Kin w b o c) :
    Calls Tryd.prog 22 #[.agg #[.int .u8 (ksz k), .bool (khi k), .bool (krf k)]] w fun e w' => e = .returned (.tuple #[.string (kc k), .int .i64 0]) ∧ Below w.heap.size w w' := by
  have h := code_any (ksz k) (khi k) (krf k) w b o c hw
  rw [idx_back hk, show kE k = 0 by unfold kE; rw [if_pos hk]] at h
  exact h
theorem size_in {k : Nat} (hk : k < 6) (w : World) (b o c : Nat) (hw : Kin w b o c) :
    Calls Tryd.prog 23 #[.string (kc k)] w fun e w' => e = .returned (.tuple #[.agg #[.int .u8 (ksz k), .bool (khi k), .bool (krf k)], .int .i64 0]) ∧ Below w.heap.size w w' := by
  have h := size_any (kc k) w b o c hw
  rw [idx_kc hk, show kE k = 0 by unfold kE; rw [if_pos hk]] at h
  exact h
theorem code_out {z : Int} {h r : Bool} (hn : ¬ idx (isK z h r) < 6) (w : World) (b o c : Nat) (hw : Kin w b o c) :
    Calls Tryd.prog 22 #[.agg #[.int .u8 z, .bool h, .bool r]] w fun e w' => e = .returned (.tuple #[.string ⟨#[]⟩, .int .i64 32]) ∧ Below w.heap.size w w' := by
  have hc := code_any z h r w b o c hw
  rw [show idx (isK z h r) = 6 by have := idx_le (isK z h r); omega] at hc
  exact hc
theorem size_out {s : ByteArray} (hn : ¬ idx (isC s) < 6) (w : World) (b o c : Nat) (hw : Kin w b o c) :
    Calls Tryd.prog 23 #[.string s] w fun e w' => e = .returned (.tuple #[.agg #[.int .u8 0, .bool false, .bool false], .int .i64 32]) ∧ Below w.heap.size w w' := by
  have h := size_any s w b o c hw
  rw [show idx (isC s) = 6 by have := idx_le (isC s); omega] at h
  exact h
theorem size_none (w : World) (b o c : Nat) (hw : Kin w b o c) :
    Calls Tryd.prog 23 #[.string ⟨#[]⟩] w fun e w' => e = .returned (.tuple #[.agg #[.int .u8 0, .bool false, .bool false], .int .i64 32]) ∧ Below w.heap.size w w' :=
  size_out (s := ⟨#[]⟩) (by decide +kernel) w b o c hw
set_option maxRecDepth 100000 in
set_option maxHeartbeats 3200000 in
theorem kinds_in20 (s : ByteArray) (hs : (∃ j, j < 6 ∧ s = kc j) ∨ ¬ idx (isC s) < 6) (z : Int) (r : Bool) (C : ByteArray) (hcode : Hid (∀ (W : World) (b o c : Nat), Kin W b o c → Calls Tryd.prog 22 #[.agg #[.int .u8 z, .bool false, .bool r]] W fun e w' => e = .returned (.tuple #[.string C, .int .i64 0]) ∧ Below W.heap.size W w'))
    (hsize : Hid (∀ (W : World) (b o c : Nat), Kin W b o c → Calls Tryd.prog 23 #[.string C] W fun e w' => e = .returned (.tuple #[.agg #[.int .u8 z, .bool false, .bool r], .int .i64 0]) ∧ Below W.heap.size W w')) (ez : ((C.size : Int) != 4) = false) (e20 : (z != 20) = false) (w : World) (b o c : Nat) (hk : Kin w b o c) :
    Calls Tryd.prog 8 #[.string s, .int .u8 z, .bool false, .bool r] w fun e w' => e = .returned (.bool true) ∧ Below w.heap.size w w' := by
  go_enter Tryd.func8, Tryd.ntmps8
  go_wp2_with fail
  refine (awake_any _ b o c hk).mono ?_
  rintro e w1 ⟨rfl, hb1⟩
  have hk1 := hk.below hb1
  go_wp2_with fail
  refine (hcode.out _ b o c (hk1.below ((Below.refl _ _).alloc (Nat.le_refl _) _))).mono ?_
  rintro e w2 ⟨rfl, hb2⟩
  have a0 : w2.cell? ⟨w1.heap.size, 0, none⟩ = some (.int .u8 z) := (hb2.cell (p := ⟨w1.heap.size, 0, none⟩) (by simp)).trans (by simp)
  have a1 : w2.cell? ⟨w1.heap.size, 1, none⟩ = some (.bool false) := (hb2.cell (p := ⟨w1.heap.size, 1, none⟩) (by simp)).trans (by simp)
  have a2 : w2.cell? ⟨w1.heap.size, 2, none⟩ = some (.bool r) := (hb2.cell (p := ⟨w1.heap.size, 2, none⟩) (by simp)).trans (by simp)
  have hl2 : w1.heap.size < w2.heap.size := by have := hb2.size; simp at this; omega
  have hb3 : Below w1.heap.size w1 w2 := ((Below.refl w1.heap.size w1).alloc (Nat.le_refl _) _).trans (hb2.mono (by simp))
  have hb4 := below_step hb1 hb3 hb1.size
  have hk2 := hk1.below hb3
  clear hb1 hb2 hb3 hk1
  go_wp2_with fail
  refine (hsize.out _ b o c hk2).mono ?_
  rintro e w3 ⟨rfl, hb3⟩
  have c0 := (hb3.cell (p := ⟨w1.heap.size, 0, none⟩) hl2).trans a0
  have c1 := (hb3.cell (p := ⟨w1.heap.size, 1, none⟩) hl2).trans a1
  have c2 := (hb3.cell (p := ⟨w1.heap.size, 2, none⟩) hl2).trans a2
  have hl3 := Nat.lt_of_lt_of_le hl2 hb3.size
  have hb5 := below_step hb4 hb3 hb4.size
  have hk3 := hk2.below hb3
  clear hb4 hb3 hk2 a0 a1 a2 hl2
  go_wp2_with fail
  rcases hs with hs | hs
  · obtain ⟨j, hj, rfl⟩ := hs
    refine (size_in hj _ b o c (hk3.below ((Below.refl _ _).alloc (Nat.le_refl _) _))).mono ?_
    rintro e w4 ⟨rfl, hb6⟩
    have hb7 : Below w3.heap.size w3 w4 := ((Below.refl w3.heap.size w3).alloc (Nat.le_refl _) _).trans (hb6.mono (by simp))
    have hk4 := hk3.below hb7
    have hb8 := below_step hb5 hb7 hb5.size
    clear hb5 hb6 hb7 hk3
    go_wp2_with fail
    refine (code_in hj _ b o c (hk4.below ((Below.refl _ _).alloc (Nat.le_refl _) _))).mono ?_
    rintro e w5 ⟨rfl, hb9⟩
    have hb10 : Below w4.heap.size w4 w5 := ((Below.refl w4.heap.size w4).alloc (Nat.le_refl _) _).trans (hb9.mono (by simp))
    go_wp2_with fail
    go_ret
    exact ⟨rfl, below_step hb8 hb10 hb8.size⟩
  · refine (size_out hs _ b o c (hk3.below ((Below.refl _ _).alloc (Nat.le_refl _) _))).mono ?_
    rintro e w4 ⟨rfl, hb6⟩
    have hb7 : Below w3.heap.size w3 w4 := ((Below.refl w3.heap.size w3).alloc (Nat.le_refl _) _).trans (hb6.mono (by simp))
    have hb8 := below_step hb5 hb7 hb5.size
    clear hb5 hb6 hb7 hk3
    go_wp2_with fail
    go_ret
    exact ⟨rfl, hb8.alloc hb8.size _⟩
set_option maxRecDepth 100000 in
set_option maxHeartbeats 3200000 in
theorem kinds_in40 (s : ByteArray) (hs : (∃ j, j < 6 ∧ s = kc j) ∨ ¬ idx (isC s) < 6) (z : Int) (r : Bool) (C : ByteArray) (hcode : Hid (∀ (W : World) (b o c : Nat), Kin W b o c → Calls Tryd.prog 22 #[.agg #[.int .u8 z, .bool false, .bool r]] W fun e w' => e = .returned (.tuple #[.string C, .int .i64 0]) ∧ Below W.heap.size W w'))
    (hsize : Hid (∀ (W : World) (b o c : Nat), Kin W b o c → Calls Tryd.prog 23 #[.string C] W fun e w' => e = .returned (.tuple #[.agg #[.int .u8 z, .bool false, .bool r], .int .i64 0]) ∧ Below W.heap.size W w')) (ez : ((C.size : Int) != 4) = false) (e20 : (z != 20) = true) (e40 : (z != 40) = false) (w : World) (b o c : Nat) (hk : Kin w b o c) :
    Calls Tryd.prog 8 #[.string s, .int .u8 z, .bool false, .bool r] w fun e w' => e = .returned (.bool true) ∧ Below w.heap.size w w' := by
  go_enter Tryd.func8, Tryd.ntmps8
  go_wp2_with fail
  refine (awake_any _ b o c hk).mono ?_
  rintro e w1 ⟨rfl, hb1⟩
  have hk1 := hk.below hb1
  go_wp2_with fail
  refine (hcode.out _ b o c (hk1.below ((Below.refl _ _).alloc (Nat.le_refl _) _))).mono ?_
  rintro e w2 ⟨rfl, hb2⟩
  have a0 : w2.cell? ⟨w1.heap.size, 0, none⟩ = some (.int .u8 z) := (hb2.cell (p := ⟨w1.heap.size, 0, none⟩) (by simp)).trans (by simp)
  have a1 : w2.cell? ⟨w1.heap.size, 1, none⟩ = some (.bool false) := (hb2.cell (p := ⟨w1.heap.size, 1, none⟩) (by simp)).trans (by simp)
  have a2 : w2.cell? ⟨w1.heap.size, 2, none⟩ = some (.bool r) := (hb2.cell (p := ⟨w1.heap.size, 2, none⟩) (by simp)).trans (by simp)
  have hl2 : w1.heap.size < w2.heap.size := by have := hb2.size; simp at this; omega
  have hb3 : Below w1.heap.size w1 w2 := ((Below.refl w1.heap.size w1).alloc (Nat.le_refl _) _).trans (hb2.mono (by simp))
  have hb4 := below_step hb1 hb3 hb1.size
  have hk2 := hk1.below hb3
  clear hb1 hb2 hb3 hk1
  go_wp2_with fail
  refine (hsize.out _ b o c hk2).mono ?_
  rintro e w3 ⟨rfl, hb3⟩
  have c0 := (hb3.cell (p := ⟨w1.heap.size, 0, none⟩) hl2).trans a0
  have c1 := (hb3.cell (p := ⟨w1.heap.size, 1, none⟩) hl2).trans a1
  have c2 := (hb3.cell (p := ⟨w1.heap.size, 2, none⟩) hl2).trans a2
  have hl3 := Nat.lt_of_lt_of_le hl2 hb3.size
  have hb5 := below_step hb4 hb3 hb4.size
  have hk3 := hk2.below hb3
  clear hb4 hb3 hk2 a0 a1 a2 hl2
  go_wp2_with fail
  rcases hs with hs | hs
  · obtain ⟨j, hj, rfl⟩ := hs
    refine (size_in hj _ b o c (hk3.below ((Below.refl _ _).alloc (Nat.le_refl _) _))).mono ?_
    rintro e w4 ⟨rfl, hb6⟩
    have hb7 : Below w3.heap.size w3 w4 := ((Below.refl w3.heap.size w3).alloc (Nat.le_refl _) _).trans (hb6.mono (by simp))
    have hk4 := hk3.below hb7
    have hb8 := below_step hb5 hb7 hb5.size
    clear hb5 hb6 hb7 hk3
    go_wp2_with fail
    refine (code_in hj _ b o c (hk4.below ((Below.refl _ _).alloc (Nat.le_refl _) _))).mono ?_
    rintro e w5 ⟨rfl, hb9⟩
    have hb10 : Below w4.heap.size w4 w5 := ((Below.refl w4.heap.size w4).alloc (Nat.le_refl _) _).trans (hb9.mono (by simp))
    go_wp2_with fail
    go_ret
    exact ⟨rfl, below_step hb8 hb10 hb8.size⟩
  · refine (size_out hs _ b o c (hk3.below ((Below.refl _ _).alloc (Nat.le_refl _) _))).mono ?_
    rintro e w4 ⟨rfl, hb6⟩
    have hb7 : Below w3.heap.size w3 w4 := ((Below.refl w3.heap.size w3).alloc (Nat.le_refl _) _).trans (hb6.mono (by simp))
    have hb8 := below_step hb5 hb7 hb5.size
    clear hb5 hb6 hb7 hk3
    go_wp2_with fail
    go_ret
    exact ⟨rfl, hb8.alloc hb8.size _⟩
set_option maxRecDepth 100000 in
set_option maxHeartbeats 3200000 in
theorem kinds_in41 (s : ByteArray) (hs : (∃ j, j < 6 ∧ s = kc j) ∨ ¬ idx (isC s) < 6) (z : Int) (r : Bool) (C : ByteArray) (hcode : Hid (∀ (W : World) (b o c : Nat), Kin W b o c → Calls Tryd.prog 22 #[.agg #[.int .u8 z, .bool true, .bool r]] W fun e w' => e = .returned (.tuple #[.string C, .int .i64 0]) ∧ Below W.heap.size W w'))
    (hsize : Hid (∀ (W : World) (b o c : Nat), Kin W b o c → Calls Tryd.prog 23 #[.string C] W fun e w' => e = .returned (.tuple #[.agg #[.int .u8 z, .bool true, .bool r], .int .i64 0]) ∧ Below W.heap.size W w')) (ez : ((C.size : Int) != 4) = false) (e20 : (z != 20) = true) (e40 : (z != 40) = false) (w : World) (b o c : Nat) (hk : Kin w b o c) :
    Calls Tryd.prog 8 #[.string s, .int .u8 z, .bool true, .bool r] w fun e w' => e = .returned (.bool true) ∧ Below w.heap.size w w' := by
  go_enter Tryd.func8, Tryd.ntmps8
  go_wp2_with fail
  refine (awake_any _ b o c hk).mono ?_
  rintro e w1 ⟨rfl, hb1⟩
  have hk1 := hk.below hb1
  go_wp2_with fail
  refine (hcode.out _ b o c (hk1.below ((Below.refl _ _).alloc (Nat.le_refl _) _))).mono ?_
  rintro e w2 ⟨rfl, hb2⟩
  have a0 : w2.cell? ⟨w1.heap.size, 0, none⟩ = some (.int .u8 z) := (hb2.cell (p := ⟨w1.heap.size, 0, none⟩) (by simp)).trans (by simp)
  have a1 : w2.cell? ⟨w1.heap.size, 1, none⟩ = some (.bool true) := (hb2.cell (p := ⟨w1.heap.size, 1, none⟩) (by simp)).trans (by simp)
  have a2 : w2.cell? ⟨w1.heap.size, 2, none⟩ = some (.bool r) := (hb2.cell (p := ⟨w1.heap.size, 2, none⟩) (by simp)).trans (by simp)
  have hl2 : w1.heap.size < w2.heap.size := by have := hb2.size; simp at this; omega
  have hb3 : Below w1.heap.size w1 w2 := ((Below.refl w1.heap.size w1).alloc (Nat.le_refl _) _).trans (hb2.mono (by simp))
  have hb4 := below_step hb1 hb3 hb1.size
  have hk2 := hk1.below hb3
  clear hb1 hb2 hb3 hk1
  go_wp2_with fail
  refine (hsize.out _ b o c hk2).mono ?_
  rintro e w3 ⟨rfl, hb3⟩
  have c0 := (hb3.cell (p := ⟨w1.heap.size, 0, none⟩) hl2).trans a0
  have c1 := (hb3.cell (p := ⟨w1.heap.size, 1, none⟩) hl2).trans a1
  have c2 := (hb3.cell (p := ⟨w1.heap.size, 2, none⟩) hl2).trans a2
  have hl3 := Nat.lt_of_lt_of_le hl2 hb3.size
  have hb5 := below_step hb4 hb3 hb4.size
  have hk3 := hk2.below hb3
  clear hb4 hb3 hk2 a0 a1 a2 hl2
  go_wp2_with fail
  rcases hs with hs | hs
  · obtain ⟨j, hj, rfl⟩ := hs
    refine (size_in hj _ b o c (hk3.below ((Below.refl _ _).alloc (Nat.le_refl _) _))).mono ?_
    rintro e w4 ⟨rfl, hb6⟩
    have hb7 : Below w3.heap.size w3 w4 := ((Below.refl w3.heap.size w3).alloc (Nat.le_refl _) _).trans (hb6.mono (by simp))
    have hk4 := hk3.below hb7
    have hb8 := below_step hb5 hb7 hb5.size
    clear hb5 hb6 hb7 hk3
    go_wp2_with fail
    refine (code_in hj _ b o c (hk4.below ((Below.refl _ _).alloc (Nat.le_refl _) _))).mono ?_
    rintro e w5 ⟨rfl, hb9⟩
    have hb10 : Below w4.heap.size w4 w5 := ((Below.refl w4.heap.size w4).alloc (Nat.le_refl _) _).trans (hb9.mono (by simp))
    go_wp2_with fail
    go_ret
    exact ⟨rfl, below_step hb8 hb10 hb8.size⟩
  · refine (size_out hs _ b o c (hk3.below ((Below.refl _ _).alloc (Nat.le_refl _) _))).mono ?_
    rintro e w4 ⟨rfl, hb6⟩
    have hb7 : Below w3.heap.size w3 w4 := ((Below.refl w3.heap.size w3).alloc (Nat.le_refl _) _).trans (hb6.mono (by simp))
    have hb8 := below_step hb5 hb7 hb5.size
    clear hb5 hb6 hb7 hk3
    go_wp2_with fail
    go_ret
    exact ⟨rfl, hb8.alloc hb8.size _⟩
set_option maxRecDepth 100000 in
set_option maxHeartbeats 3200000 in
theorem kinds_outa (s : ByteArray) (hs : (∃ j, j < 6 ∧ s = kc j) ∨ ¬ idx (isC s) < 6) {z : Int} {h r : Bool} (hn : ¬ idx (isK z h r) < 6) (e20 : (z == 20) = false) (e40 : (z == 40) = false) (w : World) (b o c : Nat) (hk : Kin w b o c) :
    Calls Tryd.prog 8 #[.string s, .int .u8 z, .bool h, .bool r] w fun e w' => e = .returned (.bool true) ∧ Below w.heap.size w w' := by
  go_enter Tryd.func8, Tryd.ntmps8
  go_wp2_with fail
  refine (awake_any _ b o c hk).mono ?_
  rintro e w1 ⟨rfl, hb1⟩
  have hk1 := hk.below hb1
  go_wp2_with fail
  refine (code_out hn _ b o c (hk1.below ((Below.refl _ _).alloc (Nat.le_refl _) _))).mono ?_
  rintro e w2 ⟨rfl, hb2⟩
  have a0 : w2.cell? ⟨w1.heap.size, 0, none⟩ = some (.int .u8 z) := (hb2.cell (p := ⟨w1.heap.size, 0, none⟩) (by simp)).trans (by simp)
  have a1 : w2.cell? ⟨w1.heap.size, 1, none⟩ = some (.bool h) := (hb2.cell (p := ⟨w1.heap.size, 1, none⟩) (by simp)).trans (by simp)
  have a2 : w2.cell? ⟨w1.heap.size, 2, none⟩ = some (.bool r) := (hb2.cell (p := ⟨w1.heap.size, 2, none⟩) (by simp)).trans (by simp)
  have hl2 : w1.heap.size < w2.heap.size := by have := hb2.size; simp at this; omega
  have hb3 : Below w1.heap.size w1 w2 := ((Below.refl w1.heap.size w1).alloc (Nat.le_refl _) _).trans (hb2.mono (by simp))
  have hb4 := below_step hb1 hb3 hb1.size
  have hk2 := hk1.below hb3
  clear hb1 hb2 hb3 hk1
  go_wp2_with fail
  refine (size_none _ b o c hk2).mono ?_
  rintro e w3 ⟨rfl, hb3⟩
  have c0 := (hb3.cell (p := ⟨w1.heap.size, 0, none⟩) hl2).trans a0
  have c1 := (hb3.cell (p := ⟨w1.heap.size, 1, none⟩) hl2).trans a1
  have c2 := (hb3.cell (p := ⟨w1.heap.size, 2, none⟩) hl2).trans a2
  have hl3 := Nat.lt_of_lt_of_le hl2 hb3.size
  have hb5 := below_step hb4 hb3 hb4.size
  have hk3 := hk2.below hb3
  clear hb4 hb3 hk2 a0 a1 a2 hl2
  go_wp2_with fail
  rcases hs with hs | hs
  · obtain ⟨j, hj, rfl⟩ := hs
    refine (size_in hj _ b o c (hk3.below ((Below.refl _ _).alloc (Nat.le_refl _) _))).mono ?_
    rintro e w4 ⟨rfl, hb6⟩
    have hb7 : Below w3.heap.size w3 w4 := ((Below.refl w3.heap.size w3).alloc (Nat.le_refl _) _).trans (hb6.mono (by simp))
    have hk4 := hk3.below hb7
    have hb8 := below_step hb5 hb7 hb5.size
    clear hb5 hb6 hb7 hk3
    go_wp2_with fail
    refine (code_in hj _ b o c (hk4.below ((Below.refl _ _).alloc (Nat.le_refl _) _))).mono ?_
    rintro e w5 ⟨rfl, hb9⟩
    have hb10 : Below w4.heap.size w4 w5 := ((Below.refl w4.heap.size w4).alloc (Nat.le_refl _) _).trans (hb9.mono (by simp))
    go_wp2_with fail
    go_ret
    exact ⟨rfl, below_step hb8 hb10 hb8.size⟩
  · refine (size_out hs _ b o c (hk3.below ((Below.refl _ _).alloc (Nat.le_refl _) _))).mono ?_
    rintro e w4 ⟨rfl, hb6⟩
    have hb7 : Below w3.heap.size w3 w4 := ((Below.refl w3.heap.size w3).alloc (Nat.le_refl _) _).trans (hb6.mono (by simp))
    have hb8 := below_step hb5 hb7 hb5.size
    clear hb5 hb6 hb7 hk3
    go_wp2_with fail
    go_ret
    exact ⟨rfl, hb8.alloc hb8.size _⟩
set_option maxRecDepth 100000 in
set_option maxHeartbeats 3200000 in
theorem kinds_outb (s : ByteArray) (hs : (∃ j, j < 6 ∧ s = kc j) ∨ ¬ idx (isC s) < 6) {z : Int} {r : Bool} (hn : ¬ idx (isK z true r) < 6) (e20 : (z == 20) = true) (e40 : (z == 40) = false) (w : World) (b o c : Nat) (hk : Kin w b o c) :
    Calls Tryd.prog 8 #[.string s, .int .u8 z, .bool true, .bool r] w fun e w' => e = .returned (.bool true) ∧ Below w.heap.size w w' := by
  go_enter Tryd.func8, Tryd.ntmps8
  go_wp2_with fail
  refine (awake_any _ b o c hk).mono ?_
  rintro e w1 ⟨rfl, hb1⟩
  have hk1 := hk.below hb1
  go_wp2_with fail
  refine (code_out hn _ b o c (hk1.below ((Below.refl _ _).alloc (Nat.le_refl _) _))).mono ?_
  rintro e w2 ⟨rfl, hb2⟩
  have a0 : w2.cell? ⟨w1.heap.size, 0, none⟩ = some (.int .u8 z) := (hb2.cell (p := ⟨w1.heap.size, 0, none⟩) (by simp)).trans (by simp)
  have a1 : w2.cell? ⟨w1.heap.size, 1, none⟩ = some (.bool true) := (hb2.cell (p := ⟨w1.heap.size, 1, none⟩) (by simp)).trans (by simp)
  have a2 : w2.cell? ⟨w1.heap.size, 2, none⟩ = some (.bool r) := (hb2.cell (p := ⟨w1.heap.size, 2, none⟩) (by simp)).trans (by simp)
  have hl2 : w1.heap.size < w2.heap.size := by have := hb2.size; simp at this; omega
  have hb3 : Below w1.heap.size w1 w2 := ((Below.refl w1.heap.size w1).alloc (Nat.le_refl _) _).trans (hb2.mono (by simp))
  have hb4 := below_step hb1 hb3 hb1.size
  have hk2 := hk1.below hb3
  clear hb1 hb2 hb3 hk1
  go_wp2_with fail
  refine (size_none _ b o c hk2).mono ?_
  rintro e w3 ⟨rfl, hb3⟩
  have c0 := (hb3.cell (p := ⟨w1.heap.size, 0, none⟩) hl2).trans a0
  have c1 := (hb3.cell (p := ⟨w1.heap.size, 1, none⟩) hl2).trans a1
  have c2 := (hb3.cell (p := ⟨w1.heap.size, 2, none⟩) hl2).trans a2
  have hl3 := Nat.lt_of_lt_of_le hl2 hb3.size
  have hb5 := below_step hb4 hb3 hb4.size
  have hk3 := hk2.below hb3
  clear hb4 hb3 hk2 a0 a1 a2 hl2
  go_wp2_with fail
  rcases hs with hs | hs
  · obtain ⟨j, hj, rfl⟩ := hs
    refine (size_in hj _ b o c (hk3.below ((Below.refl _ _).alloc (Nat.le_refl _) _))).mono ?_
    rintro e w4 ⟨rfl, hb6⟩
    have hb7 : Below w3.heap.size w3 w4 := ((Below.refl w3.heap.size w3).alloc (Nat.le_refl _) _).trans (hb6.mono (by simp))
    have hk4 := hk3.below hb7
    have hb8 := below_step hb5 hb7 hb5.size
    clear hb5 hb6 hb7 hk3
    go_wp2_with fail
    refine (code_in hj _ b o c (hk4.below ((Below.refl _ _).alloc (Nat.le_refl _) _))).mono ?_
    rintro e w5 ⟨rfl, hb9⟩
    have hb10 : Below w4.heap.size w4 w5 := ((Below.refl w4.heap.size w4).alloc (Nat.le_refl _) _).trans (hb9.mono (by simp))
    go_wp2_with fail
    go_ret
    exact ⟨rfl, below_step hb8 hb10 hb8.size⟩
  · refine (size_out hs _ b o c (hk3.below ((Below.refl _ _).alloc (Nat.le_refl _) _))).mono ?_
    rintro e w4 ⟨rfl, hb6⟩
    have hb7 : Below w3.heap.size w3 w4 := ((Below.refl w3.heap.size w3).alloc (Nat.le_refl _) _).trans (hb6.mono (by simp))
    have hb8 := below_step hb5 hb7 hb5.size
    clear hb5 hb6 hb7 hk3
    go_wp2_with fail
    go_ret
    exact ⟨rfl, hb8.alloc hb8.size _⟩
theorem isoKinds_any (s : ByteArray) (z : Int) (h r : Bool) (w : World) (b o c : Nat) (hk : Kin w b o c) :
    Calls Tryd.prog 8 #[.string s, .int .u8 z, .bool h, .bool r] w fun e w' => e = .returned (.bool true) ∧ Below w.heap.size w w' := by
  have hs : (∃ j, j < 6 ∧ s = kc j) ∨ ¬ idx (isC s) < 6 := by
    by_cases hj : idx (isC s) < 6
    · exact .inl ⟨_, hj, isC_eq (idx_lt_iff _ hj)⟩
    · exact .inr hj
  by_cases hj : idx (isK z h r) < 6
  · have he := isK_eq (idx_lt_iff _ hj)
    generalize idx (isK z h r) = k at *
    obtain ⟨rfl, rfl, rfl⟩ := he
    obtain ⟨h1, h2⟩ := kind_in hj
    have hcode : Hid (∀ (W : World) (b o c : Nat), Kin W b o c → Calls Tryd.prog 22 #[.agg #[.int .u8 (ksz k), .bool (khi k), .bool (krf k)]] W fun e w' => e = .returned (.tuple #[.string (kc k), .int .i64 0]) ∧ Below W.heap.size W w') := fun W b o c h => code_in hj W b o c h
    have hsize : Hid (∀ (W : World) (b o c : Nat), Kin W b o c → Calls Tryd.prog 23 #[.string (kc k)] W fun e w' => e = .returned (.tuple #[.agg #[.int .u8 (ksz k), .bool (khi k), .bool (krf k)], .int .i64 0]) ∧ Below W.heap.size W w') := fun W b o c h => size_in hj W b o c h
    have ez : (((kc k).size : Int) != 4) = false := by rw [kc_four hj]; rfl
    rcases h1 with h1 | h1
    · have e : khi k = false := by
        cases e : khi k
        · rfl
        · have := h2 e; omega
      rw [e] at hcode hsize ⊢
      exact kinds_in20 s hs _ _ _ hcode hsize ez (by simp [h1]) w b o c hk
    · cases e : khi k
      · rw [e] at hcode hsize
        exact kinds_in40 s hs _ _ _ hcode hsize ez (by simp [h1]) (by simp [h1]) w b o c hk
      · rw [e] at hcode hsize
        exact kinds_in41 s hs _ _ _ hcode hsize ez (by simp [h1]) (by simp [h1]) w b o c hk
  · obtain ⟨n1, n2⟩ := notK (idx_six _ hj)
    have e40 : (z == 40) = false := by simp [n2]
    cases e20 : (z == 20)
    · exact kinds_outa s hs hj e20 e40 w b o c hk
    · have : h = true := by
        cases h
        · exact absurd ⟨by simpa using e20, rfl⟩ n1
        · rfl
      subst this
      exact kinds_outb s hs hj e20 e40 w b o c hk
end Go.Proofs.YtedpadjlkddgjaaDoor
