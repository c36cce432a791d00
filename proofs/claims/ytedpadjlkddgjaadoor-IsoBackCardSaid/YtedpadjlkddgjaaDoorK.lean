/-
  The walks of the statements' tells, coded, awake.
-/
import Derived.Test.YtedpadjlkddgjaaDoorJ
namespace Go.Proofs.YtedpadjlkddgjaaDoor
open Go.RowKit Go.PlainAid
set_option maxRecDepth 100000 in
set_option maxHeartbeats 1600000 in
theorem tells_any (s : ByteArray) (w : World) (b o c : Nat) (hk : Kin w b o c) (hs : s.size ≤ maxLen) :
    Calls Tryd.prog 10 #[.string s] w fun e w' => e = .returned (.bool true) ∧ Below w.heap.size w w' := by
  go_enter Tryd.func10, Tryd.ntmps10
  go_wp2_with fail
  refine (check10_any s _ hs).mono ?_
  rintro e w1 ⟨rfl, hb1⟩
  go_wp2_with fail
  refine (rcheck_any s _ hs).mono ?_
  rintro e w2 ⟨rfl, rfl⟩
  go_wp2_with fail
  refine (read_any s _ hs).mono ?_
  rintro e w2 ⟨rfl, hb2'⟩
  have hb2 := below_step hb1 hb2' hb1.size
  clear hb1 hb2'
  go_wp2_with fail
  refine (rread_any s _ hs).mono ?_
  rintro e w3 ⟨rfl, hb3'⟩
  have hb3 := below_step hb2 hb3' hb2.size
  clear hb2 hb3'
  go_wp2_with fail
  refine (write_any s _ hs).mono ?_
  rintro e w4 ⟨rfl, hb4'⟩
  have hb4 := below_step hb3 hb4' hb3.size
  clear hb3 hb4'
  go_wp2_with fail
  refine (rwrite_any s _ hs).mono ?_
  rintro e w5 ⟨rfl, hb5'⟩
  have hb5 := below_step hb4 hb5' hb4.size
  clear hb4 hb5'
  go_wp2_with fail
  refine (right_any s _ hs).mono ?_
  rintro e w6 ⟨rfl, hb6'⟩
  have hb6 := below_step hb5 hb6' hb5.size
  clear hb5 hb6'
  go_wp2_with fail
  refine (of_any s _ hs).mono ?_
  rintro e w7 ⟨rfl, rfl⟩
  go_wp2_with fail
  refine (size_any s _ b o c (hk.below hb6)).mono ?_
  rintro e w7 ⟨rfl, hb7'⟩
  have hb7 := below_step hb6 hb7' hb6.size
  clear hb6 hb7'
  go_wp2_with fail
  refine (rsize_any s _ hs).mono ?_
  rintro e w8 ⟨rfl, hb8⟩
  have c0 : w8.cell? ⟨w7.heap.size, 0, none⟩ = some (.int .u8 (ksz (idx (isC s)))) := (hb8.cell (p := ⟨w7.heap.size, 0, none⟩) (by simp)).trans (by simp)
  have c1 : w8.cell? ⟨w7.heap.size, 1, none⟩ = some (.bool (khi (idx (isC s)))) := (hb8.cell (p := ⟨w7.heap.size, 1, none⟩) (by simp)).trans (by simp)
  have c2 : w8.cell? ⟨w7.heap.size, 2, none⟩ = some (.bool (krf (idx (isC s)))) := (hb8.cell (p := ⟨w7.heap.size, 2, none⟩) (by simp)).trans (by simp)
  have hl8 : w7.heap.size < w8.heap.size := by have := hb8.size; simp at this; omega
  have hb9 : Below w.heap.size w w8 := (hb7.alloc hb7.size _).trans (hb8.mono (by have := hb7.size; simp; omega))
  clear hb8 hb7
  go_wp2_with fail
  go_ret
  exact ⟨rfl, hb9.alloc hb9.size _⟩
set_option maxRecDepth 100000 in
set_option maxHeartbeats 800000 in
theorem coded_any (z : Int) (h r : Bool) (w : World) (b o c : Nat) (hk : Kin w b o c) :
    Calls Tryd.prog 21 #[.agg #[.int .u8 z, .bool h, .bool r]] w fun e w' => e = .returned (.bool true) ∧ Below w.heap.size w w' := by
  have hl := hk.lt
  have hl0 := hk.lt0
  have hk2 : Kin (w.alloc (.cells #[.int .u8 z, .bool h, .bool r] 46)) b o c := hk.below ((Below.refl _ _).alloc (Nat.le_refl _) _)
  go_enter Tryd.func21, Tryd.ntmps21
  go_wp2_with fail
  refine (code_any z h r _ b o c hk2).mono ?_
  rintro e w1 ⟨rfl, hb1⟩
  have c0 : w1.cell? ⟨w.heap.size, 0, none⟩ = some (.int .u8 z) := (hb1.cell (p := ⟨w.heap.size, 0, none⟩) (by simp)).trans (by simp)
  have c1 : w1.cell? ⟨w.heap.size, 1, none⟩ = some (.bool h) := (hb1.cell (p := ⟨w.heap.size, 1, none⟩) (by simp)).trans (by simp)
  have c2 : w1.cell? ⟨w.heap.size, 2, none⟩ = some (.bool r) := (hb1.cell (p := ⟨w.heap.size, 2, none⟩) (by simp)).trans (by simp)
  have hb2 : Below w.heap.size w w1 := ((Below.refl w.heap.size w).alloc (Nat.le_refl _) _).trans (hb1.mono (by simp))
  clear hb1
  go_wp2_with fail
  refine (rcode_any z h r _).mono ?_
  rintro e w2 ⟨rfl, hb3⟩
  have hb4 := below_step hb2 hb3 hb2.size
  clear hb2 hb3
  go_wp2_with fail
  go_ret
  exact ⟨rfl, hb4⟩
end Go.Proofs.YtedpadjlkddgjaaDoor
