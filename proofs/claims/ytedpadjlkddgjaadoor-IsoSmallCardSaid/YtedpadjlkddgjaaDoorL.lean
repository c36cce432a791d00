/-
  The walk of awake: the examples of the chapter.
-/
import Derived.Test.YtedpadjlkddgjaaDoorK
namespace Go.Proofs.YtedpadjlkddgjaaDoor
open Go.RowKit Go.PlainAid
theorem aw1 (w : World) : Calls Tryd.prog 20 #[.string ⟨#[67, 83, 81, 85, 51, 48, 53, 52, 51, 56]⟩] w fun e w' => e = .returned (.tuple #[.int .u8 51, .int .i64 0]) ∧ Below w.heap.size w w' := by
  have h := check10_any ⟨#[67, 83, 81, 85, 51, 48, 53, 52, 51, 56]⟩ w (by decide +kernel)
  rw [show ckD ⟨#[67, 83, 81, 85, 51, 48, 53, 52, 51, 56]⟩ = 51 from by decide +kernel, show ckE ⟨#[67, 83, 81, 85, 51, 48, 53, 52, 51, 56]⟩ = 0 from by decide +kernel] at h
  exact h
theorem aw2 (w : World) : Calls Tryd.prog 19 #[.string ⟨#[99, 115, 113, 117, 32, 51, 48, 53, 52, 51, 56, 45, 51]⟩] w fun e w' => e = .returned (.tuple #[.string ⟨#[67, 83, 81, 85, 51, 48, 53, 52, 51, 56, 51]⟩, .int .i64 0]) ∧ Below w.heap.size w w' := by
  have h := read_any ⟨#[99, 115, 113, 117, 32, 51, 48, 53, 52, 51, 56, 45, 51]⟩ w (by decide +kernel)
  rw [show rdS ⟨#[99, 115, 113, 117, 32, 51, 48, 53, 52, 51, 56, 45, 51]⟩ = ⟨#[67, 83, 81, 85, 51, 48, 53, 52, 51, 56, 51]⟩ from by decide +kernel, show rdE ⟨#[99, 115, 113, 117, 32, 51, 48, 53, 52, 51, 56, 45, 51]⟩ = 0 from by decide +kernel] at h
  exact h
theorem aw3 (w : World) : Calls Tryd.prog 19 #[.string ⟨#[67, 83, 81, 85, 51, 48, 53, 52, 51, 56, 52]⟩] w fun e w' => e = .returned (.tuple #[.string ⟨#[]⟩, .int .i64 31]) ∧ Below w.heap.size w w' := by
  have h := read_any ⟨#[67, 83, 81, 85, 51, 48, 53, 52, 51, 56, 52]⟩ w (by decide +kernel)
  rw [show rdS ⟨#[67, 83, 81, 85, 51, 48, 53, 52, 51, 56, 52]⟩ = ⟨#[]⟩ from by decide +kernel, show rdE ⟨#[67, 83, 81, 85, 51, 48, 53, 52, 51, 56, 52]⟩ = 31 from by decide +kernel] at h
  exact h
theorem aw4 (w : World) : Calls Tryd.prog 19 #[.string ⟨#[67, 83, 81, 88, 51, 48, 53, 52, 51, 56, 51]⟩] w fun e w' => e = .returned (.tuple #[.string ⟨#[]⟩, .int .i64 30]) ∧ Below w.heap.size w w' := by
  have h := read_any ⟨#[67, 83, 81, 88, 51, 48, 53, 52, 51, 56, 51]⟩ w (by decide +kernel)
  rw [show rdS ⟨#[67, 83, 81, 88, 51, 48, 53, 52, 51, 56, 51]⟩ = ⟨#[]⟩ from by decide +kernel, show rdE ⟨#[67, 83, 81, 88, 51, 48, 53, 52, 51, 56, 51]⟩ = 30 from by decide +kernel] at h
  exact h
theorem aw5 (w : World) : Calls Tryd.prog 18 #[.string ⟨#[67, 83, 81, 85, 51, 48, 53, 52, 51, 56, 51]⟩] w fun e w' => e = .returned (.tuple #[.string ⟨#[67, 83, 81, 85, 32, 51, 48, 53, 52, 51, 56, 32, 51]⟩, .int .i64 0]) ∧ Below w.heap.size w w' := by
  have h := write_any ⟨#[67, 83, 81, 85, 51, 48, 53, 52, 51, 56, 51]⟩ w (by decide +kernel)
  rw [show wrS ⟨#[67, 83, 81, 85, 51, 48, 53, 52, 51, 56, 51]⟩ = ⟨#[67, 83, 81, 85, 32, 51, 48, 53, 52, 51, 56, 32, 51]⟩ from by decide +kernel, show chk ⟨#[67, 83, 81, 85, 51, 48, 53, 52, 51, 56, 51]⟩ = 0 from by decide +kernel] at h
  exact h
def awl : List (Nat × Int) := [(0, 77), (0, 87), (1, 73), (2, 71)]
theorem aw6 (w : World) : Calls Tryd.prog 16 #[.string ⟨#[67, 83, 81, 85, 51, 48, 53, 52, 51, 56, 51]⟩] w fun e w' => ∃ v, e = .returned (.tuple #[v, .int .i64 0]) ∧ w'.ownsRow w.heap.size 34 2 v awl.length (cells2 awl) ∧ Below w.heap.size w w' := by
  have h := misses_any ⟨#[67, 83, 81, 85, 51, 48, 53, 52, 51, 56, 51]⟩ w (by decide +kernel)
  rw [show ml ⟨#[67, 83, 81, 85, 51, 48, 53, 52, 51, 56, 51]⟩ = awl from by decide +kernel, show chk ⟨#[67, 83, 81, 85, 51, 48, 53, 52, 51, 56, 51]⟩ = 0 from by decide +kernel] at h
  exact h
theorem aw7 (w : World) (b o c : Nat) (hk : Kin w b o c) : Calls Tryd.prog 23 #[.string ⟨#[52, 53, 82, 49]⟩] w fun e w' => e = .returned (.tuple #[.agg #[.int .u8 40, .bool true, .bool true], .int .i64 0]) ∧ Below w.heap.size w w' := by
  have h := size_any ⟨#[52, 53, 82, 49]⟩ w b o c hk
  rw [show idx (isC ⟨#[52, 53, 82, 49]⟩) = 5 from by decide +kernel] at h
  exact h
theorem aw8 (w : World) (b o c : Nat) (hk : Kin w b o c) : Calls Tryd.prog 23 #[.string ⟨#[50, 53, 71, 49]⟩] w fun e w' => e = .returned (.tuple #[.agg #[.int .u8 0, .bool false, .bool false], .int .i64 32]) ∧ Below w.heap.size w w' := by
  have h := size_any ⟨#[50, 53, 71, 49]⟩ w b o c hk
  rw [show idx (isC ⟨#[50, 53, 71, 49]⟩) = 6 from by decide +kernel] at h
  exact h
theorem aw9 (va : Value) (w : World) (A : Nat) (h1 : w.ownsRow A 34 2 va awl.length (cells2 awl)) :
    Calls Tryd.prog 33 #[va, .slice (some ⟨w.heap.size, 0, none⟩) 4 4] (w.alloc (.cells #[.int .i64 0, .int .u8 77, .int .i64 0, .int .u8 87, .int .i64 1, .int .u8 73, .int .i64 2, .int .u8 71] 34)) fun e w' => e = .returned (.bool true) ∧ Below w.heap.size w w' := by
  refine (same_eq awl va _ _ A 0 (h1.alloc _) (World.ownsRow_lit w #[.int .i64 0, .int .u8 77, .int .i64 0, .int .u8 87, .int .i64 1, .int .u8 73, .int .i64 2, .int .u8 71] 4 (by omega) (by decide +kernel) rfl) (by decide +kernel)).mono ?_
  rintro e w' ⟨rfl, n, rfl⟩
  exact ⟨rfl, below_drewN ((Below.refl _ _).alloc (Nat.le_refl _) _) _⟩
set_option maxRecDepth 100000 in
set_option maxHeartbeats 1600000 in
theorem awake_any (w : World) (b o c : Nat) (hk : Kin w b o c) :
    Calls Tryd.prog 12 #[] w fun e w' => e = .returned (.bool true) ∧ Below w.heap.size w w' := by
  go_enter Tryd.func12, Tryd.ntmps12
  go_wp2_with fail
  refine (aw1 _).mono ?_
  rintro e w1 ⟨rfl, hb1⟩
  go_wp2_with fail
  refine (aw2 _).mono ?_
  rintro e w2 ⟨rfl, hb'⟩
  have hb2 := below_step hb1 hb' hb1.size
  clear hb' hb1
  go_wp2_with fail
  refine (aw3 _).mono ?_
  rintro e w3 ⟨rfl, hb'⟩
  have hb3 := below_step hb2 hb' hb2.size
  clear hb' hb2
  go_wp2_with fail
  refine (aw4 _).mono ?_
  rintro e w4 ⟨rfl, hb'⟩
  have hb4 := below_step hb3 hb' hb3.size
  clear hb' hb3
  go_wp2_with fail
  refine (aw5 _).mono ?_
  rintro e w5 ⟨rfl, hb'⟩
  have hb5 := below_step hb4 hb' hb4.size
  clear hb' hb4
  go_wp2_with fail
  refine (aw6 _).mono ?_
  rintro e w6 ⟨va, rfl, ha, hb'⟩
  have hb6 := below_step hb5 hb' hb5.size
  clear hb' hb5
  go_wp2_with fail
  refine (aw7 _ b o c (hk.below hb6)).mono ?_
  rintro e w7 ⟨rfl, hb'⟩
  have hb7 := below_step hb6 hb' hb6.size
  have ha7 := own_all ha hb'
  clear hb' hb6 ha
  go_wp2_with fail
  refine (aw8 _ b o c ((hk.below hb7).below ((Below.refl _ _).alloc (Nat.le_refl _) _))).mono ?_
  rintro e w8 ⟨rfl, hb8⟩
  have c0 : w8.cell? ⟨w7.heap.size, 0, none⟩ = some (.int .u8 40) := (hb8.cell (p := ⟨w7.heap.size, 0, none⟩) (by simp)).trans (by simp)
  have c1 : w8.cell? ⟨w7.heap.size, 1, none⟩ = some (.bool true) := (hb8.cell (p := ⟨w7.heap.size, 1, none⟩) (by simp)).trans (by simp)
  have c2 : w8.cell? ⟨w7.heap.size, 2, none⟩ = some (.bool true) := (hb8.cell (p := ⟨w7.heap.size, 2, none⟩) (by simp)).trans (by simp)
  have hl8 : w7.heap.size < w8.heap.size := by have := hb8.size; simp at this; omega
  have hb9 : Below w.heap.size w w8 := (hb7.alloc hb7.size _).trans (hb8.mono (by have := hb7.size; simp; omega))
  have ha8 := own_all (ha7.alloc _) hb8
  clear hb8 hb7 ha7
  go_wp2_with fail
  refine (aw9 _ _ _ ha8).mono ?_
  rintro e w10 ⟨rfl, hb10⟩
  have d0 := (hb10.cell (p := ⟨w7.heap.size, 0, none⟩) hl8).trans c0
  have d1 := (hb10.cell (p := ⟨w7.heap.size, 1, none⟩) hl8).trans c1
  have d2 := (hb10.cell (p := ⟨w7.heap.size, 2, none⟩) hl8).trans c2
  have hb11 := hb9.trans (hb10.mono hb9.size)
  clear hb10 hb9 c0 c1 c2
  go_wp2_with fail
  go_ret
  exact ⟨rfl, hb11⟩
end Go.Proofs.YtedpadjlkddgjaaDoor
