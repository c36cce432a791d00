/-
  The walk of the reference's Code.
-/
import Derived.Test.YtedpadjlkddgjaaDoorF
namespace Go.Proofs.YtedpadjlkddgjaaDoor
open Go.RowKit Go.PlainAid
theorem idx_kc {k : Nat} (hk : k < 6) : idx (isC (kc k)) = k := by
  match k, hk with
  | 0, _ => decide +kernel
  | 1, _ => decide +kernel
  | 2, _ => decide +kernel
  | 3, _ => decide +kernel
  | 4, _ => decide +kernel
  | 5, _ => decide +kernel
theorem kc_size (k : Nat) : (kc k).size ≤ maxLen := by
  have : (kc k).size ≤ 4 := by
    unfold kc
    split <;> decide
  unfold maxLen; omega
theorem rsize_kc (k : Nat) (hk : k < 6) (w : World) :
    Calls Tryd.prog 31 #[.string (kc k)] w fun e w' => e = .returned (.tuple #[.agg #[.int .u8 (ksz k), .bool (khi k), .bool (krf k)], .int .i64 0]) ∧ Below w.heap.size w w' := by
  refine (rsize_any (kc k) w (kc_size k)).mono ?_
  rintro e w' ⟨rfl, hb⟩
  rw [idx_kc hk]
  exact ⟨by unfold kE; rw [if_pos hk], hb⟩
def codes : Array Value := #[.string (kc 0), .string (kc 1), .string (kc 2), .string (kc 3), .string (kc 4), .string (kc 5)]
theorem codes_at {k : Nat} (hk : k < 6) : codes[k]? = some (.string (kc k)) := by
  match k, hk with
  | 0, _ => rfl
  | 1, _ => rfl
  | 2, _ => rfl
  | 3, _ => rfl
  | 4, _ => rfl
  | 5, _ => rfl
set_option maxHeartbeats 800000 in
theorem rcode_any (z : Int) (h r : Bool) (w : World) :
    Calls Tryd.prog 39 #[.agg #[.int .u8 z, .bool h, .bool r]] w fun e w' => e = .returned (.tuple #[.string (kc (idx (isK z h r))), .int .i64 (kE (idx (isK z h r)))]) ∧ Below w.heap.size w w' := by
  go_enter Tryd.func39, Tryd.ntmps39
  go_wp2
  go_loopw [5] (fun i wr => ∃ k : Nat, k ≤ 6 ∧ i = .int .i64 k ∧ Hid (∀ j, j < k → isK z h r j = false) ∧ wr.heap[w.heap.size]? = some (.cells #[.int .u8 z, .bool h, .bool r] 60 (0, 0)) ∧ wr.heap[w.heap.size + 1]? = some (.cells codes 9 (0, 0)) ∧ Below w.heap.size w wr) (fun i _ => 6 - (intOf i).toNat)
  case atStart => exact ⟨0, by omega, rfl, Lib.hid (fun j hj => by omega), by
      rw [Below.heap_alloc _ _ _ (by simp)]; exact heap_alloc_new w _, by
      have := heap_alloc_new (w.alloc (Obj.cells #[.int .u8 z, .bool h, .bool r] 60)) (.cells codes 9)
      rw [World.size_alloc] at this
      exact this, by go_grown⟩
  case round =>
    obtain ⟨k, hk6, rfl, hn, hz, hcd, hbel⟩ := hrel
    have hlt2 := lt_of_block hz
    have hlt3 := lt_of_block hcd
    by_cases hlt : k < 6
    · have q0 : wr.cell? ⟨w.heap.size + 1, k, none⟩ = some (.string (kc k)) := by rw [cell_of_row wr _ k _ 9 (0, 0) hcd]; exact codes_at hlt
      go_wp2_with (go_at_call 31; refine (rsize_kc k hlt _).mono ?_; rintro e w1 ⟨rfl, hb1⟩; have hz1 := (hb1.block _ hlt2).trans hz; have z0 : w1.cell? ⟨w.heap.size, 0, none⟩ = some (.int .u8 z) := (by rw [cell_of_row w1 _ 0 _ 60 (0, 0) hz1]; rfl); have z1 : w1.cell? ⟨w.heap.size, 1, none⟩ = some (.bool h) := (by rw [cell_of_row w1 _ 1 _ 60 (0, 0) hz1]; rfl); have z2 : w1.cell? ⟨w.heap.size, 2, none⟩ = some (.bool r) := (by rw [cell_of_row w1 _ 2 _ 60 (0, 0) hz1]; rfl); have y0 := (hb1.cell (p := ⟨w.heap.size + 1, k, none⟩) hlt3).trans q0; have hl1 := Nat.lt_of_lt_of_le hlt3 hb1.size; have hl0 := Nat.lt_of_lt_of_le hlt2 hb1.size)
      · have e1 : ksz k = z := by assumption
        have e2 : khi k = h := by assumption
        have e3 : krf k = r := by assumption
        have hb1 : Below wr.heap.size wr w1 := by assumption
        have HS := idx_at (isK z h r) k hlt hn.out (by unfold isK; simp [e1, e2, e3])
        go_ret2
        exact ⟨ret_two (val_str (by rw [HS])) (val_int (by rw [HS]; unfold kE; rw [if_pos hlt])), (below_step hbel hb1 hbel.size).alloc (by have := hbel.size; have := hb1.size; omega) _⟩
      all_goals
        have hb1 : Below wr.heap.size wr w1 := by assumption
        have HS : Hid (∀ j, j < k + 1 → isK z h r j = false) := Lib.hid (fun j hj => by
          rcases Nat.lt_or_ge j k with hh | hh
          · exact hn.out j hh
          · rw [show j = k from by omega]
            unfold isK
            first
            | (have e : ¬ ksz k = z := (by assumption); simp [e])
            | (have e : ¬ khi k = h := (by assumption); simp [e])
            | (have e : ¬ krf k = r := (by assumption); simp [e]))
        go_roundw
        case rel => exact ⟨k + 1, by omega, by go_num, HS, (Below.heap_alloc _ _ _ (Nat.lt_of_lt_of_le hlt2 hb1.size)).trans ((hb1.block _ hlt2).trans hz), (Below.heap_alloc _ _ _ (Nat.lt_of_lt_of_le hlt3 hb1.size)).trans ((hb1.block _ hlt3).trans hcd), (below_step hbel hb1 hbel.size).alloc (by have := hbel.size; have := hb1.size; omega) _⟩
        case measure => simp [intOf]; omega
    · obtain rfl : k = 6 := by omega
      have HS := Lib.hid (idx_none (isK z h r) hn.out)
      clear hn
      go_wp2
      go_ret2
      exact ⟨ret_two (val_str (by rw [HS.out]; rfl)) (val_int (by rw [HS.out]; rfl)), hbel⟩
end Go.Proofs.YtedpadjlkddgjaaDoor
