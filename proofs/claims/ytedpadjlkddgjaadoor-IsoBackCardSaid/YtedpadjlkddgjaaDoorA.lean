/-
  The walks of the chapter's small functions: Value, may and its closures, formed.
-/
import Derived.Test.YtedpadjlkddgjaaDoorProg
import Derived.Test.YtedpadjlkddgjaaDoorPlain
import Derived.Test.YtedpadjlkddgjaaDoorWords
import Derived.Deep.QuietTactic
import Derived.BigQuiet
import Derived.Laws.EntriesVeiled
namespace Go.Proofs.YtedpadjlkddgjaaDoor
open Go.RowKit Go.PlainAid
set_option maxHeartbeats 400000 in
theorem value_any (b : Int) (w : World) (h0 : 0 ≤ b) (h1 : b ≤ 255) :
    Calls Tryd.prog 24 #[.int .u8 b] w fun e w' => e = .returned (.tuple #[.int .i64 (vI b), .bool (okB b)]) ∧ w = w' := by
  go_enter Tryd.func24, Tryd.ntmps24
  go_wp2
  all_goals (go_ret2; refine ⟨?_, rfl⟩; unfold vI okB isDig isLet)
  all_goals (simp [*])
  all_goals omega
set_option maxHeartbeats 400000 in
theorem may_any (w : World) :
    Calls Tryd.prog 35 #[] w fun e w' => e = .returned (.agg #[Value.func (Fn.func 48) #[] #[], Value.func (Fn.func 48) #[] #[], Value.func (Fn.func 48) #[] #[], Value.func (Fn.func 49) #[] #[], Value.func (Fn.func 50) #[] #[], Value.func (Fn.func 50) #[] #[], Value.func (Fn.func 50) #[] #[], Value.func (Fn.func 50) #[] #[], Value.func (Fn.func 50) #[] #[], Value.func (Fn.func 50) #[] #[], Value.func (Fn.func 50) #[] #[]]) ∧ w.alloc (.cells #[Value.func (Fn.func 48) #[] #[], Value.func (Fn.func 48) #[] #[], Value.func (Fn.func 48) #[] #[], Value.func (Fn.func 49) #[] #[], Value.func (Fn.func 50) #[] #[], Value.func (Fn.func 50) #[] #[], Value.func (Fn.func 50) #[] #[], Value.func (Fn.func 50) #[] #[], Value.func (Fn.func 50) #[] #[], Value.func (Fn.func 50) #[] #[], Value.func (Fn.func 50) #[] #[]] 70) = w' := by
  go_enter Tryd.func35, Tryd.ntmps35
  go_wp2
  go_returns
  exact ⟨rfl, rfl⟩
set_option maxHeartbeats 400000 in
theorem let_any (b : Int) (w : World) (h0 : 0 ≤ b) (h1 : b ≤ 255) :
    Calls Tryd.prog 48 #[.int .u8 b] w fun e w' => e = .returned (.bool (isLet b)) ∧ w = w' := by
  go_enter Tryd.func48, Tryd.ntmps48
  go_wp2
  all_goals (go_ret; refine ⟨?_, rfl⟩; unfold isLet)
  all_goals (simp [*]; try omega)
set_option maxHeartbeats 400000 in
theorem grp_any (b : Int) (w : World) (_h0 : 0 ≤ b) (_h1 : b ≤ 255) :
    Calls Tryd.prog 49 #[.int .u8 b] w fun e w' => e = .returned (.bool (isGrp b)) ∧ w = w' := by
  go_enter Tryd.func49, Tryd.ntmps49
  go_wp2
  all_goals (go_ret; refine ⟨?_, rfl⟩; unfold isGrp)
  all_goals (simp [*])
set_option maxHeartbeats 400000 in
theorem dig_any (b : Int) (w : World) (h0 : 0 ≤ b) (h1 : b ≤ 255) :
    Calls Tryd.prog 50 #[.int .u8 b] w fun e w' => e = .returned (.bool (isDig b)) ∧ w = w' := by
  go_enter Tryd.func50, Tryd.ntmps50
  go_wp2
  all_goals (go_ret; refine ⟨?_, rfl⟩; unfold isDig)
  all_goals (simp [*]; try omega)

/-- block g is the array of closures -/
def AtIn (w : World) (g : Nat) : Prop := w.heap[g]? = some (.cells #[Value.func (Fn.func 48) #[] #[], Value.func (Fn.func 48) #[] #[], Value.func (Fn.func 48) #[] #[], Value.func (Fn.func 49) #[] #[], Value.func (Fn.func 50) #[] #[], Value.func (Fn.func 50) #[] #[], Value.func (Fn.func 50) #[] #[], Value.func (Fn.func 50) #[] #[], Value.func (Fn.func 50) #[] #[], Value.func (Fn.func 50) #[] #[], Value.func (Fn.func 50) #[] #[]] 70 (0, 0))
theorem AtIn.cell {w : World} {g : Nat} (h : AtIn w g) (i : Nat) : w.cell? ⟨g, i, none⟩ = (#[Value.func (Fn.func 48) #[] #[], Value.func (Fn.func 48) #[] #[], Value.func (Fn.func 48) #[] #[], Value.func (Fn.func 49) #[] #[], Value.func (Fn.func 50) #[] #[], Value.func (Fn.func 50) #[] #[], Value.func (Fn.func 50) #[] #[], Value.func (Fn.func 50) #[] #[], Value.func (Fn.func 50) #[] #[], Value.func (Fn.func 50) #[] #[], Value.func (Fn.func 50) #[] #[]] : Array Value)[i]? := cell_of_row w g i _ 70 (0, 0) h
theorem AtIn.c48 {w : World} {g : Nat} (h : AtIn w g) {i : Nat} (hi : i < 3) : w.cell? ⟨g, i, none⟩ = some (Value.func (Fn.func 48) #[] #[]) := by
  rw [h.cell]
  match i, hi with
  | 0, _ => rfl
  | 1, _ => rfl
  | 2, _ => rfl
theorem AtIn.c49 {w : World} {g : Nat} (h : AtIn w g) : w.cell? ⟨g, 3, none⟩ = some (Value.func (Fn.func 49) #[] #[]) := by
  rw [h.cell]; rfl
theorem AtIn.c50 {w : World} {g : Nat} (h : AtIn w g) {i : Nat} (hi : 3 < i) (hi' : i < 11) : w.cell? ⟨g, i, none⟩ = some (Value.func (Fn.func 50) #[] #[]) := by
  rw [h.cell]
  match i, hi, hi' with
  | 4, _, _ => rfl
  | 5, _, _ => rfl
  | 6, _, _ => rfl
  | 7, _, _ => rfl
  | 8, _, _ => rfl
  | 9, _, _ => rfl
  | 10, _, _ => rfl
theorem AtIn.new (w : World) (o : Obj) : AtIn ((w.alloc o).alloc (.cells #[Value.func (Fn.func 48) #[] #[], Value.func (Fn.func 48) #[] #[], Value.func (Fn.func 48) #[] #[], Value.func (Fn.func 49) #[] #[], Value.func (Fn.func 50) #[] #[], Value.func (Fn.func 50) #[] #[], Value.func (Fn.func 50) #[] #[], Value.func (Fn.func 50) #[] #[], Value.func (Fn.func 50) #[] #[], Value.func (Fn.func 50) #[] #[], Value.func (Fn.func 50) #[] #[]] 70)) (w.heap.size + 1) := by
  have := heap_alloc_new (w.alloc o) (.cells #[Value.func (Fn.func 48) #[] #[], Value.func (Fn.func 48) #[] #[], Value.func (Fn.func 48) #[] #[], Value.func (Fn.func 49) #[] #[], Value.func (Fn.func 50) #[] #[], Value.func (Fn.func 50) #[] #[], Value.func (Fn.func 50) #[] #[], Value.func (Fn.func 50) #[] #[], Value.func (Fn.func 50) #[] #[], Value.func (Fn.func 50) #[] #[], Value.func (Fn.func 50) #[] #[]] 70)
  rw [World.size_alloc] at this
  exact this
theorem AtIn.drewN {w : World} {g : Nat} (h : AtIn w g) (n : Nat) : AtIn (w.drewN n) g := h

set_option maxHeartbeats 800000 in
theorem formed_any (s : ByteArray) (w : World) (hs : s.size ≤ maxLen) :
    Calls Tryd.prog 37 #[.string s] w fun e w' => e = .returned (.bool (formedB s)) ∧ Below w.heap.size w w' := by
  unfold maxLen at hs
  have hb := get_bt s
  go_enter Tryd.func37, Tryd.ntmps37
  go_wp2_with (go_at_call 35; refine (may_any _).mono ?_; rintro e w' ⟨rfl, rfl⟩)
  go_loopw [8] (fun i wr => ∃ k : Nat, k ≤ s.size ∧ i = .int .i64 k ∧ formedTo s k = true ∧ AtIn wr (w.heap.size + 1) ∧ Below w.heap.size w wr)
    (fun i _ => s.size - (intOf i).toNat)
  case atStart => exact ⟨0, Nat.zero_le _, rfl, rfl, AtIn.new _ _, by go_grown⟩
  case round =>
    obtain ⟨k, hk, rfl, hf, hat, hbel⟩ := hrel
    have hb0 := bt_nonneg s k
    have hb1 := bt_le s k
    by_cases hlt : k < s.size
    · have hd11 : k < 3 ∨ k = 3 ∨ (3 < k ∧ k < 11) ∨ 11 ≤ k := by omega
      rcases hd11 with h3 | rfl | ⟨h3, h11⟩ | h11
      · skip
        have hc := hat.c48 h3
        have hd : decide ((11 : Int) ≤ (k : Int)) = false := by simp; omega
        go_wp2
        go_quiet ((go_at_call 48; exact Calls.quiet_of_same ((let_any (bt s k) _ hb0 hb1).mono fun _ _ ⟨h, h'⟩ => ⟨h, h'.symm⟩)))
        go_wp2
        · have hm : (!isLet (bt s k)) = true := by assumption
          have hm : isLet (bt s k) = false := by simpa using hm
          go_ret
          exact ⟨ret_bool (by rw [formedB_stop s hlt ((mayI_let h3 _).trans hm)]), below_drewN hbel _⟩
        · have hm : (!isLet (bt s k)) = false := by assumption
          have hm : isLet (bt s k) = true := by simpa using hm
          go_roundw
          case rel => exact ⟨k + 1, by omega, by go_num, by rw [formedTo_succ, hf, mayI_let h3 _, hm]; rfl, hat, below_drewN hbel _⟩
          case measure => simp [intOf]; omega
      · skip
        have hc := hat.c49
        go_wp2
        go_quiet ((go_at_call 49; exact Calls.quiet_of_same ((grp_any (bt s 3) _ hb0 hb1).mono fun _ _ ⟨h, h'⟩ => ⟨h, h'.symm⟩)))
        go_wp2
        · have hm : (!isGrp (bt s 3)) = true := by assumption
          have hm : isGrp (bt s 3) = false := by simpa using hm
          go_ret
          exact ⟨ret_bool (by rw [formedB_stop s hlt ((mayI_grp _).trans hm)]), below_drewN hbel _⟩
        · have hm : (!isGrp (bt s 3)) = false := by assumption
          have hm : isGrp (bt s 3) = true := by simpa using hm
          go_roundw
          case rel => exact ⟨4, by omega, by go_num, by rw [formedTo_succ, hf, mayI_grp _, hm]; rfl, hat, below_drewN hbel _⟩
          case measure => simp [intOf]; omega
      · skip
        have hc := hat.c50 h3 h11
        have hd : decide ((11 : Int) ≤ (k : Int)) = false := by simp; omega
        go_wp2
        go_quiet ((go_at_call 50; exact Calls.quiet_of_same ((dig_any (bt s k) _ hb0 hb1).mono fun _ _ ⟨h, h'⟩ => ⟨h, h'.symm⟩)))
        go_wp2
        · have hm : (!isDig (bt s k)) = true := by assumption
          have hm : isDig (bt s k) = false := by simpa using hm
          go_ret
          exact ⟨ret_bool (by rw [formedB_stop s hlt ((mayI_dig h3 h11 _).trans hm)]), below_drewN hbel _⟩
        · have hm : (!isDig (bt s k)) = false := by assumption
          have hm : isDig (bt s k) = true := by simpa using hm
          go_roundw
          case rel => exact ⟨k + 1, by omega, by go_num, by rw [formedTo_succ, hf, mayI_dig h3 h11 _, hm]; rfl, hat, below_drewN hbel _⟩
          case measure => simp [intOf]; omega
      · have hd : decide ((11 : Int) ≤ (k : Int)) = true := by simp; omega
        go_wp2
        go_quiet (fail)
        go_wp2
        go_ret
        exact ⟨ret_bool (by rw [formedB_stop s hlt (mayI_end h11 _)]), below_drewN hbel _⟩
    · have hk2 : k = s.size := by omega
      have HF : Hid (formedTo s s.size = true) := by rw [← hk2]; exact hf
      clear hk2 hf
      go_wp2
      go_ret
      exact ⟨ret_bool (by unfold formedB; rw [HF.out]), hbel⟩
end Go.Proofs.YtedpadjlkddgjaaDoor
