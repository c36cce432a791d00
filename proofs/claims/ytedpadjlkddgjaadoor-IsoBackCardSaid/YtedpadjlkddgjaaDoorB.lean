/-
  The walks of digit, Check, check, Right, and of the reference's Value, form, Remainder, Check, Of.
-/
import Derived.Test.YtedpadjlkddgjaaDoorA
import Derived.Lib.Hide
namespace Go.Proofs.YtedpadjlkddgjaaDoor
open Go.RowKit Go.PlainAid
set_option maxHeartbeats 400000 in
theorem digit_any (s : ByteArray) (w : World) (hs : s.size ≤ 20) :
    Calls Tryd.prog 38 #[.string s] w fun e w' => e = .returned (.int .u8 (digI s s.size)) ∧ w = w' := by
  have hb := get_bt s
  go_enter Tryd.func38, Tryd.ntmps38
  go_wp2
  go_loop [3, 9] (fun t i => ∃ k : Nat, k ≤ s.size ∧ i = .int .i64 k ∧ t = .int .i64 (dsum s k)) (fun _ i => s.size - (intOf i).toNat)
  case atStart => exact ⟨0, Nat.zero_le _, rfl, rfl⟩
  case round =>
    obtain ⟨k, hk, rfl, rfl⟩ := hrel
    have hb0 := bt_nonneg s k
    have hb1 := bt_le s k
    have hv := vI_bt s k
    have ht := term_small s (k := k) (by omega)
    have hd := dsum_small s (k := k) (by omega)
    by_cases hlt : k < s.size
    · go_wp2_with (go_at_call 24; refine (value_any (bt s k) _ hb0 hb1).mono ?_; rintro e w' ⟨rfl, rfl⟩)
      go_round
      case rel => exact ⟨k + 1, by omega, by go_num, by rw [dsum]⟩
      case measure => simp [intOf]; omega
    · obtain rfl : k = s.size := by omega
      go_wp2
      go_ret
      exact ⟨ret_int (by unfold digI; omega), rfl⟩
set_option maxHeartbeats 400000 in
theorem check10_any (s : ByteArray) (w : World) (hs : s.size ≤ maxLen) :
    Calls Tryd.prog 20 #[.string s] w fun e w' => e = .returned (.tuple #[.int .u8 (ckD s), .int .i64 (ckE s)]) ∧ Below w.heap.size w w' := by
  have hs' := hs
  unfold maxLen at hs'
  by_cases h10 : s.size = 10
  · have hn : ((s.size : Int) != 10) = false := by simp; omega
    cases hf : formedB s
    · have H : Hid (ckD s = 0 ∧ ckE s = 30) := ⟨by unfold ckD; rw [if_neg (by rw [hf]; simp)], by unfold ckE; rw [if_neg (by rw [hf]; simp)]⟩
      clear h10
      go_enter Tryd.func20, Tryd.ntmps20
      go_wp2_with (go_at_call 37; refine (formed_any s _ hs).mono ?_; rintro e w' ⟨rfl, hb1⟩)
      go_ret2
      exact ⟨ret_two (val_int H.out.1.symm) (val_int H.out.2.symm), hb1⟩
    · have H : Hid (ckD s = digI s s.size ∧ ckE s = 0) := ⟨by unfold ckD; rw [if_pos ⟨h10, hf⟩, h10], by unfold ckE; rw [if_pos ⟨h10, hf⟩]⟩
      have h20 : s.size ≤ 20 := by omega
      clear h10
      go_enter Tryd.func20, Tryd.ntmps20
      go_wp2_with (first | (go_at_call 37; refine (formed_any s _ hs).mono ?_; rintro e w' ⟨rfl, hb1⟩) | (go_at_call 38; refine (digit_any s _ h20).mono ?_; rintro e w' ⟨rfl, rfl⟩))
      go_ret2
      exact ⟨ret_two (val_int H.out.1.symm) (val_int H.out.2.symm), hb1⟩
  · have hn : ((s.size : Int) != 10) = true := by simp; omega
    have H : Hid (ckD s = 0 ∧ ckE s = 30) := ⟨by unfold ckD; rw [if_neg (by omega)], by unfold ckE; rw [if_neg (by omega)]⟩
    go_enter Tryd.func20, Tryd.ntmps20
    go_wp2
    go_ret2
    exact ⟨ret_two (val_int H.out.1.symm) (val_int H.out.2.symm), Below.refl _ _⟩

theorem digI_cut (s : ByteArray) (h : s.size = 11) : digI (s.extract 0 10) (s.extract 0 10).size = digI s 10 := by
  have hz : (s.extract 0 10).size = 10 := by rw [ByteArray.size_extract]; omega
  rw [hz]
  have : ∀ n, n ≤ 10 → dsum (s.extract 0 10) n = dsum s n := by
    intro n
    induction n with
    | zero => intro _; rfl
    | succ n ih => intro hn; rw [dsum, dsum, ih (by omega), bt_extract s 0 10 (by omega), Nat.zero_add]
  unfold digI
  rw [this 10 (Nat.le_refl _)]

theorem digit_cut (s : ByteArray) (w : World) (h : s.size = 11) :
    Calls Tryd.prog 38 #[.string (s.extract 0 10)] w fun e w' => e = .returned (.int .u8 (digI s 10)) ∧ w = w' := by
  have hz : (s.extract 0 10).size ≤ 20 := by rw [ByteArray.size_extract]; omega
  refine (digit_any _ w hz).mono ?_
  rintro e w' ⟨rfl, rfl⟩
  exact ⟨ret_int (digI_cut s h), rfl⟩

set_option maxHeartbeats 800000 in
theorem check_any (s : ByteArray) (w : World) (hs : s.size ≤ maxLen) :
    Calls Tryd.prog 34 #[.string s] w fun e w' => e = .returned (.int .i64 (chk s)) ∧ Below w.heap.size w w' := by
  have hs' := hs
  unfold maxLen at hs'
  have hb := get_bt s
  by_cases h10 : s.size = 11
  · have hn : ((s.size : Int) != 11) = false := by simp; omega
    cases hf : formedB s
    · have H : Hid (chk s = 30) := by unfold chk; rw [if_neg (by rw [hf]; simp)]; rfl
      clear h10
      go_enter Tryd.func34, Tryd.ntmps34
      go_wp2_with (go_at_call 37; refine (formed_any s _ hs).mono ?_; rintro e w' ⟨rfl, hb1⟩)
      go_ret
      exact ⟨ret_int H.out.symm, hb1⟩
    · have hd := digI_bd s 10
      have hb0 := bt_nonneg s 10
      have hb1 := bt_le s 10
      have h11 : 10 < s.size := by omega
      by_cases he : digI s 10 = bt s 10
      · skip
        have H : Hid (chk s = 0) := by unfold chk; rw [if_pos ⟨h10, hf⟩, if_pos he]; rfl
        have hne : (digI s 10 != bt s 10) = false := by simp [he]
        have hc := Lib.hid (fun W => digit_cut s W h10)
        clear h10 he
        go_enter Tryd.func34, Tryd.ntmps34
        go_wp2_with (go_at_call 37; refine (formed_any s _ hs).mono ?_; rintro e w' ⟨rfl, hb1⟩)
        go_quiet ((go_at_call 38; exact quiet_left (hc.out _)))
        go_wp2
        go_ret
        exact ⟨ret_int H.out.symm, below_drewN hb1 _⟩
      · skip
        have H : Hid (chk s = 31) := by unfold chk; rw [if_pos ⟨h10, hf⟩, if_neg he]; rfl
        have hne : (digI s 10 != bt s 10) = true := by simp [he]
        have hc := Lib.hid (fun W => digit_cut s W h10)
        clear h10 he
        go_enter Tryd.func34, Tryd.ntmps34
        go_wp2_with (go_at_call 37; refine (formed_any s _ hs).mono ?_; rintro e w' ⟨rfl, hb1⟩)
        go_quiet ((go_at_call 38; exact quiet_left (hc.out _)))
        go_wp2
        go_ret
        exact ⟨ret_int H.out.symm, below_drewN hb1 _⟩
  · have hn : ((s.size : Int) != 11) = true := by simp; omega
    have H : Hid (chk s = 30) := by unfold chk; rw [if_neg (by omega)]; rfl
    go_enter Tryd.func34, Tryd.ntmps34
    go_wp2
    go_ret
    exact ⟨ret_int H.out.symm, Below.refl _ _⟩
set_option maxHeartbeats 400000 in
theorem right_any (s : ByteArray) (w : World) (hs : s.size ≤ maxLen) :
    Calls Tryd.prog 14 #[.string s] w fun e w' => e = .returned (.bool (chk s == 0)) ∧ Below w.heap.size w w' := by
  go_enter Tryd.func14, Tryd.ntmps14
  go_wp2_with (go_at_call 34; refine (check_any s _ hs).mono ?_; rintro e w' ⟨rfl, hb1⟩)
  go_ret
  exact ⟨rfl, hb1⟩
-- the reference
set_option maxHeartbeats 800000 in
theorem rvalue_any (b : Int) (w : World) (h0 : 0 ≤ b) (h1 : b ≤ 255) :
    Calls Tryd.prog 25 #[.int .u8 b] w fun e w' => e = .returned (.tuple #[.int .i64 (vI b), .bool (okB b)]) ∧ w = w' := by
  by_cases hl : 65 ≤ b ∧ b ≤ 90
  · obtain ⟨hl0, hl1⟩ := hl
    have H : Hid (vI b = 10 + (b - 65) + (b - 65 + 9) / 10 ∧ okB b = true) := by
      unfold vI okB isDig isLet
      constructor
      · rw [if_neg (by simp; omega), if_pos (by simp; omega)]
      · simp; omega
    go_enter Tryd.func25, Tryd.ntmps25
    go_wp2
    go_loop [4, 5] (fun n c => ∃ q : Int, 0 ≤ q ∧ q ≤ b - 65 ∧ c = .int .u8 (65 + q) ∧ n = .int .i64 (10 + q + (q + 9) / 10)) (fun _ c => (b - intOf c).toNat)
    case atStart => exact ⟨0, by omega, by omega, rfl, rfl⟩
    case round =>
      obtain ⟨q, hq0, hq1, rfl, rfl⟩ := hrel
      by_cases hlt : q < b - 65
      · have hst := let_step hq0 (by omega)
        by_cases hm : (10 + q + (q + 9) / 10 + 1) % 11 = 0
        · have HS := Lib.hid (hst.1 hm)
          clear hst
          go_wp2
          go_round
          case rel => exact ⟨q + 1, by omega, by omega, by go_num, val_int HS.out.symm⟩
          case measure => simp [intOf]; omega
        · have HS := Lib.hid (hst.2 hm)
          clear hst
          go_wp2
          go_round
          case rel => exact ⟨q + 1, by omega, by omega, by go_num, val_int HS.out.symm⟩
          case measure => simp [intOf]; omega
      · obtain rfl : b = 65 + q := by omega
        go_wp2
        go_ret2
        exact ⟨ret_two (val_int (by have := H.out.1; omega)) (val_bool H.out.2.symm), rfl⟩
  · by_cases hd : 48 ≤ b ∧ b ≤ 57
    · obtain ⟨hd0, hd1⟩ := hd
      have H : Hid (vI b = b - 48 ∧ okB b = true) := by
        unfold vI okB isDig isLet
        constructor
        · rw [if_pos (by simp; omega)]
        · simp; omega
      clear hl
      go_enter Tryd.func25, Tryd.ntmps25
      go_wp2
      go_ret2
      exact ⟨ret_two (val_int H.out.1.symm) (val_bool H.out.2.symm), rfl⟩
    · have H : Hid (vI b = 0 ∧ okB b = false) := by
        unfold vI okB isDig isLet
        constructor
        · rw [if_neg (by simp; omega), if_neg (by simp; omega)]
        · simp; omega
      have hc : b < 48 ∨ (57 < b ∧ b < 65) ∨ 90 < b := by omega
      clear hl hd
      rcases hc with hc | ⟨hc, hc'⟩ | hc
      all_goals
        go_enter Tryd.func25, Tryd.ntmps25
        go_wp2
        go_ret2
        exact ⟨ret_two (val_int H.out.1.symm) (val_bool H.out.2.symm), rfl⟩
end Go.Proofs.YtedpadjlkddgjaaDoor
