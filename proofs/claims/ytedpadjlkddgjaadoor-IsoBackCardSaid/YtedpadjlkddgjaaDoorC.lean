/-
  The walks of the reference's form, Remainder, Check, Of.
-/
import Derived.Test.YtedpadjlkddgjaaDoorB
namespace Go.Proofs.YtedpadjlkddgjaaDoor
open Go.RowKit Go.PlainAid

def frm (s : ByteArray) (m : Nat) : Bool := decide (s.size = m) && formedTo s m
theorem frm_stop (s : ByteArray) {m k : Nat} (h : k < m) (hm : mayI k (bt s k) = false) : frm s m = false := by
  unfold frm
  cases hf : formedTo s m with
  | false => simp
  | true =>
    have := formedTo_le s (k := k + 1) h hf
    rw [formedTo_succ, hm] at this
    simp at this
theorem frm_size {s : ByteArray} {m : Nat} (h : s.size ≠ m) : frm s m = false := by unfold frm; simp [h]
theorem frm_eq {s : ByteArray} {m : Nat} (h : s.size = m) : frm s m = formedB s := by unfold frm formedB; rw [h]; simp

set_option maxHeartbeats 2000000 in
theorem form_any (s : ByteArray) (m : Nat) (w : World) (hm : m ≤ 11) (hs : s.size ≤ maxLen) :
    Calls Tryd.prog 46 #[.string s, .int .i64 m] w fun e w' => e = .returned (.bool (frm s m)) ∧ w = w' := by
  unfold maxLen at hs
  have hb := get_bt s
  by_cases hz : s.size = m
  · have hn : ((s.size : Int) != m) = false := by simp; omega
    have HZ := Lib.hid hz
    have hz0 : m ≤ s.size := by omega
    clear hz
    go_enter Tryd.func46, Tryd.ntmps46
    go_wp2
    go_loop [5] (fun i => ∃ k : Nat, k ≤ m ∧ i = .int .i64 k ∧ formedTo s k = true) (fun i => m - (intOf i).toNat)
    case atStart => exact ⟨0, Nat.zero_le _, rfl, rfl⟩
    case round =>
      obtain ⟨k, hk, rfl, hf⟩ := hrel
      have hb0 := bt_nonneg s k
      have hb1 := bt_le s k
      by_cases hlt : k < m
      · by_cases hmay : mayI k (bt s k) = true
        · have HS : Hid (formedTo s (k + 1) = true) := by rw [formedTo_succ, hf, hmay]; rfl
          have hc : (k < 3 ∧ 65 ≤ bt s k ∧ bt s k ≤ 90) ∨ (k = 3 ∧ bt s k = 85) ∨ (k = 3 ∧ bt s k = 74) ∨ (k = 3 ∧ bt s k = 90) ∨ (3 < k ∧ 48 ≤ bt s k ∧ bt s k ≤ 57) := by
            unfold mayI isLet isGrp isDig at hmay
            split at hmay
            · simp at hmay; omega
            · split at hmay
              · rename_i h3; subst h3; simp at hmay; omega
              · split at hmay
                · simp at hmay; omega
                · simp at hmay
          clear hmay hf
          rcases hc with ⟨h3, c0, c1⟩ | ⟨rfl, c⟩ | ⟨rfl, c⟩ | ⟨rfl, c⟩ | ⟨h3, c0, c1⟩
          all_goals
            go_wp2
            go_round
            case rel => exact ⟨_ + 1, by omega, by go_num, HS.out⟩
            case measure => simp [intOf]; omega
        · have HS : Hid (frm s m = false) := frm_stop s hlt (by simpa using hmay)
          have hc : (k < 3 ∧ bt s k < 65) ∨ (k < 3 ∧ 90 < bt s k) ∨ (k = 3 ∧ (bt s k != 85) = true ∧ (bt s k != 74) = true ∧ (bt s k != 90) = true) ∨ (3 < k ∧ bt s k < 48) ∨ (3 < k ∧ 57 < bt s k) := by
            unfold mayI isLet isGrp isDig at hmay
            split at hmay
            · simp at hmay; omega
            · split at hmay
              · rename_i h3; subst h3; simp at hmay; simp; omega
              · split at hmay
                · simp at hmay; omega
                · omega
          clear hmay hf
          rcases hc with ⟨h3, c0⟩ | ⟨h3, c0⟩ | ⟨rfl, c0, c1, c2⟩ | ⟨h3, c0⟩ | ⟨h3, c0⟩
          all_goals
            go_wp2
            all_goals first | (go_ret; exact ⟨ret_bool HS.out.symm, rfl⟩) | (exfalso; have h : (!decide (bt s k ≤ 57)) = false := (by assumption); simp at h; omega)
      · have hk2 : k = m := by omega
        have H := Lib.hid (show frm s m = true by unfold frm; rw [← hk2, hf, HZ.out, hk2]; simp)
        clear hk2
        go_wp2
        go_ret
        exact ⟨ret_bool H.out.symm, rfl⟩
  · have hn : ((s.size : Int) != m) = true := by simp; omega
    have H := Lib.hid (frm_size hz)
    go_enter Tryd.func46, Tryd.ntmps46
    go_wp2
    go_ret
    exact ⟨ret_bool H.out.symm, rfl⟩
set_option maxHeartbeats 800000 in
theorem remainder_any (s : ByteArray) (w : World) (hs : s.size = 10) :
    Calls Tryd.prog 47 #[.string s] w fun e w' => e = .returned (.int .i64 (dsum s 10 % 11)) ∧ w = w' := by
  have hb := get_bt s
  have hz : 10 ≤ s.size := by omega
  have hz' : s.size ≤ 10 := by omega
  clear hs
  go_enter Tryd.func47, Tryd.ntmps47
  go_wp2
  go_loop [3, 4, 5] (fun t y i => ∃ k : Nat, k ≤ 10 ∧ i = .int .i64 k ∧ t = .int .i64 (dsum s k % 11) ∧ y = .int .i64 (2 ^ k % 11)) (fun _ _ i => 10 - (intOf i).toNat)
  case atStart => exact ⟨0, Nat.zero_le _, rfl, rfl, rfl⟩
  case round =>
    obtain ⟨k, hk, rfl, rfl, rfl⟩ := hrel
    have hb0 := bt_nonneg s k
    have hb1 := bt_le s k
    have hv := vI_bt s k
    have ht := mod_term s k
    have H1 := Lib.hid (pow_mod k)
    have H2 := Lib.hid (dsum_mod s k)
    by_cases hlt : k < 10
    · go_wp2_with (go_at_call 25; refine (rvalue_any (bt s k) _ hb0 hb1).mono ?_; rintro e w' ⟨rfl, rfl⟩)
      go_round
      case rel => exact ⟨k + 1, by omega, by go_num, val_int H2.out, val_int H1.out⟩
      case measure => simp [intOf]; omega
    · obtain rfl : k = 10 := by omega
      go_wp2
      go_ret
      exact ⟨rfl, rfl⟩
set_option maxHeartbeats 800000 in
theorem rcheck_any (s : ByteArray) (w : World) (hs : s.size ≤ maxLen) :
    Calls Tryd.prog 27 #[.string s] w fun e w' => e = .returned (.tuple #[.int .u8 (ckD s), .int .i64 (ckE s)]) ∧ w = w' := by
  cases hf : frm s 10
  · have H : Hid (ckD s = 0 ∧ ckE s = 30) := by
      have : ¬ (s.size = 10 ∧ formedB s = true) := by
        rintro ⟨h1, h2⟩
        rw [frm_eq h1, h2] at hf
        cases hf
      exact ⟨by unfold ckD; rw [if_neg this], by unfold ckE; rw [if_neg this]⟩
    go_enter Tryd.func27, Tryd.ntmps27
    go_wp2_with (go_at_call 46; refine (form_any s 10 _ (by omega) hs).mono ?_; rintro e w' ⟨rfl, rfl⟩)
    go_ret2
    exact ⟨ret_two (val_int H.out.1.symm) (val_int H.out.2.symm), rfl⟩
  · have hz : s.size = 10 := by unfold frm at hf; simp at hf; exact hf.1
    have H : Hid (ckD s = 48 + dsum s 10 % 11 % 10 ∧ ckE s = 0) := by
      have : s.size = 10 ∧ formedB s = true := ⟨hz, by rw [← frm_eq hz]; exact hf⟩
      exact ⟨by unfold ckD digI; rw [if_pos this], by unfold ckE; rw [if_pos this]⟩
    have HZ := Lib.hid hz
    clear hz
    have hd := dsum_small s (k := 10) (by omega)
    by_cases h10 : dsum s 10 % 11 = 10
    · have he : (dsum s 10 % 11 == 10) = true := by simp [h10]
      go_enter Tryd.func27, Tryd.ntmps27
      go_wp2_with (first | (go_at_call 46; refine (form_any s 10 _ (by omega) hs).mono ?_; rintro e w' ⟨rfl, rfl⟩) | (go_at_call 47; refine (remainder_any s _ HZ.out).mono ?_; rintro e w' ⟨rfl, rfl⟩))
      go_ret2
      exact ⟨ret_two (val_int (by rw [H.out.1]; omega)) (val_int H.out.2.symm), rfl⟩
    · have he : (dsum s 10 % 11 == 10) = false := by simp [h10]
      have hlt : dsum s 10 % 11 < 10 := by omega
      clear h10
      go_enter Tryd.func27, Tryd.ntmps27
      go_wp2_with (first | (go_at_call 46; refine (form_any s 10 _ (by omega) hs).mono ?_; rintro e w' ⟨rfl, rfl⟩) | (go_at_call 47; refine (remainder_any s _ HZ.out).mono ?_; rintro e w' ⟨rfl, rfl⟩))
      go_ret2
      exact ⟨ret_two (val_int (by rw [H.out.1]; omega)) (val_int H.out.2.symm), rfl⟩
theorem formedB_cut (s : ByteArray) (hz : s.size = 11) : formedB (s.extract 0 10) = formedTo s 10 := by
  have : (s.extract 0 10).size = 10 := by rw [ByteArray.size_extract]; omega
  unfold formedB formedTo
  rw [this, Bool.eq_iff_iff, List.all_eq_true, List.all_eq_true]
  refine forall_congr' fun x => ?_
  rw [List.mem_range]
  constructor
  · intro h hx; have := h hx; rw [bt_extract s 0 10 (by omega), Nat.zero_add] at this; exact this
  · intro h hx; rw [bt_extract s 0 10 (by omega), Nat.zero_add]; exact h hx
theorem rcheck_cut (s : ByteArray) (w : World) (h : s.size = 11) (hf : formedB s = true) :
    Calls Tryd.prog 27 #[.string (s.extract 0 10)] w fun e w' => e = .returned (.tuple #[.int .u8 (digI s 10), .int .i64 0]) ∧ w = w' := by
  have hz : (s.extract 0 10).size = 10 := by rw [ByteArray.size_extract]; omega
  have hp : (s.extract 0 10).size = 10 ∧ formedB (s.extract 0 10) = true := ⟨hz, by rw [formedB_cut s h]; exact formedTo_le s (k := 10) (by omega) hf⟩
  refine (rcheck_any _ w (by unfold maxLen; omega)).mono ?_
  rintro e w' ⟨rfl, rfl⟩
  have hd := digI_cut s h
  rw [hz] at hd
  exact ⟨ret_two (val_int (by unfold ckD; rw [if_pos hp, hd])) (val_int (by unfold ckE; rw [if_pos hp])), rfl⟩
set_option maxHeartbeats 800000 in
theorem of_any (s : ByteArray) (w : World) (hs : s.size ≤ maxLen) :
    Calls Tryd.prog 30 #[.string s] w fun e w' => e = .returned (.int .i64 (chk s)) ∧ w = w' := by
  have hb := get_bt s
  cases hf : frm s 11
  · have H : Hid (chk s = 30) := by
      have : ¬ (s.size = 11 ∧ formedB s = true) := by
        rintro ⟨h1, h2⟩
        rw [frm_eq h1, h2] at hf
        cases hf
      exact (by unfold chk; rw [if_neg this] : chk s = 30)
    go_enter Tryd.func30, Tryd.ntmps30
    go_wp2_with (go_at_call 46; refine (form_any s 11 _ (by omega) hs).mono ?_; rintro e w' ⟨rfl, rfl⟩)
    go_ret
    exact ⟨ret_int H.out.symm, rfl⟩
  · have hz : s.size = 11 := by unfold frm at hf; simp at hf; exact hf.1
    have hf2 : formedB s = true := by rw [← frm_eq hz]; exact hf
    have hc := Lib.hid (fun W => rcheck_cut s W hz hf2)
    have hd := digI_bd s 10
    have hb0 := bt_nonneg s 10
    have hb1 := bt_le s 10
    have h11 : 10 < s.size := by omega
    by_cases he : digI s 10 = bt s 10
    · have H : Hid (chk s = 0) := (by unfold chk; rw [if_pos ⟨hz, hf2⟩, if_pos he] : chk s = 0)
      have hne : (digI s 10 != bt s 10) = false := by simp [he]
      clear hz hf2 he
      go_enter Tryd.func30, Tryd.ntmps30
      go_wp2_with (first | (go_at_call 46; refine (form_any s 11 _ (by omega) hs).mono ?_; rintro e w' ⟨rfl, rfl⟩) | (go_at_call 27; refine (hc.out _).mono ?_; rintro e w' ⟨rfl, rfl⟩))
      go_ret
      exact ⟨ret_int H.out.symm, rfl⟩
    · have H : Hid (chk s = 31) := (by unfold chk; rw [if_pos ⟨hz, hf2⟩, if_neg he] : chk s = 31)
      have hne : (digI s 10 != bt s 10) = true := by simp [he]
      clear hz hf2 he
      go_enter Tryd.func30, Tryd.ntmps30
      go_wp2_with (first | (go_at_call 46; refine (form_any s 11 _ (by omega) hs).mono ?_; rintro e w' ⟨rfl, rfl⟩) | (go_at_call 27; refine (hc.out _).mono ?_; rintro e w' ⟨rfl, rfl⟩))
      go_ret
      exact ⟨ret_int H.out.symm, rfl⟩
end Go.Proofs.YtedpadjlkddgjaaDoor
