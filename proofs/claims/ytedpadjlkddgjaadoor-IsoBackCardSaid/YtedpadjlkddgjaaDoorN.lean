/-
  The walks of Pick, remainder and Made.
-/
import Derived.Test.YtedpadjlkddgjaaDoorM
import Derived.Test.YtedpadjlkddgjaaDoorMade
namespace Go.Proofs.YtedpadjlkddgjaaDoor
open Go.RowKit Go.PlainAid
theorem neg_mod {x n : Int} (h : 0 < n) (hm : 0 < (-x) % n) : x % n = -((-x) % n) + n := by
  have h1 := Int.emod_lt_of_pos (-x) h
  have e : x = -((-x) % n) + n + n * (-((-x) / n) - 1) := by
    have := Int.emod_add_mul_ediv (-x) n
    rw [Int.mul_sub, Int.mul_neg]; omega
  conv => lhs; rw [e]
  rw [Int.add_mul_emod_self_left]
  exact Int.emod_eq_of_lt (by omega) (by omega)
theorem neg_mod0 {x n : Int} (h : 0 < n) (hm : (-x) % n ≤ 0) : x % n = -((-x) % n) := by
  have h0 := Int.emod_nonneg (-x) (show n ≠ 0 by omega)
  have hz : (-x) % n = 0 := by omega
  have : n ∣ -x := Int.dvd_of_emod_eq_zero hz
  rw [hz, Int.emod_eq_zero_of_dvd ((Int.dvd_neg).1 this)]
  rfl
set_option maxHeartbeats 400000 in
theorem pick_any (x n : Int) (w : World) (h0 : 1 ≤ n) (h1 : n ≤ 1000000000) (hx0 : -9223372036854775808 ≤ x) (hx1 : x ≤ 9223372036854775807) :
    Calls Tryd.prog 15 #[.int .i64 x, .int .i64 n] w fun e w' => e = .returned (.int .i64 (x % n)) ∧ w = w' := by
  by_cases hx : 0 ≤ x
  · have hm0 := Int.emod_nonneg x (show n ≠ 0 by omega)
    go_enter Tryd.func15, Tryd.ntmps15
    go_wp2
    go_ret
    exact ⟨rfl, rfl⟩
  · have hneg : x < 0 := by omega
    have ht1 := Int.tmod_eq_emod_of_nonneg (a := -x) (b := n) (by omega)
    have ht2 : x.tmod n = -((-x) % n) := by rw [← ht1, Int.neg_tmod, Int.neg_neg]
    have hq0 := Int.emod_nonneg (-x) (show n ≠ 0 by omega)
    have hq1 := Int.emod_lt_of_pos (-x) (show 0 < n by omega)
    go_enter Tryd.func15, Tryd.ntmps15
    go_wp2
    · have hm : 0 < -x % n := by assumption
      go_ret
      exact ⟨ret_int (neg_mod (by omega) hm).symm, rfl⟩
    · have hm : -x % n ≤ 0 := by assumption
      go_ret
      exact ⟨ret_int (neg_mod0 (by omega) hm).symm, rfl⟩
set_option maxHeartbeats 400000 in
theorem rem_any (s : ByteArray) (w : World) (hs : s.size ≤ 20) :
    Calls Tryd.prog 17 #[.string s] w fun e w' => e = .returned (.int .i64 (dsum s s.size % 11)) ∧ w = w' := by
  have hb := get_bt s
  go_enter Tryd.func17, Tryd.ntmps17
  go_wp2
  go_loop [3, 4, 5] (fun t y i => ∃ k : Nat, k ≤ s.size ∧ i = .int .i64 k ∧ t = .int .i64 (dsum s k) ∧ y = .int .i64 (2 ^ k)) (fun _ _ i => s.size - (intOf i).toNat)
  case atStart => exact ⟨0, Nat.zero_le _, rfl, rfl, rfl⟩
  case round =>
    obtain ⟨k, hk, rfl, rfl, rfl⟩ := hrel
    have hb0 := bt_nonneg s k
    have hb1 := bt_le s k
    have hv := vI_bt s k
    have ht := term_small s (k := k) (by omega)
    have hd := dsum_small s (k := k) (by omega)
    have hp0 := two_pow k
    have hp1 := pow_small (k := k) (by omega)
    by_cases hlt : k < s.size
    · go_wp2_with (go_at_call 24; refine (value_any (bt s k) _ hb0 hb1).mono ?_; rintro e w' ⟨rfl, rfl⟩)
      go_round
      case rel => exact ⟨k + 1, by omega, by go_num, by rw [dsum], val_int (by rw [Int.pow_succ])⟩
      case measure => simp [intOf]; omega
    · obtain rfl : k = s.size := by omega
      go_wp2
      go_ret
      exact ⟨rfl, rfl⟩
theorem made_check {n : Int} (h : 0 ≤ n) (w : World) :
    Calls Tryd.prog 20 #[.string (mdP n)] w fun e w' => e = .returned (.tuple #[.int .u8 (mdD n), .int .i64 0]) ∧ Below w.heap.size w w' := by
  have hc := check10_any (mdP n) w (by rw [mdP_size]; unfold maxLen; omega)
  have hp : (mdP n).size = 10 ∧ formedB (mdP n) = true := ⟨mdP_size n, mdP_formed h⟩
  rw [show ckD (mdP n) = mdD n by unfold ckD; rw [if_pos hp]; rfl, show ckE (mdP n) = 0 by unfold ckE; rw [if_pos hp]] at hc
  exact hc
theorem md_add {w : World} {B : Nat} {v : Value} {n x : Int} {k : Nat} (hx : mdB n k = x) (ho : w.ownsRow B 5 1 v (k + 1) ((mdL n k).map (Value.int .u8) ++ [.int .u8 x])) :
    w.ownsRow B 5 1 v (k + 1) ((mdL n (k + 1)).map (Value.int .u8)) := by
  rw [mdL, List.map_append, hx]; exact ho
set_option maxRecDepth 100000 in
set_option maxHeartbeats 1600000 in
theorem made_any (n : Int) (w : World) (h0 : 0 ≤ n) (h1 : n ≤ 18446744073709551615) :
    Calls Tryd.prog 13 #[.int .u64 n] w fun e w' => e = .returned (.tuple #[.string (mdP n), .int .u8 (mdD n), .bool true]) ∧ Below w.heap.size w w' := by
  obtain ⟨i0, hi, hz0, hz1, hz2⟩ := info_parts Tryd.info5
  go_enter Tryd.func13, Tryd.ntmps13
  go_wp2
  go_loopw [0, 5, 6] (fun q v i wr => ∃ k : Nat, k ≤ 10 ∧ i = .int .i64 k ∧ q = .int .u64 (quoAt n k) ∧ wr.ownsRow w.heap.size 5 1 v k ((mdL n k).map (Value.int .u8)) ∧ Below w.heap.size w wr) (fun _ _ i _ => 10 - (intOf i).toNat)
  case atStart => exact ⟨0, by omega, rfl, rfl, World.ownsRow_nil _ _ _ _, Below.refl _ _⟩
  case round =>
    obtain ⟨k, hk, rfl, rfl, hown, hbel⟩ := hrel
    have hq0 := quoAt_nonneg h0 k
    have hq1 : quoAt n k ≤ 18446744073709551615 := Int.le_trans (quoAt_le h0 k) h1
    by_cases hlt : k < 10
    · by_cases h3 : k < 3
      · have HS := Lib.hid (show quoAt n (k + 1) = quoAt n k / 26 by rw [quoAt]; unfold by_; rw [if_pos h3])
        have HB := Lib.hid (show mdB n k = 65 + quoAt n k % 26 by unfold mdB; rw [if_pos h3])
        go_wp2_with (at_builtin; refine wpList_append_own _ rfl (.tmp 25) (.tmp 30) 27 rfl w.heap.size 5 i0 (.int .u8 0) 1 1 Tryd.underlying27 hi hz0 hz1 hz2 rfl (by decide) _ _ _ rfl (hown.alloc _) ⟨wr.heap.size, 0, none⟩ 1 1 [.int .u8 (65 + quoAt n k % 26)] rfl rfl ?a0 ?b0 ?c0 ?d0 ?e0 ?_)
        try (case a0 => exact cell_one_new _ _ _)
        case b0 => first | rfl | (intro u hu; simp at hu; subst hu; rfl)
        case c0 => unfold maxLen; omega
        case d0 => omega
        case e0 => have := hbel.size; simp; omega
        intro v' w1 hown' hgrow _
        have hbel' := (hbel.alloc hbel.size _).grown hgrow (by have := hbel.size; simp; omega) (fun g hg => (hown.lt g hg).1)
        clear hown hgrow
        go_wp2
        go_roundw
        case rel => exact ⟨k + 1, by omega, by go_num, by rw [HS.out], md_add HB.out hown', hbel'⟩
        case measure => simp [intOf]; omega
      · by_cases h4 : k = 3
        · subst h4
          have HS := Lib.hid (show quoAt n 4 = quoAt n 3 / 3 by rw [quoAt]; rfl)
          have hc : quoAt n 3 % 3 = 0 ∨ quoAt n 3 % 3 = 1 ∨ quoAt n 3 % 3 = 2 := by omega
          rcases hc with hc | hc | hc
          · have HB := Lib.hid (show mdB n 3 = 85 by unfold mdB; rw [if_neg (by omega), if_pos rfl]; simp [hc])
            go_wp2_with (at_builtin; refine wpList_append_own _ rfl (.tmp 37) (.tmp 41) 27 rfl w.heap.size 5 i0 (.int .u8 0) 1 1 Tryd.underlying27 hi hz0 hz1 hz2 rfl (by decide) _ _ _ rfl (hown.alloc _) ⟨wr.heap.size, 0, none⟩ 1 1 [.int .u8 (85)] rfl rfl ?a1 ?b1 ?c1 ?d1 ?e1 ?_)
            try (case a1 => exact cell_one_new _ _ _)
            case b1 => first | rfl | (intro u hu; simp at hu; subst hu; rfl)
            case c1 => unfold maxLen; omega
            case d1 => omega
            case e1 => have := hbel.size; simp; omega
            intro v' w1 hown' hgrow _
            have hbel' := (hbel.alloc hbel.size _).grown hgrow (by have := hbel.size; simp; omega) (fun g hg => (hown.lt g hg).1)
            clear hown hgrow
            go_wp2
            go_roundw
            case rel => exact ⟨4, by omega, rfl, by rw [HS.out], md_add HB.out hown', hbel'⟩
            case measure => simp [intOf]
          · have HB := Lib.hid (show mdB n 3 = 74 by unfold mdB; rw [if_neg (by omega), if_pos rfl]; simp [hc])
            go_wp2_with (at_builtin; refine wpList_append_own _ rfl (.tmp 37) (.tmp 41) 27 rfl w.heap.size 5 i0 (.int .u8 0) 1 1 Tryd.underlying27 hi hz0 hz1 hz2 rfl (by decide) _ _ _ rfl (hown.alloc _) ⟨wr.heap.size, 0, none⟩ 1 1 [.int .u8 (74)] rfl rfl ?a2 ?b2 ?c2 ?d2 ?e2 ?_)
            try (case a2 => exact cell_one_new _ _ _)
            case b2 => first | rfl | (intro u hu; simp at hu; subst hu; rfl)
            case c2 => unfold maxLen; omega
            case d2 => omega
            case e2 => have := hbel.size; simp; omega
            intro v' w1 hown' hgrow _
            have hbel' := (hbel.alloc hbel.size _).grown hgrow (by have := hbel.size; simp; omega) (fun g hg => (hown.lt g hg).1)
            clear hown hgrow
            go_wp2
            go_roundw
            case rel => exact ⟨4, by omega, rfl, by rw [HS.out], md_add HB.out hown', hbel'⟩
            case measure => simp [intOf]
          · have HB := Lib.hid (show mdB n 3 = 90 by unfold mdB; rw [if_neg (by omega), if_pos rfl]; simp [hc])
            go_wp2_with (at_builtin; refine wpList_append_own _ rfl (.tmp 37) (.tmp 41) 27 rfl w.heap.size 5 i0 (.int .u8 0) 1 1 Tryd.underlying27 hi hz0 hz1 hz2 rfl (by decide) _ _ _ rfl (hown.alloc _) ⟨wr.heap.size, 0, none⟩ 1 1 [.int .u8 (90)] rfl rfl ?a3 ?b3 ?c3 ?d3 ?e3 ?_)
            try (case a3 => exact cell_one_new _ _ _)
            case b3 => first | rfl | (intro u hu; simp at hu; subst hu; rfl)
            case c3 => unfold maxLen; omega
            case d3 => omega
            case e3 => have := hbel.size; simp; omega
            intro v' w1 hown' hgrow _
            have hbel' := (hbel.alloc hbel.size _).grown hgrow (by have := hbel.size; simp; omega) (fun g hg => (hown.lt g hg).1)
            clear hown hgrow
            go_wp2
            go_roundw
            case rel => exact ⟨4, by omega, rfl, by rw [HS.out], md_add HB.out hown', hbel'⟩
            case measure => simp [intOf]
        · have HS := Lib.hid (show quoAt n (k + 1) = quoAt n k / 10 by rw [quoAt]; unfold by_; rw [if_neg h3, if_neg h4])
          have HB := Lib.hid (show mdB n k = 48 + quoAt n k % 10 by unfold mdB; rw [if_neg h3, if_neg h4])
          go_wp2_with (at_builtin; refine wpList_append_own _ rfl (.tmp 13) (.tmp 18) 27 rfl w.heap.size 5 i0 (.int .u8 0) 1 1 Tryd.underlying27 hi hz0 hz1 hz2 rfl (by decide) _ _ _ rfl (hown.alloc _) ⟨wr.heap.size, 0, none⟩ 1 1 [.int .u8 (48 + quoAt n k % 10)] rfl rfl ?a4 ?b4 ?c4 ?d4 ?e4 ?_)
          try (case a4 => exact cell_one_new _ _ _)
          case b4 => first | rfl | (intro u hu; simp at hu; subst hu; rfl)
          case c4 => unfold maxLen; omega
          case d4 => omega
          case e4 => have := hbel.size; simp; omega
          intro v' w1 hown' hgrow _
          have hbel' := (hbel.alloc hbel.size _).grown hgrow (by have := hbel.size; simp; omega) (fun g hg => (hown.lt g hg).1)
          clear hown hgrow
          go_wp2
          go_roundw
          case rel => exact ⟨_ + 1, by omega, by go_num, by rw [HS.out], md_add HB.out hown', hbel'⟩
          case measure => simp [intOf]; omega
    · obtain rfl : k = 10 := by omega
      have hcs : (convert 27 9 u5).run Tryd.prog wr = .ok (.string (mdP n)) wr := run_own_string wr 27 9 5 Tryd.underlying27 Tryd.underlying5 Tryd.underlying9 hown
      go_wp2_with (go_at_call 20; refine (made_check h0 _).mono ?_; rintro e w1 ⟨rfl, hb2⟩; have hcs2 : (convert 27 9 u5).run Tryd.prog w1 = .ok (.string (mdP n)) w1 := run_own_string w1 27 9 5 Tryd.underlying27 Tryd.underlying5 Tryd.underlying9 (own_all hown hb2))
      go_ret3
      exact ⟨rfl, below_step hbel hb2 hbel.size⟩
end Go.Proofs.YtedpadjlkddgjaaDoor
