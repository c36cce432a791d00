/-
  The walks of Read and Write, the program's and the reference's.
-/
import Derived.Test.YtedpadjlkddgjaaDoorC
namespace Go.Proofs.YtedpadjlkddgjaaDoor
open Go.RowKit Go.PlainAid
theorem Tryd.info5 : (Tryd.prog.info? 5).map (fun i => (i.zero, i.size, i.bytes)) = some (some (.int .u8 0), 1, 1) := by kernel_rfl
def rdE (s : ByteArray) : Int := if 40 < s.size then 3 else chk (strOf (normTo s s.size))
def rdS (s : ByteArray) : ByteArray := if rdE s = 0 then strOf (normTo s s.size) else ⟨#[]⟩
theorem norm_skip {w : World} {B : Nat} {v : Value} {s : ByteArray} {k : Nat} (h : bt s k = 32 ∨ bt s k = 45) (ho : w.ownsRow B 5 1 v (normTo s k).length ((normTo s k).map (Value.int .u8))) :
    w.ownsRow B 5 1 v (normTo s (k + 1)).length ((normTo s (k + 1)).map (Value.int .u8)) := by
  rw [normTo, if_pos h, List.append_nil]; exact ho
theorem norm_add {w : World} {B : Nat} {v : Value} {s : ByteArray} {k : Nat} {x : Int} (h : bt s k ≠ 32 ∧ bt s k ≠ 45) (hx : low (bt s k) = x) (ho : w.ownsRow B 5 1 v ((normTo s k).length + 1) ((normTo s k).map (Value.int .u8) ++ [.int .u8 x])) :
    w.ownsRow B 5 1 v (normTo s (k + 1)).length ((normTo s (k + 1)).map (Value.int .u8)) := by
  rw [normTo, if_neg (by omega), List.length_append, List.map_append, hx]; exact ho

set_option maxRecDepth 100000 in
set_option maxHeartbeats 1600000 in
theorem read_any (s : ByteArray) (w : World) (hs : s.size ≤ maxLen) :
    Calls Tryd.prog 19 #[.string s] w fun e w' => e = .returned (.tuple #[.string (rdS s), .int .i64 (rdE s)]) ∧ Below w.heap.size w w' := by
  unfold maxLen at hs
  have hb := get_bt s
  by_cases hlong : 40 < s.size
  · have H : Hid (rdE s = 3 ∧ rdS s = ⟨#[]⟩) := by
      have : rdE s = 3 := by unfold rdE; rw [if_pos hlong]
      exact ⟨this, by unfold rdS; rw [this]; rfl⟩
    go_enter Tryd.func19, Tryd.ntmps19
    go_wp2
    go_ret2
    exact ⟨ret_two (val_str H.out.2.symm) (val_int H.out.1.symm), Below.refl _ _⟩
  · have HE : Hid (rdE s = chk (strOf (normTo s s.size))) := (by unfold rdE; rw [if_neg hlong] : rdE s = _)
    obtain ⟨i0, hi, hz0, hz1, hz2⟩ := info_parts Tryd.info5
    go_enter Tryd.func19, Tryd.ntmps19
    go_wp2
    go_loopw [4, 13] (fun v i wr => ∃ k : Nat, k ≤ s.size ∧ i = .int .i64 k ∧ wr.ownsRow w.heap.size 5 1 v (normTo s k).length ((normTo s k).map (Value.int .u8)) ∧ Below w.heap.size w wr)
      (fun _ i _ => s.size - (intOf i).toNat)
    case atStart => exact ⟨0, Nat.zero_le _, rfl, World.ownsRow_nil _ _ _ _, Below.refl _ _⟩
    case round =>
      obtain ⟨k, hk, rfl, hown, hbel⟩ := hrel
      have hb0 := bt_nonneg s k
      have hb1 := bt_le s k
      have hnl := normTo_le s k
      by_cases hlt : k < s.size
      · have hc : bt s k = 32 ∨ bt s k = 45 ∨ (97 ≤ bt s k ∧ bt s k ≤ 122) ∨ (bt s k ≠ 32 ∧ bt s k ≠ 45 ∧ bt s k < 97) ∨ 122 < bt s k := by omega
        rcases hc with c0 | c0 | ⟨c0, c1⟩ | ⟨c0, c1, c2⟩ | c0
        · have HS := Lib.hid (norm_skip (.inl c0) hown)
          have e0 : (bt s k == 32) = true := by simp [c0]
          clear hown c0
          go_wp2
          go_roundw
          case rel => exact ⟨k + 1, by omega, by go_num, HS.out, hbel⟩
          case measure => simp [intOf]; omega
        · have HS := Lib.hid (norm_skip (.inr c0) hown)
          have e0 : (bt s k == 32) = false := by simp [c0]
          have e1 : (bt s k == 45) = true := by simp [c0]
          clear hown c0
          go_wp2
          go_roundw
          case rel => exact ⟨k + 1, by omega, by go_num, HS.out, hbel⟩
          case measure => simp [intOf]; omega
        · have e0 : (bt s k == 32) = false := by simp; omega
          have e1 : (bt s k == 45) = false := by simp; omega
          have HS := Lib.hid (fun (w1 : World) (v : Value) => @norm_add w1 w.heap.size v s k (bt s k - 97 + 65) ⟨by omega, by omega⟩ (by unfold low; rw [if_pos ⟨c0, c1⟩]))
          go_wp2_with (at_builtin; refine wpList_append_own _ rfl (.tmp 37) (.tmp 41) 27 rfl w.heap.size 5 i0 (.int .u8 0) 1 1 Tryd.underlying27 hi hz0 hz1 hz2 rfl (by decide) _ _ _ rfl (hown.alloc _) ⟨wr.heap.size, 0, none⟩ 1 1 [.int .u8 (bt s k - 97 + 65)] rfl rfl ?a0 ?b0 ?c0 ?d0 ?e0 ?_)
          try (case a0 => exact cell_one_new _ _ _)
          case b0 => first | rfl | (intro u hu; simp at hu; subst hu; rfl)
          case c0 => unfold maxLen; omega
          case d0 => omega
          case e0 => have := hbel.size; simp; omega
          intro v' w1 hown' hgrow _
          have hbel' := (hbel.alloc hbel.size _).grown hgrow (by have := hbel.size; simp; omega) (fun g hg => (hown.lt g hg).1)
          clear hown hgrow
          go_wp2
          go_roundw
          case rel => exact ⟨k + 1, by omega, by go_num, HS.out _ _ hown', hbel'⟩
          case measure => simp [intOf]; omega
        · have HS := Lib.hid (fun (w1 : World) (v : Value) => @norm_add w1 w.heap.size v s k (bt s k) ⟨c0, c1⟩ (by unfold low; rw [if_neg (by omega)]))
          have e0 : (bt s k == 32) = false := by simp [c0]
          have e1 : (bt s k == 45) = false := by simp [c1]
          clear c0 c1
          go_wp2_with (at_builtin; refine wpList_append_own _ rfl (.tmp 19) (.tmp 21) 27 rfl w.heap.size 5 i0 (.int .u8 0) 1 1 Tryd.underlying27 hi hz0 hz1 hz2 rfl (by decide) _ _ _ rfl (hown.alloc _) ⟨wr.heap.size, 0, none⟩ 1 1 [.int .u8 (bt s k)] rfl rfl ?a1 ?b1 ?c1 ?d1 ?e1 ?_)
          try (case a1 => exact cell_one_new _ _ _)
          case b1 => first | rfl | (intro u hu; simp at hu; subst hu; rfl)
          case c1 => unfold maxLen; omega
          case d1 => omega
          case e1 => have := hbel.size; simp; omega
          intro v' w1 hown' hgrow _
          have hbel' := (hbel.alloc hbel.size _).grown hgrow (by have := hbel.size; simp; omega) (fun g hg => (hown.lt g hg).1)
          clear hown hgrow
          go_wp2
          go_roundw
          case rel => exact ⟨k + 1, by omega, by go_num, HS.out _ _ hown', hbel'⟩
          case measure => simp [intOf]; omega
        · have e0 : (bt s k == 32) = false := by simp; omega
          have e1 : (bt s k == 45) = false := by simp; omega
          have HS := Lib.hid (fun (w1 : World) (v : Value) => @norm_add w1 w.heap.size v s k (bt s k) ⟨by omega, by omega⟩ (by unfold low; rw [if_neg (by omega)]))
          go_wp2_with (at_builtin; refine wpList_append_own _ rfl (.tmp 19) (.tmp 21) 27 rfl w.heap.size 5 i0 (.int .u8 0) 1 1 Tryd.underlying27 hi hz0 hz1 hz2 rfl (by decide) _ _ _ rfl (hown.alloc _) ⟨wr.heap.size, 0, none⟩ 1 1 [.int .u8 (bt s k)] rfl rfl ?a2 ?b2 ?c2 ?d2 ?e2 ?_)
          try (case a2 => exact cell_one_new _ _ _)
          case b2 => first | rfl | (intro u hu; simp at hu; subst hu; rfl)
          case c2 => unfold maxLen; omega
          case d2 => omega
          case e2 => have := hbel.size; simp; omega
          intro v' w1 hown' hgrow _
          have hbel' := (hbel.alloc hbel.size _).grown hgrow (by have := hbel.size; simp; omega) (fun g hg => (hown.lt g hg).1)
          clear hown hgrow
          go_wp2
          go_roundw
          case rel => exact ⟨k + 1, by omega, by go_num, HS.out _ _ hown', hbel'⟩
          case measure => simp [intOf]; omega
      · obtain rfl : k = s.size := by omega
        have hcs := run_own_string wr 27 9 5 Tryd.underlying27 Tryd.underlying5 Tryd.underlying9 hown
        have hz : (strOf (normTo s s.size)).size ≤ maxLen := by rw [strOf_size]; unfold maxLen; omega
        by_cases he : chk (strOf (normTo s s.size)) = 0
        · have e0 : (chk (strOf (normTo s s.size)) != 0) = false := by simp [he]
          have H : Hid (rdE s = 0 ∧ rdS s = strOf (normTo s s.size)) := by
            have : rdE s = 0 := HE.out.trans he
            exact ⟨this, by unfold rdS; rw [if_pos this]⟩
          clear he
          go_wp2_with (go_at_call 34; refine (check_any _ _ hz).mono ?_; rintro e w1 ⟨rfl, hb2⟩; have hcs2 := run_own_string w1 27 9 5 Tryd.underlying27 Tryd.underlying5 Tryd.underlying9 (own_all hown hb2))
          go_ret2
          exact ⟨ret_two (val_str H.out.2.symm) (val_int H.out.1.symm), below_step hbel hb2 hbel.size⟩
        · have e0 : (chk (strOf (normTo s s.size)) != 0) = true := by simp [he]
          have H : Hid (rdE s = chk (strOf (normTo s s.size)) ∧ rdS s = ⟨#[]⟩) := by
            refine ⟨HE.out, by unfold rdS; rw [if_neg (by rw [HE.out]; exact he)]⟩
          clear he
          go_wp2_with (go_at_call 34; refine (check_any _ _ hz).mono ?_; rintro e w1 ⟨rfl, hb2⟩)
          go_ret2
          exact ⟨ret_two (val_str H.out.2.symm) (val_int H.out.1.symm), below_step hbel hb2 hbel.size⟩
set_option maxRecDepth 100000 in
set_option maxHeartbeats 1600000 in
theorem rread_any (s : ByteArray) (w : World) (hs : s.size ≤ maxLen) :
    Calls Tryd.prog 28 #[.string s] w fun e w' => e = .returned (.tuple #[.string (rdS s), .int .i64 (rdE s)]) ∧ Below w.heap.size w w' := by
  unfold maxLen at hs
  have hb := get_bt s
  by_cases hlong : 40 < s.size
  · have H : Hid (rdE s = 3 ∧ rdS s = ⟨#[]⟩) := by
      have : rdE s = 3 := by unfold rdE; rw [if_pos hlong]
      exact ⟨this, by unfold rdS; rw [this]; rfl⟩
    go_enter Tryd.func28, Tryd.ntmps28
    go_wp2
    go_ret2
    exact ⟨ret_two (val_str H.out.2.symm) (val_int H.out.1.symm), Below.refl _ _⟩
  · have HE : Hid (rdE s = chk (strOf (normTo s s.size))) := (by unfold rdE; rw [if_neg hlong] : rdE s = _)
    obtain ⟨i0, hi, hz0, hz1, hz2⟩ := info_parts Tryd.info5
    go_enter Tryd.func28, Tryd.ntmps28
    go_wp2
    go_loopw [4, 5] (fun v i wr => ∃ k : Nat, k ≤ s.size ∧ i = .int .i64 k ∧ wr.ownsRow w.heap.size 5 1 v (normTo s k).length ((normTo s k).map (Value.int .u8)) ∧ Below w.heap.size w wr)
      (fun _ i _ => s.size - (intOf i).toNat)
    case atStart => exact ⟨0, Nat.zero_le _, rfl, World.ownsRow_nil _ _ _ _, Below.refl _ _⟩
    case round =>
      obtain ⟨k, hk, rfl, hown, hbel⟩ := hrel
      have hb0 := bt_nonneg s k
      have hb1 := bt_le s k
      have hnl := normTo_le s k
      by_cases hlt : k < s.size
      · have hc : bt s k = 32 ∨ bt s k = 45 ∨ (97 ≤ bt s k ∧ bt s k ≤ 122) ∨ (bt s k ≠ 32 ∧ bt s k ≠ 45 ∧ bt s k < 97) ∨ 122 < bt s k := by omega
        rcases hc with c0 | c0 | ⟨c0, c1⟩ | ⟨c0, c1, c2⟩ | c0
        · have HS := Lib.hid (norm_skip (.inl c0) hown)
          have e0 : (bt s k == 32) = true := by simp [c0]
          clear hown c0
          go_wp2
          go_roundw
          case rel => exact ⟨k + 1, by omega, by go_num, HS.out, hbel⟩
          case measure => simp [intOf]; omega
        · have HS := Lib.hid (norm_skip (.inr c0) hown)
          have e0 : (bt s k == 32) = false := by simp [c0]
          have e1 : (bt s k == 45) = true := by simp [c0]
          clear hown c0
          go_wp2
          go_roundw
          case rel => exact ⟨k + 1, by omega, by go_num, HS.out, hbel⟩
          case measure => simp [intOf]; omega
        · have e0 : (bt s k == 32) = false := by simp; omega
          have e1 : (bt s k == 45) = false := by simp; omega
          have HS := Lib.hid (fun (w1 : World) (v : Value) => @norm_add w1 w.heap.size v s k (bt s k - 32) ⟨by omega, by omega⟩ (by unfold low; rw [if_pos ⟨c0, c1⟩]; omega))
          go_wp2_with (at_builtin; refine wpList_append_own _ rfl (.tmp 34) (.tmp 36) 27 rfl w.heap.size 5 i0 (.int .u8 0) 1 1 Tryd.underlying27 hi hz0 hz1 hz2 rfl (by decide) _ _ _ rfl (hown.alloc _) ⟨wr.heap.size, 0, none⟩ 1 1 [.int .u8 (bt s k - 32)] rfl rfl ?a0 ?b0 ?c0 ?d0 ?e0 ?_)
          try (case a0 => exact cell_one_new _ _ _)
          case b0 => first | rfl | (intro u hu; simp at hu; subst hu; rfl)
          case c0 => unfold maxLen; omega
          case d0 => omega
          case e0 => have := hbel.size; simp; omega
          intro v' w1 hown' hgrow _
          have hbel' := (hbel.alloc hbel.size _).grown hgrow (by have := hbel.size; simp; omega) (fun g hg => (hown.lt g hg).1)
          clear hown hgrow
          go_wp2
          go_roundw
          case rel => exact ⟨k + 1, by omega, by go_num, HS.out _ _ hown', hbel'⟩
          case measure => simp [intOf]; omega
        · have HS := Lib.hid (fun (w1 : World) (v : Value) => @norm_add w1 w.heap.size v s k (bt s k) ⟨c0, c1⟩ (by unfold low; rw [if_neg (by omega)]))
          have e0 : (bt s k == 32) = false := by simp [c0]
          have e1 : (bt s k == 45) = false := by simp [c1]
          clear c0 c1
          go_wp2_with (at_builtin; refine wpList_append_own _ rfl (.tmp 34) (.tmp 36) 27 rfl w.heap.size 5 i0 (.int .u8 0) 1 1 Tryd.underlying27 hi hz0 hz1 hz2 rfl (by decide) _ _ _ rfl (hown.alloc _) ⟨wr.heap.size, 0, none⟩ 1 1 [.int .u8 (bt s k)] rfl rfl ?a1 ?b1 ?c1 ?d1 ?e1 ?_)
          try (case a1 => exact cell_one_new _ _ _)
          case b1 => first | rfl | (intro u hu; simp at hu; subst hu; rfl)
          case c1 => unfold maxLen; omega
          case d1 => omega
          case e1 => have := hbel.size; simp; omega
          intro v' w1 hown' hgrow _
          have hbel' := (hbel.alloc hbel.size _).grown hgrow (by have := hbel.size; simp; omega) (fun g hg => (hown.lt g hg).1)
          clear hown hgrow
          go_wp2
          go_roundw
          case rel => exact ⟨k + 1, by omega, by go_num, HS.out _ _ hown', hbel'⟩
          case measure => simp [intOf]; omega
        · have e0 : (bt s k == 32) = false := by simp; omega
          have e1 : (bt s k == 45) = false := by simp; omega
          have HS := Lib.hid (fun (w1 : World) (v : Value) => @norm_add w1 w.heap.size v s k (bt s k) ⟨by omega, by omega⟩ (by unfold low; rw [if_neg (by omega)]))
          go_wp2_with (at_builtin; refine wpList_append_own _ rfl (.tmp 34) (.tmp 36) 27 rfl w.heap.size 5 i0 (.int .u8 0) 1 1 Tryd.underlying27 hi hz0 hz1 hz2 rfl (by decide) _ _ _ rfl (hown.alloc _) ⟨wr.heap.size, 0, none⟩ 1 1 [.int .u8 (bt s k)] rfl rfl ?a2 ?b2 ?c2 ?d2 ?e2 ?_)
          try (case a2 => exact cell_one_new _ _ _)
          case b2 => first | rfl | (intro u hu; simp at hu; subst hu; rfl)
          case c2 => unfold maxLen; omega
          case d2 => omega
          case e2 => have := hbel.size; simp; omega
          intro v' w1 hown' hgrow _
          have hbel' := (hbel.alloc hbel.size _).grown hgrow (by have := hbel.size; simp; omega) (fun g hg => (hown.lt g hg).1)
          clear hown hgrow
          go_wp2
          go_roundw
          case rel => exact ⟨k + 1, by omega, by go_num, HS.out _ _ hown', hbel'⟩
          case measure => simp [intOf]; omega
      · obtain rfl : k = s.size := by omega
        have hcs := run_own_string wr 27 9 5 Tryd.underlying27 Tryd.underlying5 Tryd.underlying9 hown
        have hz : (strOf (normTo s s.size)).size ≤ maxLen := by rw [strOf_size]; unfold maxLen; omega
        by_cases he : chk (strOf (normTo s s.size)) = 0
        · have e0 : (chk (strOf (normTo s s.size)) != 0) = false := by simp [he]
          have H : Hid (rdE s = 0 ∧ rdS s = strOf (normTo s s.size)) := by
            have : rdE s = 0 := HE.out.trans he
            exact ⟨this, by unfold rdS; rw [if_pos this]⟩
          clear he
          go_wp2_with (go_at_call 30; refine (of_any _ _ hz).mono ?_; rintro e w1 ⟨rfl, rfl⟩)
          go_ret2
          exact ⟨ret_two (val_str H.out.2.symm) (val_int H.out.1.symm), hbel⟩
        · have e0 : (chk (strOf (normTo s s.size)) != 0) = true := by simp [he]
          have H : Hid (rdE s = chk (strOf (normTo s s.size)) ∧ rdS s = ⟨#[]⟩) := by
            refine ⟨HE.out, by unfold rdS; rw [if_neg (by rw [HE.out]; exact he)]⟩
          clear he
          go_wp2_with (go_at_call 30; refine (of_any _ _ hz).mono ?_; rintro e w1 ⟨rfl, rfl⟩)
          go_ret2
          exact ⟨ret_two (val_str H.out.2.symm) (val_int H.out.1.symm), hbel⟩
end Go.Proofs.YtedpadjlkddgjaaDoor
