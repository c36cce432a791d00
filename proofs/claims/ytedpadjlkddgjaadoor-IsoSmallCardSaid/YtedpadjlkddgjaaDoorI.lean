/-
  The walk of the reference's Misses, of same, and of the statement's misses.
-/
import Derived.Test.YtedpadjlkddgjaaDoorH
namespace Go.Proofs.YtedpadjlkddgjaaDoor
open Go.RowKit Go.PlainAid
theorem Tryd.info66 : (Tryd.prog.info? 66).map (fun i => (i.zero, i.size, i.bytes)) = some (some (.agg #[.int .i64 0, .int .u8 0]), 2, 16) := by kernel_rfl
theorem rrow_skip {w : World} {B : Nat} {v : Value} {s : ByteArray} {k b : Nat} (h : hit s k b = false) (ho : w.ownsRow B 66 2 v (mall s k ++ mrow s k b).length (cells2 (mall s k ++ mrow s k b))) :
    w.ownsRow B 66 2 v (mall s k ++ mrow s k (b + 1)).length (cells2 (mall s k ++ mrow s k (b + 1))) := by
  rw [mrow, if_neg (by rw [h]; simp), List.append_nil]; exact ho
theorem rrow_add {w : World} {B : Nat} {v : Value} {s : ByteArray} {k b : Nat} (h : hit s k b = true) (ho : w.ownsRow B 66 2 v ((mall s k).length + (mrow s k b).length + 1) (cells2 (mall s k ++ mrow s k b) ++ [.int .i64 k, .int .u8 b])) :
    w.ownsRow B 66 2 v (mall s k ++ mrow s k (b + 1)).length (cells2 (mall s k ++ mrow s k (b + 1))) := by
  rw [mrow, if_pos h, ← List.append_assoc, cells2_append, List.length_append, List.length_append]; exact ho
/-- the reference does not ask whether the byte may stand there: what is right may -/
theorem hit_ref {s : ByteArray} {i : Nat} {b : Nat} (h : i < s.size) (hb : b < 256) : hit s i b = (((b : Int) != bt s i) && (chk (setB s i b) == 0)) := by
  unfold hit
  cases hc : chk (setB s i b) == 0
  · simp
  · have := chk_may (b := (b : Int)) h (by omega) (by omega) (by simpa using hc)
    rw [this]
    simp
    by_cases he : (b : Int) = bt s i <;> simp [he]
set_option maxRecDepth 100000 in
set_option maxHeartbeats 3200000 in
theorem rmisses_yes (s : ByteArray) (w : World) (hs : s.size = 11) (he : chk s = 0) :
    Calls Tryd.prog 32 #[.string s] w fun e w' => ∃ v, e = .returned (.tuple #[v, .int .i64 0]) ∧ w'.ownsRow w.heap.size 66 2 v (mall s 11).length (cells2 (mall s 11)) ∧ Below w.heap.size w w' := by
  have hb := get_bt s
  have hm : s.size ≤ maxLen := by unfold maxLen; omega
  have e0 : (chk s != 0) = false := by simp [he]
  have z0 : 11 ≤ s.size := by omega
  have z1 : s.size ≤ 11 := by omega
  clear he hs
  obtain ⟨i0, hi, hz0, hz1, hz2⟩ := info_parts Tryd.info66
  go_enter Tryd.func32, Tryd.ntmps32
  go_wp2_with (go_at_call 30; refine (of_any s _ hm).mono ?_; rintro e w1 ⟨rfl, rfl⟩)
  go_loopw [5, 6] (fun v i wr => ∃ k : Nat, k ≤ 11 ∧ i = .int .i64 k ∧ wr.ownsRow w.heap.size 66 2 v (mall s k).length (cells2 (mall s k)) ∧ Below w.heap.size w wr) (fun _ i _ => 11 - (intOf i).toNat)
  case atStart => exact ⟨0, by omega, rfl, World.ownsRow_nil _ _ _ _, Below.refl _ _⟩
  case round =>
    obtain ⟨k, hk, rfl, hown, hbel⟩ := hrel
    by_cases hlt : k < 11
    · have hdk : decide ((k : Int) < 11) = true := by simp; omega
      go_wp2
      obtain ⟨wo, rfl⟩ : ∃ wo : World, wo = wr := ⟨_, rfl⟩
      go_loopw [5, 7] (fun v c wr => ∃ b : Nat, b ≤ 256 ∧ c = .int .i64 b ∧ wr.ownsRow w.heap.size 66 2 v (mall s k ++ mrow s k b).length (cells2 (mall s k ++ mrow s k b)) ∧ Below w.heap.size w wr) (fun _ c _ => 256 - (intOf c).toNat)
      case atStart => exact ⟨0, by omega, rfl, by rw [mrow, List.append_nil]; exact hown, hbel⟩
      case round =>
        obtain ⟨b, hb91, rfl, hown2, hbel2⟩ := hrel
        clear hown hbel
        by_cases hlb : b < 256
        · have HH := hit_ref (s := s) (i := k) (b := b) (by omega) hlb
          cases hne : ((b : Int) != bt s k)
          · have HS := Lib.hid (rrow_skip (b := b) (s := s) (k := k) (by rw [HH, hne]; rfl) hown2)
            have f9 : IntKind.u8.wrap (b : Int) = (b : Int) := IntWalk.u8_in _ (by omega)
            have f1 : (k : Int) < (s.size : Int) := by omega
            have f0 : (0 : Int) ≤ (k : Int) := by omega
            clear HH
            go_wp2
            go_quiet (fail)
            go_wp2
            go_roundw
            case rel => exact ⟨b + 1, by omega, by go_num, own_drewN HS.out _, below_drewN hbel2 _⟩
            case measure => simp [intOf]; omega
          · have hz : (setB s k b).size ≤ maxLen := by rw [setB_size (by omega)]; exact hm
            have f2 : (k : Int) ≤ (s.size : Int) := by omega
            have f3 : (k : Int) + 1 ≤ (s.size : Int) := by omega
            have f0 : (0 : Int) ≤ (k : Int) := by omega
            have f1 : (k : Int) < (s.size : Int) := by omega
            have f4 : (0 : Int) ≤ (k : Int) + 1 := by omega
            have f5 : ((k : Int) + 1).toNat = k + 1 := by omega
            have f6 : IntKind.i64.wrap ((k : Int) + 1) = (k : Int) + 1 := IntWalk.i64_in _ (by omega)
            have f9 : IntKind.u8.wrap (b : Int) = (b : Int) := IntWalk.u8_in _ (by omega)
            have hcv := run_one_byte b
            have hcv' := run_one_byte' b
            have hadd : ∀ W : World, (Op.stringOp .add (s.extract 0 k) (strOf [(b : Int)])).run Tryd.prog W = .ok (.string (s.extract 0 k ++ strOf [(b : Int)])) W := fun W => run_string_add_sum W _ _ (by simp only [ByteArray.size_extract, strOf_size]; simp; omega)
            have hadd2 : ∀ W : World, (Op.stringOp .add (s.extract 0 k ++ strOf [(b : Int)]) (s.extract (k + 1) s.size)).run Tryd.prog W = .ok (.string (setB s k b)) W := fun W => run_string_add_sum W _ _ (by simp only [ByteArray.size_append, ByteArray.size_extract, strOf_size]; simp; omega)
            cases hch : chk (setB s k b) == 0
            · have HS := Lib.hid (rrow_skip (b := b) (s := s) (k := k) (by rw [HH, hne, hch]; rfl) hown2)
              clear HH
              go_wp2
              go_region_held (fun _ => True) (trivial) (first | (go_at_call 30; refine (of_any (setB s k b) _ hz).mono ?_; rintro e w3 ⟨rfl, hw3⟩; have hb5 : Below wr.heap.size wr w3 := (by rw [← hw3]; go_grown); clear hw3))
              have e9 : (chk (setB s k b) == 0) = false := by simpa using hch
              go_wp2
              go_roundw
              case rel => exact ⟨b + 1, by omega, by go_num, own_all HS.out hb5, below_step hbel2 hb5 hbel2.size⟩
              case measure => simp [intOf]; omega
            · have HH2 := Lib.hid (show hit s k b = true by rw [HH, hne, hch]; rfl)
              have hml := mall_len s k
              have hrl := mrow_len s k b
              have hlen2 : (mall s k ++ mrow s k b).length ≤ 5000 := by rw [List.length_append]; omega
              clear HH hml hrl
              go_wp2
              go_region_held (fun _ => True) (trivial) (first | (go_at_call 30; refine (of_any (setB s k b) _ hz).mono ?_; rintro e w3 ⟨rfl, hw3⟩; have hb5 : Below wr.heap.size wr w3 := (by rw [← hw3]; go_grown); clear hw3))
              have hown3 := own_all hown2 hb5
              have hbel3 := below_step hbel2 hb5 hbel2.size
              clear hown2 hbel2 hb5
              go_wp2_with (at_builtin; refine wpList_append_own _ rfl (.tmp 44) (.tmp 49) 63 rfl w.heap.size 66 i0 (.agg #[.int .i64 0, .int .u8 0]) 2 16 Tryd.underlying63 hi hz0 hz1 hz2 rfl (by decide) _ _ _ rfl (hown3.alloc _) ⟨w3.heap.size, 0, none⟩ 1 1 [.int .i64 k, .int .u8 b] rfl rfl ?aX ?bX ?cX ?dX ?eX ?_)
              try (case aX => exact cell_two_new _ _ _ _)
              case bX => intro u hu; simp at hu; rcases hu with rfl | rfl <;> rfl
              case cX => unfold maxLen; omega
              case dX => omega
              case eX => have := hbel3.size; simp; omega
              intro v' w2 hown' hgrow _
              have hbel4 := (hbel3.alloc hbel3.size _).grown hgrow (by have := hbel3.size; simp; omega) (fun g hg => (hown3.lt g hg).1)
              clear hown3 hgrow hbel3
              go_wp2
              go_roundw
              case rel => exact ⟨b + 1, by omega, by go_num, rrow_add HH2.out hown', hbel4⟩
              case measure => simp [intOf]; omega
        · obtain rfl : b = 256 := by omega
          go_wp2
          go_roundw
          case rel => exact ⟨k + 1, by omega, by go_num, by rw [mall]; exact hown2, hbel2⟩
          case measure => simp [intOf]; omega
    · obtain rfl : k = 11 := by omega
      go_wp2
      go_ret2
      exact ⟨_, rfl, hown, hbel⟩
end Go.Proofs.YtedpadjlkddgjaaDoor
