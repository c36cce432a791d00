/-
  The walk of Misses.
-/
import Derived.Test.YtedpadjlkddgjaaDoorG
import Derived.Test.YtedpadjlkddgjaaDoorMiss
import Derived.Deep.RegionHeld
namespace Go.Proofs.YtedpadjlkddgjaaDoor
open Go.RowKit Go.PlainAid
theorem Tryd.info34 : (Tryd.prog.info? 34).map (fun i => (i.zero, i.size, i.bytes)) = some (some (.agg #[.int .i64 0, .int .u8 0]), 2, 16) := by kernel_rfl
theorem run_one_byte (x : Int) (w : World) : (convert 27 9 (.slice (some ⟨w.heap.size, 0, none⟩) 1 1)).run Tryd.prog (w.alloc (.cells #[.int .u8 x] 5)) = .ok (.string (strOf [x])) (w.alloc (.cells #[.int .u8 x] 5)) :=
  run_own_string _ 27 9 5 Tryd.underlying27 Tryd.underlying5 Tryd.underlying9 (base := 0) (e' := 5) (n := 1) (l := [x]) (World.ownsRow_lit w #[.int .u8 x] 1 (by omega) (by unfold maxLen; omega) rfl)
theorem run_one_byte' (x : Int) (w : World) : (convert 27 9 (.slice (some ⟨w.heap.size, 0, none⟩) 1 1)).run Tryd.prog (w.alloc (.cells #[.int .u8 x] 5)).drew = .ok (.string (strOf [x])) (w.alloc (.cells #[.int .u8 x] 5)).drew :=
  run_own_string _ 27 9 5 Tryd.underlying27 Tryd.underlying5 Tryd.underlying9 (base := 0) (e' := 5) (n := 1) (l := [x]) (World.ownsRow_lit w #[.int .u8 x] 1 (by omega) (by unfold maxLen; omega) rfl).drew
/-- the closure at a place, and what it answers -/
theorem may_at {wr : World} {g : Nat} (hat : AtIn wr g) {k : Nat} (hk : k < 11) :
    ∃ f : Nat, (f = 48 ∨ f = 49 ∨ f = 50) ∧ wr.cell? ⟨g, k, none⟩ = some (Value.func (Fn.func f) #[] #[]) ∧ Hid (∀ (b : Int) (W : World), 0 ≤ b → b ≤ 255 → Calls Tryd.prog f #[.int .u8 b] W fun e w' => e = .returned (.bool (mayI k b)) ∧ W = w') := by
  have hd : k < 3 ∨ k = 3 ∨ 3 < k := by omega
  rcases hd with h | rfl | h
  · exact ⟨48, by omega, hat.c48 h, fun b W h0 h1 => by rw [mayI_let h]; exact let_any b W h0 h1⟩
  · exact ⟨49, by omega, hat.c49, fun b W h0 h1 => by rw [mayI_grp]; exact grp_any b W h0 h1⟩
  · exact ⟨50, by omega, hat.c50 h hk, fun b W h0 h1 => by rw [mayI_dig h hk]; exact dig_any b W h0 h1⟩
theorem row_skip {w : World} {B : Nat} {v : Value} {s : ByteArray} {k b : Nat} (h : hit s k b = false) (ho : w.ownsRow B 34 2 v (mall s k ++ mrow s k b).length (cells2 (mall s k ++ mrow s k b))) :
    w.ownsRow B 34 2 v (mall s k ++ mrow s k (b + 1)).length (cells2 (mall s k ++ mrow s k (b + 1))) := by
  rw [mrow, if_neg (by rw [h]; simp), List.append_nil]; exact ho
theorem row_add {w : World} {B : Nat} {v : Value} {s : ByteArray} {k b : Nat} (h : hit s k b = true) (ho : w.ownsRow B 34 2 v ((mall s k).length + (mrow s k b).length + 1) (cells2 (mall s k ++ mrow s k b) ++ [.int .i64 k, .int .u8 b])) :
    w.ownsRow B 34 2 v (mall s k ++ mrow s k (b + 1)).length (cells2 (mall s k ++ mrow s k (b + 1))) := by
  rw [mrow, if_pos h, ← List.append_assoc, cells2_append, List.length_append, List.length_append]; exact ho
theorem row_done {w : World} {B : Nat} {v : Value} {s : ByteArray} {k : Nat} (ho : w.ownsRow B 34 2 v (mall s k ++ mrow s k 91).length (cells2 (mall s k ++ mrow s k 91))) :
    w.ownsRow B 34 2 v (mall s (k + 1)).length (cells2 (mall s (k + 1))) := by
  rw [mall, ← mrow_high s k 165] at *; exact ho
theorem row_start {w : World} {B : Nat} {v : Value} {s : ByteArray} {k : Nat} (ho : w.ownsRow B 34 2 v (mall s k).length (cells2 (mall s k))) :
    w.ownsRow B 34 2 v (mall s k ++ mrow s k 48).length (cells2 (mall s k ++ mrow s k 48)) := by
  rw [mrow_low s k 48 (Nat.le_refl _), List.append_nil]; exact ho
theorem AtIn.below {w w' : World} {g : Nat} (h : AtIn w g) (hb : Below w.heap.size w w') : AtIn w' g := by
  have hl := lt_of_block h
  exact (hb.block g hl).trans h
theorem AtIn.alloc_ {w : World} {g : Nat} (h : AtIn w g) (o : Obj) : AtIn (w.alloc o) g := (Below.heap_alloc w o g (lt_of_block h)).trans h
theorem atIn_grown {w w' : World} {g : Nat} {row : Option Nat} (h : AtIn w g) (hg : w.grownBy w' row) (hne : some g ≠ row) : AtIn w' g := (hg.block g (lt_of_block h) hne).trans h
theorem own_at_ne {w : World} {B n : Nat} {v : Value} {xs : List Value} {g : Nat} (h : w.ownsRow B 34 2 v n xs) (ha : AtIn w g) : some g ≠ v.ownBlock := by
  rcases h.2 with ⟨rfl, _⟩ | ⟨g', cap, cur, rfl, _, hh, _⟩
  · simp [Value.ownBlock]
  · intro he
    have he' : g = g' := by simpa [Value.ownBlock] using he
    subst he'
    unfold AtIn at ha
    rw [hh] at ha
    simp at ha
set_option maxRecDepth 100000 in
set_option maxHeartbeats 8000000 in
theorem misses_yes (s : ByteArray) (w : World) (hs : s.size = 11) (he : chk s = 0) :
    Calls Tryd.prog 16 #[.string s] w fun e w' => ∃ v, e = .returned (.tuple #[v, .int .i64 0]) ∧ w'.ownsRow w.heap.size 34 2 v (mall s 11).length (cells2 (mall s 11)) ∧ Below w.heap.size w w' := by
  have hb := get_bt s
  have hm : s.size ≤ maxLen := by unfold maxLen; omega
  have e0 : (chk s != 0) = false := by simp [he]
  have z0 : 11 ≤ s.size := by omega
  have z1 : s.size ≤ 11 := by omega
  clear he hs
  obtain ⟨i0, hi, hz0, hz1, hz2⟩ := info_parts Tryd.info34
  go_enter Tryd.func16, Tryd.ntmps16
  go_wp2_with (first | (go_at_call 34; refine (check_any s _ hm).mono ?_; rintro e w1 ⟨rfl, hb1⟩) | (go_at_call 35; refine (may_any _).mono ?_; rintro e w' ⟨rfl, rfl⟩))
  have hb1 : Below w.heap.size w w1 := by assumption
  go_loopw [5, 17] (fun v i wr => ∃ k : Nat, k ≤ 11 ∧ i = .int .i64 k ∧ wr.ownsRow w.heap.size 34 2 v (mall s k).length (cells2 (mall s k)) ∧ AtIn wr (w1.heap.size + 1) ∧ Below w.heap.size w wr) (fun _ i _ => 11 - (intOf i).toNat)
  case atStart => exact ⟨0, by omega, rfl, World.ownsRow_nil _ _ _ _, AtIn.new _ _, ((hb1.alloc hb1.size _).alloc (by have := hb1.size; simp; omega) _)⟩
  case round =>
    obtain ⟨k, hk, rfl, hown, hat, hbel⟩ := hrel
    by_cases hlt : k < 11
    · have hdk : decide (k < s.size) = true := by simp; omega
      go_wp2
      obtain ⟨wo, rfl⟩ : ∃ wo : World, wo = wr := ⟨_, rfl⟩
      go_loopw [5, 8] (fun v c wr => ∃ b : Nat, 48 ≤ b ∧ b ≤ 91 ∧ c = .int .u8 b ∧ wr.ownsRow w.heap.size 34 2 v (mall s k ++ mrow s k b).length (cells2 (mall s k ++ mrow s k b)) ∧ AtIn wr (w1.heap.size + 1) ∧ Below w.heap.size w wr) (fun _ c _ => 91 - (intOf c).toNat)
      case atStart => exact ⟨48, by omega, by omega, rfl, row_start hown, hat, hbel⟩
      case round =>
        obtain ⟨b, hb48, hb91, rfl, hown2, hat2, hbel2⟩ := hrel
        clear hown hat hbel
        by_cases hlb : b < 91
        · obtain ⟨f, hf, hc, hF⟩ := may_at hat2 hlt
          cases hne : ((b : Int) != bt s k)
          · have HS := Lib.hid (row_skip (b := b) (s := s) (k := k) (by unfold hit; simp at hne; simp [hne]) hown2)
            go_wp2
            go_quiet (fail)
            go_wp2
            go_roundw
            case rel => exact ⟨b + 1, by omega, by omega, by go_num, own_drewN HS.out _, hat2.drewN _, below_drewN hbel2 _⟩
            case measure => simp [intOf]; omega
          · have f0 : (0 : Int) ≤ (k : Int) := by omega
            have f1 : (k : Int) < 11 := by omega
            cases hmay : mayI k (b : Int)
            · have HS := Lib.hid (row_skip (b := b) (s := s) (k := k) (by unfold hit; simp [hmay]) hown2)
              have hG : Hid (∀ W : World, Calls Tryd.prog f #[.int .u8 (b : Int)] W fun e w' => e = .returned (.bool false) ∧ W = w') := fun W => by rw [← hmay]; exact hF.out b W (by omega) (by omega)
              clear hF hmay
              rcases hf with rfl | rfl | rfl
              all_goals
                go_wp2
                go_quiet (exact quiet_left (hG.out _))
                go_wp2
                go_roundw
                case rel => exact ⟨b + 1, by omega, by omega, by go_num, own_drewN HS.out _, hat2.drewN _, below_drewN hbel2 _⟩
                case measure => simp [intOf]; omega
            · have hz : (setB s k b).size ≤ maxLen := by rw [setB_size (by omega)]; exact hm
              have hG : Hid (∀ W : World, Calls Tryd.prog f #[.int .u8 (b : Int)] W fun e w' => e = .returned (.bool true) ∧ W = w') := fun W => by rw [← hmay]; exact hF.out b W (by omega) (by omega)
              have f2 : (k : Int) ≤ (s.size : Int) := by omega
              have f3 : (k : Int) + 1 ≤ (s.size : Int) := by omega
              have f4 : (0 : Int) ≤ (k : Int) + 1 := by omega
              have f5 : ((k : Int) + 1).toNat = k + 1 := by omega
              have f6 : IntKind.i64.wrap ((k : Int) + 1) = (k : Int) + 1 := IntWalk.i64_in _ (by omega)
              have hcv := run_one_byte b
              have hcv' := run_one_byte' b
              have hadd : ∀ W : World, (Op.stringOp .add (s.extract 0 k) (strOf [(b : Int)])).run Tryd.prog W = .ok (.string (s.extract 0 k ++ strOf [(b : Int)])) W := fun W => run_string_add_sum W _ _ (by simp only [ByteArray.size_extract, strOf_size]; simp; omega)
              have hadd2 : ∀ W : World, (Op.stringOp .add (s.extract 0 k ++ strOf [(b : Int)]) (s.extract (k + 1) s.size)).run Tryd.prog W = .ok (.string (setB s k b)) W := fun W => run_string_add_sum W _ _ (by simp only [ByteArray.size_append, ByteArray.size_extract, strOf_size]; simp; omega)
              have hl1 := lt_of_block hat2
              cases hch : chk (setB s k b) == 0
              · have HS := Lib.hid (row_skip (b := b) (s := s) (k := k) (by unfold hit; simp [hch]) hown2)
                have hR : Hid (∀ W : World, Calls Tryd.prog 14 #[.string (setB s k b)] W fun e w' => e = .returned (.bool false) ∧ Below W.heap.size W w') := fun W => by rw [← hch]; exact right_any _ W hz
                clear hF hch hmay
                rcases hf with rfl | rfl | rfl
                · go_wp2
                  go_region_held (fun w' => w'.cell? ⟨w1.heap.size + 1, k, none⟩ = some (Value.func (Fn.func 48) #[] #[])) (go_keep) (first | (go_at_call 48; refine (hG.out _).mono ?_; rintro e w' ⟨rfl, rfl⟩) | (go_at_call 14; refine (hR.out _).mono ?_; rintro e w' ⟨rfl, hb4⟩; have hcc : w'.cell? ⟨w1.heap.size + 1, k, none⟩ = some (Value.func (Fn.func 48) #[] #[]) := cell_later hb4 (by go_simp)))
                  have hb5 : Below wr.heap.size wr w' := Below.trans (by go_grown) (hb4.mono (by simp))
                  clear hb4 hcc
                  go_wp2
                  go_roundw
                  case rel => exact ⟨b + 1, by omega, by omega, by go_num, own_all HS.out hb5, hat2.below hb5, below_step hbel2 hb5 hbel2.size⟩
                  case measure => simp [intOf]; omega
                · go_wp2
                  go_region_held (fun w' => w'.cell? ⟨w1.heap.size + 1, k, none⟩ = some (Value.func (Fn.func 49) #[] #[])) (go_keep) (first | (go_at_call 49; refine (hG.out _).mono ?_; rintro e w' ⟨rfl, rfl⟩) | (go_at_call 14; refine (hR.out _).mono ?_; rintro e w' ⟨rfl, hb4⟩; have hcc : w'.cell? ⟨w1.heap.size + 1, k, none⟩ = some (Value.func (Fn.func 49) #[] #[]) := cell_later hb4 (by go_simp)))
                  have hb5 : Below wr.heap.size wr w' := Below.trans (by go_grown) (hb4.mono (by simp))
                  clear hb4 hcc
                  go_wp2
                  go_roundw
                  case rel => exact ⟨b + 1, by omega, by omega, by go_num, own_all HS.out hb5, hat2.below hb5, below_step hbel2 hb5 hbel2.size⟩
                  case measure => simp [intOf]; omega
                · go_wp2
                  go_region_held (fun w' => w'.cell? ⟨w1.heap.size + 1, k, none⟩ = some (Value.func (Fn.func 50) #[] #[])) (go_keep) (first | (go_at_call 50; refine (hG.out _).mono ?_; rintro e w' ⟨rfl, rfl⟩) | (go_at_call 14; refine (hR.out _).mono ?_; rintro e w' ⟨rfl, hb4⟩; have hcc : w'.cell? ⟨w1.heap.size + 1, k, none⟩ = some (Value.func (Fn.func 50) #[] #[]) := cell_later hb4 (by go_simp)))
                  have hb5 : Below wr.heap.size wr w' := Below.trans (by go_grown) (hb4.mono (by simp))
                  clear hb4 hcc
                  go_wp2
                  go_roundw
                  case rel => exact ⟨b + 1, by omega, by omega, by go_num, own_all HS.out hb5, hat2.below hb5, below_step hbel2 hb5 hbel2.size⟩
                  case measure => simp [intOf]; omega
              · have HH : Hid (hit s k b = true) := (by unfold hit; simp at hne hch; simp [hne, hmay, hch] : hit s k b = true)
                have hR : Hid (∀ W : World, Calls Tryd.prog 14 #[.string (setB s k b)] W fun e w' => e = .returned (.bool true) ∧ Below W.heap.size W w') := fun W => by rw [← hch]; exact right_any _ W hz
                have hml := mall_len s k
                have hrl := mrow_len s k b
                have hlen : (mall s k ++ mrow s k b).length = (mall s k).length + (mrow s k b).length := List.length_append
                have hlen2 : (mall s k ++ mrow s k b).length ≤ 5000 := by omega
                clear hF hch hmay hlen hml hrl
                rcases hf with rfl | rfl | rfl
                · go_wp2
                  go_region_held (fun w' => w'.cell? ⟨w1.heap.size + 1, k, none⟩ = some (Value.func (Fn.func 48) #[] #[])) (go_keep) (first | (go_at_call 48; refine (hG.out _).mono ?_; rintro e w' ⟨rfl, rfl⟩) | (go_at_call 14; refine (hR.out _).mono ?_; rintro e w' ⟨rfl, hb4⟩; have hcc : w'.cell? ⟨w1.heap.size + 1, k, none⟩ = some (Value.func (Fn.func 48) #[] #[]) := cell_later hb4 (by go_simp)))
                  have hb5 : Below wr.heap.size wr w' := Below.trans (by go_grown) (hb4.mono (by simp))
                  clear hb4 hcc
                  have hown3 := own_all hown2 hb5
                  have hat3 := hat2.below hb5
                  have hbel3 := below_step hbel2 hb5 hbel2.size
                  clear hown2 hat2 hbel2 hb5
                  go_wp2_with (at_builtin; refine wpList_append_own _ rfl (.tmp 51) (.tmp 55) 29 rfl w.heap.size 34 i0 (.agg #[.int .i64 0, .int .u8 0]) 2 16 Tryd.underlying29 hi hz0 hz1 hz2 rfl (by decide) _ _ _ rfl (hown3.alloc _) ⟨w'.heap.size, 0, none⟩ 1 1 [.int .i64 k, .int .u8 b] rfl rfl ?a48 ?b48 ?c48 ?d48 ?e48 ?_)
                  try (case a48 => exact cell_two_new _ _ _ _)
                  case b48 => intro u hu; simp at hu; rcases hu with rfl | rfl <;> rfl
                  case c48 => unfold maxLen; omega
                  case d48 => omega
                  case e48 => have := hbel3.size; simp; omega
                  intro v' w2 hown' hgrow _
                  have hbel4 := (hbel3.alloc hbel3.size _).grown hgrow (by have := hbel3.size; simp; omega) (fun g hg => (hown3.lt g hg).1)
                  have hat4 := atIn_grown (hat3.alloc_ _) hgrow (own_at_ne hown3 hat3)
                  clear hown3 hgrow hat3 hbel3
                  go_wp2
                  go_roundw
                  case rel => exact ⟨b + 1, by omega, by omega, by go_num, row_add HH.out hown', hat4, hbel4⟩
                  case measure => simp [intOf]; omega
                · go_wp2
                  go_region_held (fun w' => w'.cell? ⟨w1.heap.size + 1, k, none⟩ = some (Value.func (Fn.func 49) #[] #[])) (go_keep) (first | (go_at_call 49; refine (hG.out _).mono ?_; rintro e w' ⟨rfl, rfl⟩) | (go_at_call 14; refine (hR.out _).mono ?_; rintro e w' ⟨rfl, hb4⟩; have hcc : w'.cell? ⟨w1.heap.size + 1, k, none⟩ = some (Value.func (Fn.func 49) #[] #[]) := cell_later hb4 (by go_simp)))
                  have hb5 : Below wr.heap.size wr w' := Below.trans (by go_grown) (hb4.mono (by simp))
                  clear hb4 hcc
                  have hown3 := own_all hown2 hb5
                  have hat3 := hat2.below hb5
                  have hbel3 := below_step hbel2 hb5 hbel2.size
                  clear hown2 hat2 hbel2 hb5
                  go_wp2_with (at_builtin; refine wpList_append_own _ rfl (.tmp 51) (.tmp 55) 29 rfl w.heap.size 34 i0 (.agg #[.int .i64 0, .int .u8 0]) 2 16 Tryd.underlying29 hi hz0 hz1 hz2 rfl (by decide) _ _ _ rfl (hown3.alloc _) ⟨w'.heap.size, 0, none⟩ 1 1 [.int .i64 k, .int .u8 b] rfl rfl ?a49 ?b49 ?c49 ?d49 ?e49 ?_)
                  try (case a49 => exact cell_two_new _ _ _ _)
                  case b49 => intro u hu; simp at hu; rcases hu with rfl | rfl <;> rfl
                  case c49 => unfold maxLen; omega
                  case d49 => omega
                  case e49 => have := hbel3.size; simp; omega
                  intro v' w2 hown' hgrow _
                  have hbel4 := (hbel3.alloc hbel3.size _).grown hgrow (by have := hbel3.size; simp; omega) (fun g hg => (hown3.lt g hg).1)
                  have hat4 := atIn_grown (hat3.alloc_ _) hgrow (own_at_ne hown3 hat3)
                  clear hown3 hgrow hat3 hbel3
                  go_wp2
                  go_roundw
                  case rel => exact ⟨b + 1, by omega, by omega, by go_num, row_add HH.out hown', hat4, hbel4⟩
                  case measure => simp [intOf]; omega
                · go_wp2
                  go_region_held (fun w' => w'.cell? ⟨w1.heap.size + 1, k, none⟩ = some (Value.func (Fn.func 50) #[] #[])) (go_keep) (first | (go_at_call 50; refine (hG.out _).mono ?_; rintro e w' ⟨rfl, rfl⟩) | (go_at_call 14; refine (hR.out _).mono ?_; rintro e w' ⟨rfl, hb4⟩; have hcc : w'.cell? ⟨w1.heap.size + 1, k, none⟩ = some (Value.func (Fn.func 50) #[] #[]) := cell_later hb4 (by go_simp)))
                  have hb5 : Below wr.heap.size wr w' := Below.trans (by go_grown) (hb4.mono (by simp))
                  clear hb4 hcc
                  have hown3 := own_all hown2 hb5
                  have hat3 := hat2.below hb5
                  have hbel3 := below_step hbel2 hb5 hbel2.size
                  clear hown2 hat2 hbel2 hb5
                  go_wp2_with (at_builtin; refine wpList_append_own _ rfl (.tmp 51) (.tmp 55) 29 rfl w.heap.size 34 i0 (.agg #[.int .i64 0, .int .u8 0]) 2 16 Tryd.underlying29 hi hz0 hz1 hz2 rfl (by decide) _ _ _ rfl (hown3.alloc _) ⟨w'.heap.size, 0, none⟩ 1 1 [.int .i64 k, .int .u8 b] rfl rfl ?a50 ?b50 ?c50 ?d50 ?e50 ?_)
                  try (case a50 => exact cell_two_new _ _ _ _)
                  case b50 => intro u hu; simp at hu; rcases hu with rfl | rfl <;> rfl
                  case c50 => unfold maxLen; omega
                  case d50 => omega
                  case e50 => have := hbel3.size; simp; omega
                  intro v' w2 hown' hgrow _
                  have hbel4 := (hbel3.alloc hbel3.size _).grown hgrow (by have := hbel3.size; simp; omega) (fun g hg => (hown3.lt g hg).1)
                  have hat4 := atIn_grown (hat3.alloc_ _) hgrow (own_at_ne hown3 hat3)
                  clear hown3 hgrow hat3 hbel3
                  go_wp2
                  go_roundw
                  case rel => exact ⟨b + 1, by omega, by omega, by go_num, row_add HH.out hown', hat4, hbel4⟩
                  case measure => simp [intOf]; omega
        · obtain rfl : b = 91 := by omega
          go_wp2
          go_roundw
          case rel => exact ⟨k + 1, by omega, by go_num, row_done hown2, hat2, hbel2⟩
          case measure => simp [intOf]; omega
    · obtain rfl : k = 11 := by omega
      go_wp2
      go_ret2
      exact ⟨_, rfl, hown, hbel⟩
end Go.Proofs.YtedpadjlkddgjaaDoor
