/-
  The walk of same at two rows with the same elements; Misses of what is not right; the statement's misses.
-/
import Derived.Test.YtedpadjlkddgjaaDoorI
namespace Go.Proofs.YtedpadjlkddgjaaDoor
open Go.RowKit Go.PlainAid
theorem own_slice' {w : World} {base size n : Nat} {e : TypeId} {v : Value} {xs : List Value} (h : w.ownsRow base e size v n xs) : ∃ A c, v = .slice A n c ∧ (0 < n → ∃ g, A = some ⟨g, 0, none⟩ ∧ base ≤ g ∧ g < w.heap.size) := by
  rcases own_form h with ⟨rfl, rfl, _⟩ | ⟨g, cap, rfl, hg, hl, _⟩
  · exact ⟨none, 0, rfl, fun h => absurd h (by omega)⟩
  · exact ⟨_, cap, rfl, fun _ => ⟨g, rfl, hg, hl⟩⟩
theorem cells2_get {l : List (Nat × Int)} {k : Nat} (h : k < l.length) : (cells2 l)[k * 2]? = some (.int .i64 ((l[k]'h).1 : Int)) ∧ (cells2 l)[k * 2 + 1]? = some (.int .u8 (l[k]'h).2) := by
  induction l generalizing k with
  | nil => simp at h
  | cons p l ih =>
    cases k with
    | zero => simp [cells2]
    | succ k =>
      have := ih (k := k) (by simpa using h)
      unfold cells2 at *
      rw [List.flatMap_cons]
      rw [show (k + 1) * 2 = k * 2 + 2 from by omega, show k * 2 + 2 + 1 = (k * 2 + 1) + 2 from by omega]
      simpa using this
set_option maxHeartbeats 800000 in
theorem same_eq (l : List (Nat × Int)) (va vb : Value) (w : World) (A B : Nat) (h1 : w.ownsRow A 34 2 va l.length (cells2 l)) (h2 : w.ownsRow B 34 2 vb l.length (cells2 l)) (hl : l.length ≤ 5000) :
    Calls Tryd.prog 33 #[va, vb] w fun e w' => e = .returned (.bool true) ∧ ∃ n, w' = w.drewN n := by
  rcases own_form h1 with ⟨rfl, hz, _⟩ | ⟨g1, c1, rfl, hg1, hgl1, hn1⟩
  · rcases own_form h2 with ⟨rfl, _, _⟩ | ⟨g2, c2, rfl, hg2, hgl2, hn2⟩
    · go_enter Tryd.func33, Tryd.ntmps33
      go_wp2
      go_rounds 1
      go_ret
      exact ⟨rfl, 0, rfl⟩
    · rw [hz]
      go_enter Tryd.func33, Tryd.ntmps33
      go_wp2
      go_rounds 1
      go_ret
      exact ⟨rfl, 0, rfl⟩
  · rcases own_form h2 with ⟨rfl, hz, _⟩ | ⟨g2, c2, rfl, hg2, hgl2, hn2⟩
    · rw [hz]
      go_enter Tryd.func33, Tryd.ntmps33
      go_wp2
      go_rounds 1
      go_ret
      exact ⟨rfl, 0, rfl⟩
    · have hx1 := Lib.hid (fun j hj => h1.cellAt j hj)
      have hx2 := Lib.hid (fun j hj => h2.cellAt j hj)
      generalize hL : l.length = L at *
      have HL := Lib.hid hL
      clear hL h1 h2
      go_enter Tryd.func33, Tryd.ntmps33
      go_wp2
      go_loopw [5] (fun i wr => ∃ k : Nat, k ≤ L ∧ i = .int .i64 k ∧ ∃ n, wr = w.drewN n) (fun i _ => L - (intOf i).toNat)
      case atStart => exact ⟨0, Nat.zero_le _, rfl, 0, rfl⟩
      case round =>
        obtain ⟨k, hk, rfl, nd, rfl⟩ := hrel
        by_cases hlt : k < L
        · have hkl : k < l.length := by rw [HL.out]; exact hlt
          obtain ⟨p0, p1⟩ := cells2_get hkl
          have a0 := (hx1.out (k * 2) (by omega)).trans p0
          have a1 := (hx1.out (k * 2 + 1) (by omega)).trans p1
          have b0 := (hx2.out (k * 2) (by omega)).trans p0
          have b1 := (hx2.out (k * 2 + 1) (by omega)).trans p1
          generalize ((l[k]'hkl).1 : Int) = x at *
          generalize (l[k]'hkl).2 = y at *
          clear p0 p1
          have f0 : (0 : Int) ≤ (k : Int) := by omega
          have f1 : (k : Int) < (L : Int) := by omega
          go_wp2
          go_quiet (fail)
          go_wp2
          go_roundw
          case rel => exact ⟨k + 1, by omega, by go_num, _, rfl⟩
          case measure => simp [intOf]; omega
        · obtain rfl : k = L := by omega
          go_wp2
          go_ret
          exact ⟨rfl, _, rfl⟩
def ml (s : ByteArray) : List (Nat × Int) := if chk s = 0 then mall s 11 else []
theorem ml_len (s : ByteArray) : (ml s).length ≤ 5000 := by
  unfold ml
  split
  · have := mall_len s 11; omega
  · simp
set_option maxHeartbeats 800000 in
theorem misses_any (s : ByteArray) (w : World) (hs : s.size ≤ maxLen) :
    Calls Tryd.prog 16 #[.string s] w fun e w' => ∃ v, e = .returned (.tuple #[v, .int .i64 (chk s)]) ∧ w'.ownsRow w.heap.size 34 2 v (ml s).length (cells2 (ml s)) ∧ Below w.heap.size w w' := by
  by_cases he : chk s = 0
  · have h := misses_yes s w (chk_size he) he
    unfold ml
    rw [if_pos he, he]
    exact h
  · have H := Lib.hid (show ml s = [] by unfold ml; rw [if_neg he])
    have e0 : (chk s != 0) = true := by simp [he]
    clear he
    go_enter Tryd.func16, Tryd.ntmps16
    go_wp2_with (go_at_call 34; refine (check_any s _ hs).mono ?_; rintro e w1 ⟨rfl, hb1⟩)
    go_ret2
    exact ⟨_, rfl, by rw [H.out]; exact World.ownsRow_nil _ _ _ _, hb1⟩
set_option maxHeartbeats 800000 in
theorem rmisses_any (s : ByteArray) (w : World) (hs : s.size ≤ maxLen) :
    Calls Tryd.prog 32 #[.string s] w fun e w' => ∃ v, e = .returned (.tuple #[v, .int .i64 (chk s)]) ∧ w'.ownsRow w.heap.size 66 2 v (ml s).length (cells2 (ml s)) ∧ Below w.heap.size w w' := by
  by_cases he : chk s = 0
  · have h := rmisses_yes s w (chk_size he) he
    unfold ml
    rw [if_pos he, he]
    exact h
  · have H := Lib.hid (show ml s = [] by unfold ml; rw [if_neg he])
    have e0 : (chk s != 0) = true := by simp [he]
    clear he
    go_enter Tryd.func32, Tryd.ntmps32
    go_wp2_with (go_at_call 30; refine (of_any s _ hs).mono ?_; rintro e w1 ⟨rfl, rfl⟩)
    go_ret2
    exact ⟨_, rfl, by rw [H.out]; exact World.ownsRow_nil _ _ _ _, Below.refl _ _⟩
theorem cells2_take {l : List (Nat × Int)} {k : Nat} (h : k < l.length) : cells2 (l.take k) ++ [.int .i64 ((l[k]'h).1 : Int), .int .u8 (l[k]'h).2] = cells2 (l.take (k + 1)) := by
  rw [List.take_succ_eq_append_getElem h, cells2_append]
  rfl
set_option maxRecDepth 100000 in
set_option maxHeartbeats 1600000 in
theorem lawmisses_any (s : ByteArray) (w : World) (hs : s.size ≤ maxLen) :
    Calls Tryd.prog 11 #[.string s] w fun e w' => e = .returned (.bool true) ∧ Below w.heap.size w w' := by
  have hl := ml_len s
  generalize hm : ml s = l at *
  have HM := Lib.hid hm
  clear hm
  have hne : (chk s != chk s) = false := by simp
  obtain ⟨i0, hi, hz0, hz1, hz2⟩ := info_parts Tryd.info34
  go_enter Tryd.func11, Tryd.ntmps11
  go_wp2_with fail
  refine (misses_any s _ hs).mono ?_
  rintro e w1 ⟨va, rfl, ha, hb1⟩
  rw [HM.out] at ha
  go_wp2_with fail
  refine (rmisses_any s _ hs).mono ?_
  rintro e w2 ⟨vb, rfl, hb, hb2⟩
  rw [HM.out] at hb
  have ha2 := own_all ha hb2
  have hb02 := below_step hb1 hb2 hb1.size
  obtain ⟨A, c, rfl, hA⟩ := own_slice' hb
  have HA := Lib.hid hA
  clear hA ha
  generalize hL : l.length = L at *
  have HL := Lib.hid hL
  clear hL
  go_wp2
  go_loopw [7, 8] (fun v i wr => ∃ k : Nat, k ≤ L ∧ i = .int .i64 k ∧ wr.ownsRow w2.heap.size 34 2 v k (cells2 (l.take k)) ∧ Below w2.heap.size w2 wr) (fun _ i _ => L - (intOf i).toNat)
  case atStart => exact ⟨0, Nat.zero_le _, rfl, World.ownsRow_nil _ _ _ _, Below.refl _ _⟩
  case round =>
    obtain ⟨k, hk, rfl, hown, hbel⟩ := hrel
    by_cases hlt : k < L
    · obtain ⟨g, rfl, hg1, hg2⟩ := HA.out (by omega)
      have hkl : k < l.length := by rw [HL.out]; exact hlt
      obtain ⟨p0, p1⟩ := cells2_get hkl
      have hbr := own_below hb hbel (fun q hq => (hb.lt q hq).2)
      have a0 := (hbr.cellAt (k * 2) (by omega)).trans p0
      have a1 := (hbr.cellAt (k * 2 + 1) (by omega)).trans p1
      have HT := Lib.hid (cells2_take hkl)
      generalize ((l[k]'hkl).1 : Int) = x at *
      generalize (l[k]'hkl).2 = y at *
      clear p0 p1 hbr
      have f0 : (0 : Int) ≤ (k : Int) := by omega
      have f1 : (k : Int) < (L : Int) := by omega
      go_wp2_with (at_builtin; refine wpList_append_own _ rfl (.tmp 28) (.tmp 33) 29 rfl w2.heap.size 34 i0 (.agg #[.int .i64 0, .int .u8 0]) 2 16 Tryd.underlying29 hi hz0 hz1 hz2 rfl (by decide) _ _ _ rfl (hown.alloc _) ⟨wr.heap.size, 0, none⟩ 1 1 [.int .i64 x, .int .u8 y] rfl rfl ?aX ?bX ?cX ?dX ?eX ?_)
      try (case aX => exact cell_two_new _ _ _ _)
      case bX => intro u hu; simp at hu; rcases hu with rfl | rfl <;> rfl
      case cX => unfold maxLen; omega
      case dX => omega
      case eX => have := hbel.size; simp; omega
      intro v' w4 hown' hgrow _
      have hbel4 := (hbel.alloc hbel.size _).grown hgrow (by have := hbel.size; simp; omega) (fun g hg => (hown.lt g hg).1)
      rw [HT.out] at hown'
      clear hown hgrow hbel a0 a1
      go_wp2
      go_roundw
      case rel => exact ⟨k + 1, by omega, by go_num, hown', hbel4⟩
      case measure => simp [intOf]; omega
    · obtain rfl : L = k := by omega
      have ha3 := own_below ha2 hbel (fun q hq => (ha2.lt q hq).2)
      have hw3 : wr.ownsRow w2.heap.size 34 2 u7 L (cells2 l) := by rw [List.take_of_length_le (by rw [HL.out]; exact Nat.le_refl _)] at hown; exact hown
      have hbr := below_step hb02 (hbel.mono (Nat.le_refl _)) hb02.size
      have ha3' : wr.ownsRow w.heap.size 34 2 va l.length (cells2 l) := by rw [HL.out]; exact ha3
      have hw3' : wr.ownsRow w2.heap.size 34 2 u7 l.length (cells2 l) := by rw [HL.out]; exact hw3
      have HS := Lib.hid (fun n => same_eq l va u7 (wr.drewN n) w.heap.size w2.heap.size ha3' hw3' (by rw [HL.out]; exact hl))
      clear ha2 hown hbel hb ha3' hw3' hb02
      go_wp2_with fail
      refine (HS.out 0).mono ?_
      rintro e w3 ⟨rfl, n, rfl⟩
      go_wp2_with fail
      refine (misses_any s _ hs).mono ?_
      rintro e w4 ⟨vc, rfl, hc, hb4⟩
      rw [HM.out, HL.out] at hc
      have hbr4 : Below wr.heap.size wr w4 := (below_drewN (Below.refl _ _) _).trans hb4
      have ha4 := own_all ha3 hbr4
      have hw4 := own_all hw3 hbr4
      have hb04 := below_step hbr hbr4 hbr.size
      obtain ⟨C, cc, rfl, hC⟩ := own_slice' hc
      have HV : Hid ((∀ q, va.ownBlock = some q → q < wr.heap.size) ∧ (∀ q, u7.ownBlock = some q → q < wr.heap.size)) := ⟨fun q hq => (ha3.lt q hq).2, fun q hq => (hw3.lt q hq).2⟩
      clear ha3 hw3 hb4 hbr4 HS
      have HC := Lib.hid hC
      clear hC
      go_wp2_with fail
      obtain ⟨wo, rfl⟩ : ∃ wo : World, wo = wr := ⟨_, rfl⟩
      go_loopw [11] (fun i w5 => ∃ j : Nat, j ≤ L ∧ i = .int .i64 j ∧ (∃ cs, w5.ownsRow wo.heap.size 34 2 (.slice C L cc) L cs) ∧ Below wo.heap.size w4 w5) (fun i _ => L - (intOf i).toNat)
      case atStart => exact ⟨0, Nat.zero_le _, rfl, ⟨_, hc⟩, Below.refl _ _⟩
      case round =>
        obtain ⟨j, hj, rfl, ⟨cs, hcs⟩, hbel5⟩ := hrel
        by_cases hlt2 : j < L
        · obtain ⟨g, rfl, hg1, hg2⟩ := HC.out (by omega)
          have hlen := hcs.1
          have y0 := hcs.cellAt (j * 2) (by omega)
          have y1 := hcs.cellAt (j * 2 + 1) (by omega)
          rw [List.getElem?_eq_getElem (by omega)] at y0 y1
          have z0 := hcs.frozenAt (j * 2)
          have z1 := hcs.frozenAt (j * 2 + 1)
          have HN := Lib.hid (fun u0 u1 => ((hcs.stored (j * 2) u0).1.stored (j * 2 + 1) u1).1)
          generalize cs[j * 2]'(by omega) = v0 at y0
          generalize cs[j * 2 + 1]'(by omega) = v1 at y1
          have f0 : (0 : Int) ≤ (j : Int) := by omega
          have f1 : (j : Int) < (L : Int) := by omega
          clear hlen hcs
          go_wp2
          go_roundw
          case rel => exact ⟨j + 1, by omega, by go_num, ⟨_, HN.out _ _⟩, (hbel5.setCell (by simpa using hg1) _).setCell (by simpa using hg1) _⟩
          case measure => simp [intOf]; omega
        · obtain rfl : L = j := by omega
          have ha5 : wr.ownsRow w.heap.size 34 2 va l.length (cells2 l) := by rw [HL.out]; exact own_below ha4 hbel5 (fun q hq => HV.out.1 q hq)
          have hw5 : wr.ownsRow w2.heap.size 34 2 u7 l.length (cells2 l) := by rw [HL.out]; exact own_below hw4 hbel5 (fun q hq => HV.out.2 q hq)
          have HS2 := Lib.hid (fun n => same_eq l va u7 (wr.drewN n) w.heap.size w2.heap.size ha5 hw5 (by rw [HL.out]; exact hl))
          clear ha5 hw5
          go_wp2_with fail
          refine (HS2.out 0).mono ?_
          rintro e w6 ⟨rfl, n2, rfl⟩
          go_wp2_with fail
          go_ret
          exact ⟨rfl, below_drewN (hb04.trans (hbel5.mono hbr.size)) _⟩
end Go.Proofs.YtedpadjlkddgjaaDoor
