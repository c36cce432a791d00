/-
  The walk of IsoSwaps.
-/
import Derived.Test.YtedpadjlkddgjaaDoorN
import Derived.BigRegion
import Derived.Deep.RegionWith
namespace Go.Proofs.YtedpadjlkddgjaaDoor
open Go.RowKit Go.PlainAid
/-- the first cells of a block are bytes that may be written -/
structure BytesAt (w : World) (g : Nat) (l : List Int) : Prop where
  lt : g < w.heap.size
  cell : ∀ j, j < l.length → w.cell? ⟨g, j, none⟩ = some (.int .u8 (l.getD j 0))
  free : ∀ j, j < l.length → w.frozen? ⟨g, j, none⟩ = false
theorem bytesAt_new (w : World) (s : ByteArray) (cap : Nat) : BytesAt (w.alloc (.cells (bytesRow s cap) 5 ((bytesRow s cap).size, (bytesRow s cap).size + 1))).drew w.heap.size (btl s) := by
  have hsz : s.size ≤ (bytesRow s cap).size := by unfold bytesRow; rw [Array.size_append, Array.size_map]; exact Nat.le_add_right _ _
  refine ⟨by simp, fun j hj => ?_, fun j hj => ?_⟩
  · rw [btl_length] at hj
    show (w.alloc _).cell? _ = _
    rw [World.cell?_alloc_mark, bytesRow_at s cap j hj, btl_get]
    unfold bt
    rw [dif_pos hj]
    rfl
  · rw [btl_length] at hj
    show (w.alloc _).frozen? _ = _
    rw [World.frozen?_alloc_mark]
    simp
    omega
theorem BytesAt.below {w w' : World} {g : Nat} {l : List Int} (h : BytesAt w g l) (hb : Below w.heap.size w w') : BytesAt w' g l :=
  ⟨Nat.lt_of_lt_of_le h.lt hb.size, fun j hj => (hb.cell (by exact h.lt)).trans (h.cell j hj), fun j hj => (hb.frozen (by exact h.lt)).trans (h.free j hj)⟩
theorem BytesAt.drewN {w : World} {g : Nat} {l : List Int} (h : BytesAt w g l) (n : Nat) : BytesAt (w.drewN n) g l := ⟨h.lt, h.cell, h.free⟩
theorem run_bytes_string {w : World} {g : Nat} {l : List Int} (h : BytesAt w g l) (cap : Nat) : (convert 27 9 (.slice (some ⟨g, 0, none⟩) l.length cap)).run Tryd.prog w = .ok (.string (strOf l)) w := by
  rw [run_convert_bytes_string w 27 9 5 _ l.length cap Tryd.underlying27 Tryd.underlying5 Tryd.underlying9]
  have hl := run_loadCells_list (P := Tryd.prog) w ⟨g, 0, none⟩ (l.map (Value.int .u8)) (fun j u hj => by
    rw [List.getElem?_map, Option.map_eq_some_iff] at hj
    obtain ⟨x, hx, rfl⟩ := hj
    have hlt : j < l.length := (List.getElem?_eq_some_iff.1 hx).1
    have := h.cell j hlt
    rw [List.getD_eq_getElem?_getD, hx] at this
    rw [Go.WideShapes.add_plain, Nat.zero_add]
    exact this)
  rw [List.length_map] at hl
  exact run_bytesToString w _ _ cap l hl
theorem BytesAt.set_ {w : World} {g : Nat} {l : List Int} (h : BytesAt w g l) {j : Nat} (hj : j < l.length) (v : Int) : BytesAt (w.setCell ⟨g, j, none⟩ (.int .u8 v)) g (l.set j v) := by
  refine ⟨by have := h.lt; simpa [World.setCell] using this, fun i hi => ?_, fun i hi => ?_⟩
  · rw [List.length_set] at hi
    by_cases e : j = i
    · subst e
      rw [World.cell?_setCell_same w _ _ (h.cell j hj), List.getD_eq_getElem?_getD, List.getElem?_set_self hj]
      rfl
    · rw [World.cell?_setCell_other w _ _ _ (fun he => e (by injection he)), h.cell i hi, List.getD_eq_getElem?_getD, List.getD_eq_getElem?_getD, List.getElem?_set_ne e]
  · rw [List.length_set] at hi
    rw [World.frozen?_setCell]
    exact h.free i hi
theorem rem_ten (s : ByteArray) (hs : s.size = 10) (w : World) : Calls Tryd.prog 17 #[.string s] w fun e w' => e = .returned (.int .i64 (dsum s 10 % 11)) ∧ w = w' := by
  have h := rem_any s w (by omega)
  rw [hs] at h
  exact h
theorem chk_app {q : ByteArray} {d : Int} (hs : q.size = 10) (hf : formedB q = true) (h0 : 48 ≤ d) (h1 : d ≤ 57) : chk (q ++ strOf [d]) = if digI q 10 = d then 0 else 31 := by
  have hz : (q ++ strOf [d]).size = 11 := by rw [ByteArray.size_append, hs, strOf_size]; rfl
  have hb : ∀ k, k < 10 → bt (q ++ strOf [d]) k = bt q k := fun k hk => bt_append_left _ _ (by omega)
  have hb10 : bt (q ++ strOf [d]) 10 = d := by
    rw [bt_append_right _ _ (by omega), hs, Nat.sub_self, bt_strOf _ (by intro x hx; simp at hx; omega)]; rfl
  have hf2 : formedB (q ++ strOf [d]) = true := formed_of fun k hk => by
    rw [hz] at hk
    by_cases h10 : k < 10
    · rw [hb k h10]; exact formed_at hf (by omega)
    · obtain rfl : k = 10 := by omega
      rw [hb10, mayI_dig (by omega) (by omega)]
      unfold isDig; simp; omega
  unfold chk
  rw [if_pos ⟨hz, hf2⟩, hb10]
  unfold digI
  rw [dsum_congr 10 (fun k hk => hb k hk)]
theorem pick_nat (x : Int) (n : Nat) (w : World) (h0 : 1 ≤ n) (h1 : n ≤ 1000000000) (hx0 : -9223372036854775808 ≤ x) (hx1 : x ≤ 9223372036854775807) :
    Calls Tryd.prog 15 #[.int .i64 x, .int .i64 n] w fun e w' => ∃ a : Nat, a < n ∧ e = .returned (.int .i64 a) ∧ w = w' := by
  refine (pick_any x n w (by omega) (by omega) hx0 hx1).mono ?_
  rintro e w' ⟨rfl, rfl⟩
  have hm0 := Int.emod_nonneg x (show (n : Int) ≠ 0 by omega)
  have hm1 := Int.emod_lt_of_pos x (show (0 : Int) < n by omega)
  exact ⟨(x % n).toNat, by omega, ret_int (by omega), rfl⟩
set_option maxRecDepth 100000 in
set_option maxHeartbeats 1600000 in
theorem isoSwaps_any (n i k : Int) (w : World) (b o c : Nat) (hk : Kin w b o c) (hn0 : 0 ≤ n) (hn1 : n ≤ 18446744073709551615) (hi0 : -9223372036854775808 ≤ i) (hi1 : i ≤ 9223372036854775807) (hk0 : -9223372036854775808 ≤ k) (hk1 : k ≤ 9223372036854775807) :
    Calls Tryd.prog 6 #[.int .u64 n, .int .i64 i, .int .i64 k] w fun e w' => e = .returned (.bool true) ∧ Below w.heap.size w w' := by
  go_enter Tryd.func6, Tryd.ntmps6
  go_wp2_with fail
  refine (awake_any _ b o c hk).mono ?_
  rintro e w1 ⟨rfl, hb1⟩
  go_wp2_with fail
  refine (made_any n _ hn0 hn1).mono ?_
  rintro e w2 ⟨rfl, hb2'⟩
  have hb2 := below_step hb1 hb2' hb1.size
  clear hb1 hb2'
  have hcb := run_bytes_of_string (P := Tryd.prog) w2 9 27 5 (mdP n) Tryd.underlying9 Tryd.underlying27 Tryd.underlying5
  go_wp2_with fail
  have hB := bytesAt_new w2 (mdP n) (grownCap w2 (mdP n).size 0 5)
  have hb3 : Below w.heap.size w ((w2.alloc (Obj.cells (bytesRow (mdP n) (grownCap w2 (mdP n).size 0 5)) 5 ((bytesRow (mdP n) (grownCap w2 (mdP n).size 0 5)).size, (bytesRow (mdP n) (grownCap w2 (mdP n).size 0 5)).size + 1))).drew) := (hb2.alloc hb2.size _).drew
  have hg0 := hb2.size
  generalize w2.heap.size = g at hB hg0 ⊢
  generalize (w2.alloc (Obj.cells (bytesRow (mdP n) (grownCap w2 (mdP n).size 0 5)) 5 ((bytesRow (mdP n) (grownCap w2 (mdP n).size 0 5)).size, (bytesRow (mdP n) (grownCap w2 (mdP n).size 0 5)).size + 1))).drew = w3 at hB hb3 ⊢
  generalize grownCap w2 (mdP n).size 0 5 = cap at ⊢
  clear hcb hb2
  refine (pick_nat i 10 _ (by omega) (by omega) hi0 hi1).mono ?_
  rintro e w4 ⟨a, ha, rfl, rfl⟩
  go_wp2_with fail
  refine (pick_nat k 10 _ (by omega) (by omega) hk0 hk1).mono ?_
  rintro e w4 ⟨d, hd, rfl, rfl⟩
  have hz := mdP_size n
  have hl10 : (btl (mdP n)).length = 10 := by rw [btl_length, hz]
  have ca := hB.cell a (by omega)
  have cd := hB.cell d (by omega)
  have fa := hB.free a (by omega)
  have fd := hB.free d (by omega)
  have HB := Lib.hid hB
  have HL := Lib.hid hl10
  clear hB hl10
  generalize hx : (btl (mdP n)).getD a 0 = x at ca
  generalize hy : (btl (mdP n)).getD d 0 = y at cd
  have g0 : (0 : Int) ≤ (a : Int) := by omega
  have g1 : (a : Int) < 10 := by omega
  have g2 : (0 : Int) ≤ (d : Int) := by omega
  have g3 : (d : Int) < 10 := by omega
  obtain ⟨v', hy'⟩ : ∃ v', (w3.setCell ⟨g, a, none⟩ (.int .u8 y)).cell? ⟨g, d, none⟩ = some v' := by
    by_cases e : (⟨g, a, none⟩ : Addr) = ⟨g, d, none⟩
    · rw [← e]; exact ⟨_, World.cell?_setCell_same w3 _ _ ca⟩
    · exact ⟨_, (World.cell?_setCell_other w3 _ _ _ e).trans cd⟩
  have HB4 : Hid (BytesAt ((w3.setCell ⟨g, a, none⟩ (.int .u8 y)).setCell ⟨g, d, none⟩ (.int .u8 x)).drew g (((btl (mdP n)).set a y).set d x)) :=
    ((HB.out.set_ (by rw [HL.out]; exact ha) y).set_ (by rw [List.length_set, HL.out]; exact hd) x).drewN 1
  have hQr : Hid (∀ u ∈ ((btl (mdP n)).set a y).set d x, 0 ≤ u ∧ u ≤ 255) := by
    have hr := btl_range (mdP n)
    have hx2 : 0 ≤ x ∧ x ≤ 255 := by rw [← hx, btl_get]; exact ⟨bt_nonneg _ _, bt_le _ _⟩
    have hy2 : 0 ≤ y ∧ y ≤ 255 := by rw [← hy, btl_get]; exact ⟨bt_nonneg _ _, bt_le _ _⟩
    intro u hu
    rcases List.mem_or_eq_of_mem_set hu with h | rfl
    · rcases List.mem_or_eq_of_mem_set h with h | rfl
      · exact hr u h
      · exact hy2
    · exact hx2
  have hQl : Hid ((((btl (mdP n)).set a y).set d x).length = 10) := (by rw [List.length_set, List.length_set, HL.out] : (((btl (mdP n)).set a y).set d x).length = 10)
  clear hx hy HB
  go_wp2_with fail
  go_region
  have hb4 : Below w.heap.size w ((w3.setCell ⟨g, a, none⟩ (.int .u8 y)).setCell ⟨g, d, none⟩ (.int .u8 x)).drew := ((hb3.setCell hg0 _).setCell hg0 _).drew
  generalize ((w3.setCell ⟨g, a, none⟩ (.int .u8 y)).setCell ⟨g, d, none⟩ (.int .u8 x)).drew = w4 at HB4 hb4 ⊢
  generalize ((btl (mdP n)).set a y).set d x = l at HB4 hQl hQr
  clear hb3 ca cd fa fd hy' v'
  have hB4 := HB4.out
  have hsz : (strOf l).size = 10 := by rw [strOf_size]; exact hQl.out
  have hcv : ∀ W : World, BytesAt W g l → (convert 27 9 (.slice (some ⟨g, 0, none⟩) 10 cap)).run Tryd.prog W = .ok (.string (strOf l)) W := fun W h => by
    have := run_bytes_string h cap
    rw [hQl.out] at this
    exact this
  have hcv4 := hcv _ hB4
  have HCV := Lib.hid hcv
  clear hcv HB4 hQr
  generalize strOf l = q at hcv4 hsz HCV
  have HZ := Lib.hid hsz
  have hqm : q.size ≤ maxLen := by rw [hsz]; unfold maxLen; omega
  clear hsz
  have HB4 := Lib.hid hB4
  clear hB4
  go_wp2_with fail
  cases hf : formedB q
  · have hE : ckE q = 30 ∧ ckD q = 0 := ⟨by unfold ckE; rw [if_neg (by rw [hf]; simp)], by unfold ckD; rw [if_neg (by rw [hf]; simp)]⟩
    have hc : Calls Tryd.prog 20 #[.string q] w4 fun e w' => e = .returned (.tuple #[.int .u8 0, .int .i64 30]) ∧ Below w4.heap.size w4 w' := by
      have := check10_any q w4 hqm
      rw [hE.1, hE.2] at this
      exact this
    clear hE hf
    refine hc.mono ?_
    rintro e w5 ⟨rfl, hb5⟩
    go_wp2_with fail
    go_ret
    exact ⟨rfl, below_step hb4 hb5 hb4.size⟩
  · have hE : ckE q = 0 ∧ ckD q = digI q 10 := ⟨by unfold ckE; rw [if_pos ⟨HZ.out, hf⟩], by unfold ckD; rw [if_pos ⟨HZ.out, hf⟩]⟩
    have hc : Calls Tryd.prog 20 #[.string q] w4 fun e w' => e = .returned (.tuple #[.int .u8 (digI q 10), .int .i64 0]) ∧ Below w4.heap.size w4 w' := by
      have := check10_any q w4 hqm
      rw [hE.1, hE.2] at this
      exact this
    have hch := chk_app HZ.out hf (digI_bd (mdP n) 10).1 (digI_bd (mdP n) 10).2
    have hA := dsum_small (mdP n) (k := 10) (by omega)
    have hB := dsum_small q (k := 10) (by omega)
    have hD1 := digI_bd (mdP n) 10
    have hD2 := digI_bd q 10
    have eD1 : mdD n = 48 + dsum (mdP n) 10 % 11 % 10 := rfl
    have eD2 : digI q 10 = 48 + dsum q 10 % 11 % 10 := rfl
    have hrP := Lib.hid (fun W => rem_ten (mdP n) (mdP_size n) W)
    have hrQ := Lib.hid (fun W => rem_ten q HZ.out W)
    have hR := Lib.hid (fun W => right_any (q ++ strOf [mdD n]) W (by rw [ByteArray.size_append, strOf_size, HZ.out]; simp [maxLen]))
    have hch' : (chk (q ++ strOf [mdD n]) == 0) = decide (digI q 10 = mdD n) := by
      unfold mdD
      rw [hch]
      by_cases h : digI q 10 = digI (mdP n) 10
      · simp [h]
      · simp [h]
    have hA2 : 0 ≤ dsum (mdP n) 10 % 11 ∧ dsum (mdP n) 10 % 11 ≤ 10 := by omega
    have hB2 : 0 ≤ dsum q 10 % 11 ∧ dsum q 10 % 11 ≤ 10 := by omega
    have hD3 : 48 ≤ mdD n ∧ mdD n ≤ 57 := hD1
    have hq10 : q.size ≤ 10 := by rw [HZ.out]; exact Nat.le_refl _
    clear hE hf hch hA hB hD1
    generalize mdD n = D at *
    generalize digI q 10 = C at *
    generalize dsum (mdP n) 10 % 11 = A at *
    generalize dsum q 10 % 11 = B at *
    by_cases hcd : C = D
    · have e1 : (C == D) = true := by simp [hcd]
      by_cases hab : A = B
      · have e2 : (A == B) = true := by simp [hab]
        clear hab
        have hR2 : Hid (∀ W : World, Calls Tryd.prog 14 #[.string (q ++ strOf [D])] W fun e w' => e = .returned (.bool true) ∧ Below W.heap.size W w') := fun W => by
          have := hR.out W
          rw [hch', show decide (C = D) = true by simp [hcd]] at this
          exact this
        clear hR hch' eD1 eD2 hcd
        refine hc.mono ?_
        rintro e w5 ⟨rfl, hb5⟩
        have hb6 := below_step hb4 hb5 hb4.size
        have hcv5 : ∀ m, (convert 27 9 (.slice (some ⟨g, 0, none⟩) 10 cap)).run Tryd.prog (w5.drewN m) = .ok (.string q) (w5.drewN m) := fun m => HCV.out _ ((HB4.out.below hb5).drewN m)
        clear hb5 hb4 hc hcv4
        have hs1 : (strOf [D]).size ≤ 1 := by rw [strOf_size]; exact Nat.le_refl _
        have hadd : ∀ W : World, (Op.stringOp .add q (strOf [D])).run Tryd.prog W = .ok (.string (q ++ strOf [D])) W := fun W => run_string_add_sum W _ _ (by omega)
        have hone : ∀ m, (convert 27 9 (.slice (some ⟨w5.heap.size, 0, none⟩) 1 1)).run Tryd.prog ((w5.drewN m).alloc (.cells #[.int .u8 D] 5)) = .ok (.string (strOf [D])) ((w5.drewN m).alloc (.cells #[.int .u8 D] 5)) := fun m => run_one_byte D (w5.drewN m)
        go_wp2_with fail
        go_quiet ((first | (go_at_call_of 17 (mdP n); exact quiet_left (hrP.out _)) | (go_at_call_of 17 q; exact quiet_left (hrQ.out _))))
        go_wp2_with fail
        refine (hR2.out _).mono ?_
        rintro e w7 ⟨rfl, hb7⟩
        go_wp2_with fail
        go_ret
        exact ⟨rfl, ((below_drewN hb6 _).alloc hb6.size _).trans (hb7.mono (by have := hb6.size; simp; omega))⟩
      · have e2 : (A == B) = false := by simp [hab]
        have e3 : (A % 10 == 0) = true := by simp; omega
        have e4 : (B % 10 == 0) = true := by simp; omega
        clear hab
        have hR2 : Hid (∀ W : World, Calls Tryd.prog 14 #[.string (q ++ strOf [D])] W fun e w' => e = .returned (.bool true) ∧ Below W.heap.size W w') := fun W => by
          have := hR.out W
          rw [hch', show decide (C = D) = true by simp [hcd]] at this
          exact this
        clear hR hch' eD1 eD2 hcd
        refine hc.mono ?_
        rintro e w5 ⟨rfl, hb5⟩
        have hb6 := below_step hb4 hb5 hb4.size
        have hcv5 : ∀ m, (convert 27 9 (.slice (some ⟨g, 0, none⟩) 10 cap)).run Tryd.prog (w5.drewN m) = .ok (.string q) (w5.drewN m) := fun m => HCV.out _ ((HB4.out.below hb5).drewN m)
        clear hb5 hb4 hc hcv4
        have hs1 : (strOf [D]).size ≤ 1 := by rw [strOf_size]; exact Nat.le_refl _
        have hadd : ∀ W : World, (Op.stringOp .add q (strOf [D])).run Tryd.prog W = .ok (.string (q ++ strOf [D])) W := fun W => run_string_add_sum W _ _ (by omega)
        have hone : ∀ m, (convert 27 9 (.slice (some ⟨w5.heap.size, 0, none⟩) 1 1)).run Tryd.prog ((w5.drewN m).alloc (.cells #[.int .u8 D] 5)) = .ok (.string (strOf [D])) ((w5.drewN m).alloc (.cells #[.int .u8 D] 5)) := fun m => run_one_byte D (w5.drewN m)
        go_wp2_with fail
        go_quiet ((first | (go_at_call_of 17 (mdP n); exact quiet_left (hrP.out _)) | (go_at_call_of 17 q; exact quiet_left (hrQ.out _))))
        go_wp2_with fail
        refine (hR2.out _).mono ?_
        rintro e w7 ⟨rfl, hb7⟩
        go_wp2_with fail
        go_ret
        exact ⟨rfl, ((below_drewN hb6 _).alloc hb6.size _).trans (hb7.mono (by have := hb6.size; simp; omega))⟩
    · have e1 : (C == D) = false := by simp [hcd]
      have e2 : (A == B) = false := by simp; omega
      by_cases h3 : A % 10 = 0
      · have e3 : (A % 10 == 0) = true := by simp [h3]
        have e4 : (B % 10 == 0) = false := by simp; omega
        clear h3
        have hR2 : Hid (∀ W : World, Calls Tryd.prog 14 #[.string (q ++ strOf [D])] W fun e w' => e = .returned (.bool false) ∧ Below W.heap.size W w') := fun W => by
          have := hR.out W
          rw [hch', show decide (C = D) = false by simp [hcd]] at this
          exact this
        clear hR hch' eD1 eD2 hcd
        refine hc.mono ?_
        rintro e w5 ⟨rfl, hb5⟩
        have hb6 := below_step hb4 hb5 hb4.size
        have hcv5 : ∀ m, (convert 27 9 (.slice (some ⟨g, 0, none⟩) 10 cap)).run Tryd.prog (w5.drewN m) = .ok (.string q) (w5.drewN m) := fun m => HCV.out _ ((HB4.out.below hb5).drewN m)
        clear hb5 hb4 hc hcv4
        have hs1 : (strOf [D]).size ≤ 1 := by rw [strOf_size]; exact Nat.le_refl _
        have hadd : ∀ W : World, (Op.stringOp .add q (strOf [D])).run Tryd.prog W = .ok (.string (q ++ strOf [D])) W := fun W => run_string_add_sum W _ _ (by omega)
        have hone : ∀ m, (convert 27 9 (.slice (some ⟨w5.heap.size, 0, none⟩) 1 1)).run Tryd.prog ((w5.drewN m).alloc (.cells #[.int .u8 D] 5)) = .ok (.string (strOf [D])) ((w5.drewN m).alloc (.cells #[.int .u8 D] 5)) := fun m => run_one_byte D (w5.drewN m)
        go_wp2_with fail
        go_quiet ((first | (go_at_call_of 17 (mdP n); exact quiet_left (hrP.out _)) | (go_at_call_of 17 q; exact quiet_left (hrQ.out _))))
        go_wp2_with fail
        refine (hR2.out _).mono ?_
        rintro e w7 ⟨rfl, hb7⟩
        go_wp2_with fail
        go_ret
        exact ⟨rfl, ((below_drewN hb6 _).alloc hb6.size _).trans (hb7.mono (by have := hb6.size; simp; omega))⟩
      · have e3 : (A % 10 == 0) = false := by simp [h3]
        clear h3
        have hR2 : Hid (∀ W : World, Calls Tryd.prog 14 #[.string (q ++ strOf [D])] W fun e w' => e = .returned (.bool false) ∧ Below W.heap.size W w') := fun W => by
          have := hR.out W
          rw [hch', show decide (C = D) = false by simp [hcd]] at this
          exact this
        clear hR hch' eD1 eD2 hcd
        refine hc.mono ?_
        rintro e w5 ⟨rfl, hb5⟩
        have hb6 := below_step hb4 hb5 hb4.size
        have hcv5 : ∀ m, (convert 27 9 (.slice (some ⟨g, 0, none⟩) 10 cap)).run Tryd.prog (w5.drewN m) = .ok (.string q) (w5.drewN m) := fun m => HCV.out _ ((HB4.out.below hb5).drewN m)
        clear hb5 hb4 hc hcv4
        have hs1 : (strOf [D]).size ≤ 1 := by rw [strOf_size]; exact Nat.le_refl _
        have hadd : ∀ W : World, (Op.stringOp .add q (strOf [D])).run Tryd.prog W = .ok (.string (q ++ strOf [D])) W := fun W => run_string_add_sum W _ _ (by omega)
        have hone : ∀ m, (convert 27 9 (.slice (some ⟨w5.heap.size, 0, none⟩) 1 1)).run Tryd.prog ((w5.drewN m).alloc (.cells #[.int .u8 D] 5)) = .ok (.string (strOf [D])) ((w5.drewN m).alloc (.cells #[.int .u8 D] 5)) := fun m => run_one_byte D (w5.drewN m)
        go_wp2_with fail
        go_quiet ((first | (go_at_call_of 17 (mdP n); exact quiet_left (hrP.out _)) | (go_at_call_of 17 q; exact quiet_left (hrQ.out _))))
        go_wp2_with fail
        refine (hR2.out _).mono ?_
        rintro e w7 ⟨rfl, hb7⟩
        go_wp2_with fail
        go_ret
        exact ⟨rfl, ((below_drewN hb6 _).alloc hb6.size _).trans (hb7.mono (by have := hb6.size; simp; omega))⟩
end Go.Proofs.YtedpadjlkddgjaaDoor
