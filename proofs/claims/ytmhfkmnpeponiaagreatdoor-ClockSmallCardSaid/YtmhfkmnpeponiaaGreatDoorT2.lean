/-
  The walks of the clock package: the time of a text.
-/
import Derived.Test.YtmhfkmnpeponiaaGreatDoorT1
namespace Go.Proofs.YtmhfkmnpeponiaaGreatDoor
open Go Sat Go.RowKit Go.PlainAid
set_option linter.unusedSimpArgs false
set_option linter.unusedVariables false
theorem atoi_good {x : ByteArray} {v : Int} (h : Lib.atoiAll x.data.toList = .ok v) (hx : x.size ≤ 281474976710656) (w : World) : Calls Tryz.prog 62 #[.string x] w fun e w' => e = .returned (.tuple #[.int .i64 v, .nilIface]) ∧ Below w.heap.size w w' := by
  refine (Tryz.strconv_Atoi_ok x (by omega) v h w).mono ?_
  rintro e w' ⟨he, rfl | ⟨t, rfl⟩⟩
  · exact ⟨he, below_self w'⟩
  · refine ⟨he, ?_⟩
    unfold Lib.bytesWorld
    exact Lib.below_freeze ((Below.refl w.heap.size w).drew.alloc (Nat.le_refl _) _) (Nat.le_refl _) _
theorem no_str {b : Bool} {xs : List Value} {i : Nat} (hb : b = false) : b = true → xs[i]? = some (.string ⟨#[]⟩) := fun h => by rw [hb] at h; cases h
def badV (M : Int × Nat × Nat) : SV := .t [.v (.int .i64 M.1), .v (.iface M.2.1 (.pointer (some ⟨M.2.2, 0, none⟩)))]
theorem atoi_bad {x : ByteArray} (h : ∀ v, Lib.atoiAll x.data.toList ≠ .ok v) (hx : x.size ≤ 281474976710656) {w : World} (hw : Wf w) : Calls Tryz.prog 62 #[.string x] w fun e w' => ∃ M : Int × Nat × Nat, True ∧ e = .returned (badV M).real ∧ Below w.heap.size w w' := by
  rcases atoi_cases x.data.toList with ⟨v, ha⟩ | ha | ha
  · exact absurd ha (h v)
  · obtain ⟨tp, p, hv⟩ := hw.syn
    refine (Tryz.strconv_Atoi_syntax_var x hx ha tp p w hv).mono ?_
    rintro e w' ⟨M, he, _, _, hb⟩
    exact ⟨(_, _, M), trivial, he, hb⟩
  · obtain ⟨tp, p, hv⟩ := hw.rng
    refine (Tryz.strconv_Atoi_range_var x hx ha tp p w hv).mono ?_
    rintro e w' ⟨M, he, _, _, hb⟩
    exact ⟨(_, _, M), trivial, he, hb⟩
theorem split_any (s : ByteArray) (hs : s.size ≤ 4294967280) {w : World} (hw : Wf w) : Calls Tryz.prog 61 #[.string s, .string ⟨#[32]⟩] w fun e w' => ∃ v, e = .returned v ∧ w'.ownsRow w.heap.size 9 1 v (pieces s).length ((pieces s).map Value.string) ∧ Below w.heap.size w w' := by
  obtain ⟨m, hm⟩ := hw.top
  have hle := Lib.countB_le ⟨#[32]⟩ (by show 1 ≤ 1; omega) s.size s (Nat.le_refl _)
  refine (Any.strings_Split (ρ := Tryz.laysM146_ren) { Tryz.laysM146 with } Tryz.laysM146.i9 s ⟨#[32]⟩ m w (by omega) hm (by show 1 ≤ 1; omega)).mono ?_
  rintro e w' ⟨rfl, rfl⟩
  have hl := pieces_len s
  refine ⟨_, rfl, ⟨by simp, .inr ⟨w.heap.size, _, _, by rw [hl], Nat.le_refl _, heap_alloc_new w _, by omega, by unfold maxLen; omega, ?_, ?_⟩⟩, (Below.refl _ w).alloc (Nat.le_refl _) _⟩
  · show ((pieces s).map Value.string).toArray.size = _
    simp [hl]
  · show ((pieces s).map Value.string).toArray.toList.take _ = _
    rw [Nat.mul_one, List.toList_toArray, List.take_of_length_le (by simp)]
theorem index_any (x : ByteArray) (w : World) (hr : Ro w (some (0, 0)) 7 1 (dayN.map Value.string)) : Calls Tryz.prog 63 #[.slice (some ⟨0, 0, none⟩) 7 7, .string x] w fun e w' => e = .returned (.int .i64 (dixN x)) ∧ Below w.heap.size w w' := by
  obtain ⟨_, h⟩ := hr
  obtain ⟨p, hp, _, hc⟩ := h (by omega)
  cases hp
  refine (Tryz.slices_Index_string 0 0 7 7 dayN x w (Nat.le_refl 7) (by omega) (fun j hj => ?_)).mono ?_
  · refine hc j _ ?_
    rw [List.getElem?_map, List.getElem?_eq_getElem hj, List.getD_eq_getElem?_getD, List.getElem?_eq_getElem hj]
    rfl
  · rintro e w' ⟨he, rfl⟩
    exact ⟨he, below_self w'⟩
theorem atoi_itB {n : Int} (h0 : 0 ≤ n) (h1 : n ≤ 100000000) : Lib.atoiAll (itB n).data.toList = .ok n := by
  show Lib.atoiAll (Lib.itoa n).toArray.toList = .ok n
  rw [List.toList_toArray]
  exact atoi_of h0 h1
theorem ba_len (x : ByteArray) : x.data.toList.length = x.size := Array.length_toList
theorem atoi_small {x : ByteArray} {v : Int} {k : Nat} (h : Lib.atoiAll x.data.toList = .ok v) (hk : x.size ≤ k) : -(10 ^ k : Nat) < v ∧ v < (10 ^ k : Nat) := by
  have h1 := atoi_len h
  have e := ba_len x
  have h2 : 10 ^ x.data.toList.length ≤ 10 ^ k := Nat.pow_le_pow_right (by omega) (by rw [e]; exact hk)
  omega
/-- what the pieces of a text tell, if it is one of a time -/
structure Tells (s : ByteArray) (x y : ByteArray) (c : ByteArray) : Prop where
  out : ∀ t, timeOk t = true → txB t = s → x = itB (t / 10080) ∧ y = dayB (t % 10080 / 1440) ∧ c = clkB (t % 10080 % 1440 / 60) (t % 10080 % 60)
theorem Tells.not {s x y c : ByteArray} (h : Tells s x y c) (hb : ∀ t, timeOk t = true → x = itB (t / 10080) → y = dayB (t % 10080 / 1440) → c = clkB (t % 10080 % 1440 / 60) (t % 10080 % 60) → txB t = s → False) :
    (SV.t [.v (.int .i64 0), .v (.int .i64 20)]).real = .tuple #[.int .i64 (rdV s), .int .i64 (rdE s)] := by
  obtain ⟨h1, h2⟩ := rd_no (s := s) fun t g1 g2 => by
    obtain ⟨e1, e2, e3⟩ := h.out t g1 g2
    exact hb t g1 e1 e2 e3 g2
  rw [h1, h2]
  rfl
theorem Tells.week {s x y c : ByteArray} (h : Tells s x y c) (hx : ∀ v, Lib.atoiAll x.data.toList ≠ .ok v) : (SV.t [.v (.int .i64 0), .v (.int .i64 20)]).real = .tuple #[.int .i64 (rdV s), .int .i64 (rdE s)] :=
  h.not fun t h1 e1 _ _ _ => by
    have hb := (tx_bd h1).1
    rw [e1] at hx
    exact hx _ (atoi_itB hb.1 (by omega))
theorem Tells.hour {s x y c c1 : ByteArray} (h : Tells s x y c) (hc : c1 = c.extract (0 : Int).toNat (2 : Int).toNat) (hx : ∀ v, Lib.atoiAll c1.data.toList ≠ .ok v) : (SV.t [.v (.int .i64 0), .v (.int .i64 20)]).real = .tuple #[.int .i64 (rdV s), .int .i64 (rdE s)] :=
  h.not fun t h1 _ _ e3 _ => by
    have hb := (tx_bd h1).2.2.1
    rw [hc, e3, clk_hour] at hx
    exact hx _ (two_atoi hb.1 (by omega))
theorem Tells.minute {s x y c c2 : ByteArray} (h : Tells s x y c) (hc : c2 = c.extract (3 : Int).toNat (5 : Int).toNat) (hx : ∀ v, Lib.atoiAll c2.data.toList ≠ .ok v) : (SV.t [.v (.int .i64 0), .v (.int .i64 20)]).real = .tuple #[.int .i64 (rdV s), .int .i64 (rdE s)] :=
  h.not fun t h1 _ _ e3 _ => by
    have hb := (tx_bd h1).2.2.2
    rw [hc, e3, clk_minute] at hx
    exact hx _ (two_atoi hb.1 (by omega))
theorem Tells.day {s x y c : ByteArray} (h : Tells s x y c) (hx : dixN y < 0) : (SV.t [.v (.int .i64 0), .v (.int .i64 20)]).real = .tuple #[.int .i64 (rdV s), .int .i64 (rdE s)] :=
  h.not fun t h1 _ e2 _ _ => by
    have hb := (tx_bd h1).2.1
    rw [e2, dix_day hb.1 hb.2] at hx
    omega
theorem Tells.time {s x y c c1 c2 : ByteArray} (h : Tells s x y c) (hc1 : c1 = c.extract (0 : Int).toNat (2 : Int).toNat) (hc2 : c2 = c.extract (3 : Int).toNat (5 : Int).toNat) {v1 v2 v3 : Int} (h1 : Lib.atoiAll x.data.toList = .ok v1) (h2 : Lib.atoiAll c1.data.toList = .ok v2) (h3 : Lib.atoiAll c2.data.toList = .ok v3)
    (hn : ¬ (tvE (v1 * 10080 + dixN y * 1440 + v2 * 60 + v3) = 0 ∧ tvV (v1 * 10080 + dixN y * 1440 + v2 * 60 + v3) = s)) : (SV.t [.v (.int .i64 0), .v (.int .i64 20)]).real = .tuple #[.int .i64 (rdV s), .int .i64 (rdE s)] :=
  h.not fun t g1 e1 e2 e3 g2 => by
    obtain ⟨b1, b2, b3, b4⟩ := tx_bd g1
    rw [e1, atoi_itB b1.1 (by omega)] at h1
    rw [hc1, e3, clk_hour, two_atoi b3.1 (by omega)] at h2
    rw [hc2, e3, clk_minute, two_atoi b4.1 (by omega)] at h3
    injection h1 with h1
    injection h2 with h2
    injection h3 with h3
    have e : v1 * 10080 + dixN y * 1440 + v2 * 60 + v3 = t := by
      rw [e2, dix_day b2.1 b2.2, ← h1, ← h2, ← h3]
      omega
    rw [e, (tv_yes g1).1, (tv_yes g1).2] at hn
    exact hn ⟨rfl, g2⟩
theorem rd_good {s : ByteArray} {t : Int} (h : tvE t = 0) (h2 : tvV t = s) : (SV.t [.v (.int .i64 t), .v (.int .i64 0)]).real = .tuple #[.int .i64 (rdV s), .int .i64 (rdE s)] := by
  cases ht : timeOk t
  · rw [(tv_no ht).2] at h
    omega
  · obtain ⟨h3, h4⟩ := rd_yes (s := s) (t := t) ht ((tv_yes ht).1.symm.trans h2)
    rw [h3, h4]
    rfl
set_option maxRecDepth 100000 in
set_option maxHeartbeats 16000000 in
theorem read_any (s : ByteArray) (w : World) (hs : s.size ≤ 4294967280) (hw : Wf w) : Calls Tryz.prog 36 #[.string s] w fun e w' => e = .returned (.tuple #[.int .i64 (rdV s), .int .i64 (rdE s)]) ∧ Below w.heap.size w w' := by
  refine calls_sat (cx := Tryz.cx 99 [] [] [] w) (Tryz.ok ..) Tryz.func36 rfl [.v (.string s)] rfl (by show 1 ≤ 99; omega) [(2000000, .ro (some (0, 0)) 7 1 (dayN.map Value.string))] (holds_ros rfl rfl ⟨hw.days, trivial⟩) ?_
  repeat' ((conv => whnf); first | refine walk (Tryz.ok ..) ?_ | (refine Cnd.mk (fun h => ?_) (fun h => ?_) <;> (first | exact cndT h (by (try dsimp only); omega) | exact cndF h (by (try dsimp only); omega) | (exfalso; simp at h; omega) | simp at h | skip)) | refine kp ?_ ?_ | refine tw ?_ ?_ | exact trivial | refine side ?_ | refine sideL ?_ | refine Or.inr ?_ | refine sat_drawH (Tryz.ok ..) (by kernel_rfl) ?_ | refine xi _ (And.intro rfl rfl) ?_ | refine xi _ (fun _ => And.intro rfl rfl) ?_ | refine xi _ rfl ?_)
  refine called_row 16 (fun v => v) (fun A cap => .o 16 A (pieces s).length cap) (fun A cap => rfl) (fun w' hh => split_any s hs (hw.at_ rfl rfl hh)) ?_
  intro A1 cap1
  have hlen := pieces_len s
  have hle := Lib.countB_le ⟨#[32]⟩ (by show 1 ≤ 1; omega) s.size s (Nat.le_refl _)
  have hdat := pieces_data s
  obtain ⟨q, hq⟩ : ∃ q, pieces s = q := ⟨_, rfl⟩
  have hwp := fun t h1 h2 => tx_pieces (s := s) (t := t) h1 h2
  rw [hq] at hlen hdat hwp ⊢
  by_cases h3 : q.length = 3
  · obtain ⟨x, y, c, rfl⟩ : ∃ x y c, q = [x, y, c] := by
      match q, h3 with
      | [x, y, c], _ => exact ⟨x, y, c, rfl⟩
    have hT : Tells s x y c := ⟨fun t h1 h2 => by
      have := hwp t h1 h2
      simp only [List.cons.injEq, and_true] at this
      exact this⟩
    have hsz : x.size ≤ s.size ∧ c.size ≤ s.size := by
      simp only [List.map_cons, List.map_nil] at hdat
      obtain ⟨e, _⟩ := cutAt_three hdat.symm
      have := congrArg List.length e
      rw [List.length_append, List.length_cons, List.length_append, List.length_cons] at this
      have e1 := ba_len x
      have e2 := ba_len c
      have e3 := ba_len s
      omega
    clear hq hwp hdat hlen h3
    repeat' ((conv => whnf); first | refine walk (Tryz.ok ..) ?_ | (refine Cnd.mk (fun h => ?_) (fun h => ?_) <;> (first | exact cndT h (by (try dsimp only); omega) | exact cndF h (by (try dsimp only); omega) | (exfalso; simp at h; omega) | simp at h | skip)) | refine kp ?_ ?_ | refine tw ?_ ?_ | exact trivial | refine side ?_ | refine sideL ?_ | refine Or.inr ?_ | refine sat_drawH (Tryz.ok ..) (by kernel_rfl) ?_ | refine xi _ (And.intro rfl rfl) ?_ | refine xi _ (fun _ => And.intro rfl rfl) ?_ | refine xi _ rfl ?_ | refine xi _ (fun _ => (rfl)) ?_ | refine xi _ (rfl) ?_)
    · have hbad := h
      repeat' ((conv => whnf); first | refine walk (Tryz.ok ..) ?_ | (refine Cnd.mk (fun h => ?_) (fun h => ?_) <;> (first | exact cndT h (by (try dsimp only); omega) | exact cndF h (by (try dsimp only); omega) | (exfalso; simp at h; omega) | simp at h | skip)) | refine kp ?_ ?_ | refine tw ?_ ?_ | exact trivial | refine side ?_ | refine sideL ?_ | refine Or.inr ?_ | refine sat_drawH (Tryz.ok ..) (by kernel_rfl) ?_ | refine xi _ (And.intro rfl rfl) ?_ | refine xi _ (fun _ => And.intro rfl rfl) ?_ | refine xi _ rfl ?_)
      refine done_pure rfl rfl (hT.not fun t g1 e1 _ e3 _ => ?_)
      have z1 := itB_len (tx_bd g1).1.1 (show t / 10080 ≤ 99999 by have := (tx_bd g1).1.2; omega)
      rw [← e1] at z1
      have z2 := clk_size (t % 10080 % 1440 / 60) (t % 10080 % 60)
      rw [← e3] at z2
      omega
    · have hgood := h
      have hx5 : x.size ≤ 5 := by omega
      have hc5 : c.size = 5 := by omega
      have hdb := dix_bd y
      repeat' ((conv => whnf); first | refine walk (Tryz.ok ..) ?_ | (refine Cnd.mk (fun h => ?_) (fun h => ?_) <;> (first | exact cndT h (by (try dsimp only); omega) | exact cndF h (by (try dsimp only); omega) | (exfalso; simp at h; omega) | simp at h | skip)) | refine kp ?_ ?_ | refine tw ?_ ?_ | exact trivial | refine side ?_ | refine sideL ?_ | refine Or.inr ?_ | refine sat_drawH (Tryz.ok ..) (by kernel_rfl) ?_ | refine xi _ (And.intro rfl rfl) ?_ | refine xi _ (fun _ => And.intro rfl rfl) ?_ | refine xi _ rfl ?_)
      have za := hx5
      have zb : (c.extract (0 : Int).toNat (2 : Int).toNat).size ≤ 2 := by
        rw [ByteArray.size_extract]
        omega
      have zc : (c.extract (3 : Int).toNat ((c.size : Int)).toNat).size ≤ 2 := by
        rw [ByteArray.size_extract, hc5]
        omega
      by_cases ha : ∃ v, Lib.atoiAll x.data.toList = .ok v
      · obtain ⟨v1, ha⟩ := ha
        have wa := atoi_small ha za
        refine called_pure (.t [.v (.int .i64 v1), .v .nilIface]) rfl (fun w' => atoi_good ha (by omega) w') ?_
        repeat' ((conv => whnf); first | refine walk (Tryz.ok ..) ?_ | (refine Cnd.mk (fun h => ?_) (fun h => ?_) <;> (first | exact cndT h (by (try dsimp only); omega) | exact cndF h (by (try dsimp only); omega) | (exfalso; simp at h; omega) | simp at h | skip)) | refine kp ?_ ?_ | refine tw ?_ ?_ | exact trivial | refine side ?_ | refine sideL ?_ | refine Or.inr ?_ | refine sat_drawH (Tryz.ok ..) (by kernel_rfl) ?_ | refine xi _ (And.intro rfl rfl) ?_ | refine xi _ (fun _ => And.intro rfl rfl) ?_ | refine xi _ rfl ?_)
        by_cases hb : ∃ v, Lib.atoiAll (c.extract (0 : Int).toNat (2 : Int).toNat).data.toList = .ok v
        · obtain ⟨v2, hb⟩ := hb
          have wb := atoi_small hb zb
          refine called_pure (.t [.v (.int .i64 v2), .v .nilIface]) rfl (fun w' => atoi_good hb (by omega) w') ?_
          repeat' ((conv => whnf); first | refine walk (Tryz.ok ..) ?_ | (refine Cnd.mk (fun h => ?_) (fun h => ?_) <;> (first | exact cndT h (by (try dsimp only); omega) | exact cndF h (by (try dsimp only); omega) | (exfalso; simp at h; omega) | simp at h | skip)) | refine kp ?_ ?_ | refine tw ?_ ?_ | exact trivial | refine side ?_ | refine sideL ?_ | refine Or.inr ?_ | refine sat_drawH (Tryz.ok ..) (by kernel_rfl) ?_ | refine xi _ (And.intro rfl rfl) ?_ | refine xi _ (fun _ => And.intro rfl rfl) ?_ | refine xi _ rfl ?_)
          by_cases hc : ∃ v, Lib.atoiAll (c.extract (3 : Int).toNat ((c.size : Int)).toNat).data.toList = .ok v
          · obtain ⟨v3, hc⟩ := hc
            have wc := atoi_small hc zc
            refine called_pure (.t [.v (.int .i64 v3), .v .nilIface]) rfl (fun w' => atoi_good hc (by omega) w') ?_
            repeat' ((conv => whnf); first | refine walk (Tryz.ok ..) ?_ | (refine Cnd.mk (fun h => ?_) (fun h => ?_) <;> (first | exact cndT h (by (try dsimp only); omega) | exact cndF h (by (try dsimp only); omega) | (exfalso; simp at h; omega) | simp at h | skip)) | refine kp ?_ ?_ | refine tw ?_ ?_ | exact trivial | refine side ?_ | refine sideL ?_ | refine Or.inr ?_ | refine sat_drawH (Tryz.ok ..) (by kernel_rfl) ?_ | refine xi _ (And.intro rfl rfl) ?_ | refine xi _ (fun _ => And.intro rfl rfl) ?_ | refine xi _ rfl ?_)
            refine calledQ_at (.v (.int .i64 (dixN y))) rfl (fun _ w' hh => index_any y w' (ro_of_ro hh (id := 2000000) rfl)) ?_
            repeat' ((conv => whnf); first | refine walk (Tryz.ok ..) ?_ | (refine Cnd.mk (fun h => ?_) (fun h => ?_) <;> (first | exact cndT h (by (try dsimp only); omega) | exact cndF h (by (try dsimp only); omega) | (exfalso; simp at h; omega) | simp at h | skip)) | refine kp ?_ ?_ | refine tw ?_ ?_ | exact trivial | refine side ?_ | refine sideL ?_ | refine Or.inr ?_ | refine sat_drawH (Tryz.ok ..) (by kernel_rfl) ?_ | refine xi _ (And.intro rfl rfl) ?_ | refine xi _ (fun _ => And.intro rfl rfl) ?_ | refine xi _ rfl ?_)
            · repeat' ((conv => whnf); first | refine walk (Tryz.ok ..) ?_ | (refine Cnd.mk (fun h => ?_) (fun h => ?_) <;> (first | exact cndT h (by (try dsimp only); omega) | exact cndF h (by (try dsimp only); omega) | (exfalso; simp at h; omega) | simp at h | skip)) | refine kp ?_ ?_ | refine tw ?_ ?_ | exact trivial | refine side ?_ | refine sideL ?_ | refine Or.inr ?_ | refine sat_drawH (Tryz.ok ..) (by kernel_rfl) ?_ | refine xi _ (And.intro rfl rfl) ?_ | refine xi _ (fun _ => And.intro rfl rfl) ?_ | refine xi _ rfl ?_)
              exact done_pure rfl rfl (hT.day (by omega))
            · have hpos := h
              repeat' ((conv => whnf); first | refine walk (Tryz.ok ..) ?_ | (refine Cnd.mk (fun h => ?_) (fun h => ?_) <;> (first | exact cndT h (by (try dsimp only); omega) | exact cndF h (by (try dsimp only); omega) | (exfalso; simp at h; omega) | simp at h | skip)) | refine kp ?_ ?_ | refine tw ?_ ?_ | exact trivial | refine side ?_ | refine sideL ?_ | refine Or.inr ?_ | refine sat_drawH (Tryz.ok ..) (by kernel_rfl) ?_ | refine xi _ (And.intro rfl rfl) ?_ | refine xi _ (fun _ => And.intro rfl rfl) ?_ | refine xi _ rfl ?_)
              refine called_at (.t [.v (.string (tvV (v1 * 10080 + dixN y * 1440 + v2 * 60 + v3))), .v (.int .i64 (tvE (v1 * 10080 + dixN y * 1440 + v2 * 60 + v3)))]) rfl (fun w' hh => text_any _ w' (hw.at_ rfl rfl hh)) ?_
              have hgo := fun g1 g2 => rd_good (s := s) (t := v1 * 10080 + dixN y * 1440 + v2 * 60 + v3) g1 g2
              have hno := fun g => hT.time (c1 := (c.extract (0 : Int).toNat (2 : Int).toNat)) (c2 := (c.extract (3 : Int).toNat ((c.size : Int)).toNat)) rfl (by rw [hc5]; rfl) ha hb hc g
              obtain ⟨tv, htv⟩ : ∃ tv, tv = tvV (v1 * 10080 + dixN y * 1440 + v2 * 60 + v3) := ⟨_, rfl⟩
              obtain ⟨te, hte⟩ : ∃ te, te = tvE (v1 * 10080 + dixN y * 1440 + v2 * 60 + v3) := ⟨_, rfl⟩
              rw [← htv, ← hte] at hgo hno ⊢
              repeat' ((conv => whnf); first | refine walk (Tryz.ok ..) ?_ | (refine Cnd.mk (fun h => ?_) (fun h => ?_) <;> (first | exact cndT h (by (try dsimp only); omega) | exact cndF h (by (try dsimp only); omega) | (exfalso; simp at h; omega) | simp at h | skip)) | refine kp ?_ ?_ | refine tw ?_ ?_ | exact trivial | refine side ?_ | refine sideL ?_ | refine Or.inr ?_ | refine sat_drawH (Tryz.ok ..) (by kernel_rfl) ?_ | refine xi _ (And.intro rfl rfl) ?_ | refine xi _ (fun _ => And.intro rfl rfl) ?_ | refine xi _ rfl ?_)
              · have hq := h
                refine done_pure rfl rfl (hno fun hc => ?_)
                rcases hq with hq | hq
                · exact hq hc.1
                · rw [hc.2] at hq
                  simp at hq
              · have hq := h
                exact done_pure rfl rfl (hgo hq.1 (by simpa using hq.2))
          · refine called_some (fun _ => True) badV (fun w' hh => atoi_bad (fun v e => hc ⟨v, e⟩) (by omega) (hw.at_ rfl rfl hh)) ?_
            intro Mc _
            repeat' ((conv => whnf); first | refine walk (Tryz.ok ..) ?_ | (refine Cnd.mk (fun h => ?_) (fun h => ?_) <;> (first | exact cndT h (by (try dsimp only); omega) | exact cndF h (by (try dsimp only); omega) | (exfalso; simp at h; omega) | simp at h | skip)) | refine kp ?_ ?_ | refine tw ?_ ?_ | exact trivial | refine side ?_ | refine sideL ?_ | refine Or.inr ?_ | refine sat_drawH (Tryz.ok ..) (by kernel_rfl) ?_ | refine xi _ (And.intro rfl rfl) ?_ | refine xi _ (fun _ => And.intro rfl rfl) ?_ | refine xi _ rfl ?_)
            refine calledQ_at (.v (.int .i64 (dixN y))) rfl (fun _ w' hh => index_any y w' (ro_of_ro hh (id := 2000000) rfl)) ?_
            repeat' ((conv => whnf); first | refine walk (Tryz.ok ..) ?_ | (refine Cnd.mk (fun h => ?_) (fun h => ?_) <;> (first | exact cndT h (by (try dsimp only); omega) | exact cndF h (by (try dsimp only); omega) | (exfalso; simp at h; omega) | simp at h | skip)) | refine kp ?_ ?_ | refine tw ?_ ?_ | exact trivial | refine side ?_ | refine sideL ?_ | refine Or.inr ?_ | refine sat_drawH (Tryz.ok ..) (by kernel_rfl) ?_ | refine xi _ (And.intro rfl rfl) ?_ | refine xi _ (fun _ => And.intro rfl rfl) ?_ | refine xi _ rfl ?_)
            exact done_pure rfl rfl (hT.minute (by rw [hc5]; rfl) (fun v e => hc ⟨v, e⟩))
        · refine called_some (fun _ => True) badV (fun w' hh => atoi_bad (fun v e => hb ⟨v, e⟩) (by omega) (hw.at_ rfl rfl hh)) ?_
          intro Mb _
          repeat' ((conv => whnf); first | refine walk (Tryz.ok ..) ?_ | (refine Cnd.mk (fun h => ?_) (fun h => ?_) <;> (first | exact cndT h (by (try dsimp only); omega) | exact cndF h (by (try dsimp only); omega) | (exfalso; simp at h; omega) | simp at h | skip)) | refine kp ?_ ?_ | refine tw ?_ ?_ | exact trivial | refine side ?_ | refine sideL ?_ | refine Or.inr ?_ | refine sat_drawH (Tryz.ok ..) (by kernel_rfl) ?_ | refine xi _ (And.intro rfl rfl) ?_ | refine xi _ (fun _ => And.intro rfl rfl) ?_ | refine xi _ rfl ?_)
          by_cases hc : ∃ v, Lib.atoiAll (c.extract (3 : Int).toNat ((c.size : Int)).toNat).data.toList = .ok v
          · obtain ⟨v3, hc⟩ := hc
            have wc := atoi_small hc zc
            refine called_pure (.t [.v (.int .i64 v3), .v .nilIface]) rfl (fun w' => atoi_good hc (by omega) w') ?_
            repeat' ((conv => whnf); first | refine walk (Tryz.ok ..) ?_ | (refine Cnd.mk (fun h => ?_) (fun h => ?_) <;> (first | exact cndT h (by (try dsimp only); omega) | exact cndF h (by (try dsimp only); omega) | (exfalso; simp at h; omega) | simp at h | skip)) | refine kp ?_ ?_ | refine tw ?_ ?_ | exact trivial | refine side ?_ | refine sideL ?_ | refine Or.inr ?_ | refine sat_drawH (Tryz.ok ..) (by kernel_rfl) ?_ | refine xi _ (And.intro rfl rfl) ?_ | refine xi _ (fun _ => And.intro rfl rfl) ?_ | refine xi _ rfl ?_)
            refine calledQ_at (.v (.int .i64 (dixN y))) rfl (fun _ w' hh => index_any y w' (ro_of_ro hh (id := 2000000) rfl)) ?_
            repeat' ((conv => whnf); first | refine walk (Tryz.ok ..) ?_ | (refine Cnd.mk (fun h => ?_) (fun h => ?_) <;> (first | exact cndT h (by (try dsimp only); omega) | exact cndF h (by (try dsimp only); omega) | (exfalso; simp at h; omega) | simp at h | skip)) | refine kp ?_ ?_ | refine tw ?_ ?_ | exact trivial | refine side ?_ | refine sideL ?_ | refine Or.inr ?_ | refine sat_drawH (Tryz.ok ..) (by kernel_rfl) ?_ | refine xi _ (And.intro rfl rfl) ?_ | refine xi _ (fun _ => And.intro rfl rfl) ?_ | refine xi _ rfl ?_)
            exact done_pure rfl rfl (hT.hour rfl (fun v e => hb ⟨v, e⟩))
          · refine called_some (fun _ => True) badV (fun w' hh => atoi_bad (fun v e => hc ⟨v, e⟩) (by omega) (hw.at_ rfl rfl hh)) ?_
            intro Mc _
            repeat' ((conv => whnf); first | refine walk (Tryz.ok ..) ?_ | (refine Cnd.mk (fun h => ?_) (fun h => ?_) <;> (first | exact cndT h (by (try dsimp only); omega) | exact cndF h (by (try dsimp only); omega) | (exfalso; simp at h; omega) | simp at h | skip)) | refine kp ?_ ?_ | refine tw ?_ ?_ | exact trivial | refine side ?_ | refine sideL ?_ | refine Or.inr ?_ | refine sat_drawH (Tryz.ok ..) (by kernel_rfl) ?_ | refine xi _ (And.intro rfl rfl) ?_ | refine xi _ (fun _ => And.intro rfl rfl) ?_ | refine xi _ rfl ?_)
            refine calledQ_at (.v (.int .i64 (dixN y))) rfl (fun _ w' hh => index_any y w' (ro_of_ro hh (id := 2000000) rfl)) ?_
            repeat' ((conv => whnf); first | refine walk (Tryz.ok ..) ?_ | (refine Cnd.mk (fun h => ?_) (fun h => ?_) <;> (first | exact cndT h (by (try dsimp only); omega) | exact cndF h (by (try dsimp only); omega) | (exfalso; simp at h; omega) | simp at h | skip)) | refine kp ?_ ?_ | refine tw ?_ ?_ | exact trivial | refine side ?_ | refine sideL ?_ | refine Or.inr ?_ | refine sat_drawH (Tryz.ok ..) (by kernel_rfl) ?_ | refine xi _ (And.intro rfl rfl) ?_ | refine xi _ (fun _ => And.intro rfl rfl) ?_ | refine xi _ rfl ?_)
            exact done_pure rfl rfl (hT.hour rfl (fun v e => hb ⟨v, e⟩))
      · refine called_some (fun _ => True) badV (fun w' hh => atoi_bad (fun v e => ha ⟨v, e⟩) (by omega) (hw.at_ rfl rfl hh)) ?_
        intro Ma _
        repeat' ((conv => whnf); first | refine walk (Tryz.ok ..) ?_ | (refine Cnd.mk (fun h => ?_) (fun h => ?_) <;> (first | exact cndT h (by (try dsimp only); omega) | exact cndF h (by (try dsimp only); omega) | (exfalso; simp at h; omega) | simp at h | skip)) | refine kp ?_ ?_ | refine tw ?_ ?_ | exact trivial | refine side ?_ | refine sideL ?_ | refine Or.inr ?_ | refine sat_drawH (Tryz.ok ..) (by kernel_rfl) ?_ | refine xi _ (And.intro rfl rfl) ?_ | refine xi _ (fun _ => And.intro rfl rfl) ?_ | refine xi _ rfl ?_)
        by_cases hb : ∃ v, Lib.atoiAll (c.extract (0 : Int).toNat (2 : Int).toNat).data.toList = .ok v
        · obtain ⟨v2, hb⟩ := hb
          have wb := atoi_small hb zb
          refine called_pure (.t [.v (.int .i64 v2), .v .nilIface]) rfl (fun w' => atoi_good hb (by omega) w') ?_
          repeat' ((conv => whnf); first | refine walk (Tryz.ok ..) ?_ | (refine Cnd.mk (fun h => ?_) (fun h => ?_) <;> (first | exact cndT h (by (try dsimp only); omega) | exact cndF h (by (try dsimp only); omega) | (exfalso; simp at h; omega) | simp at h | skip)) | refine kp ?_ ?_ | refine tw ?_ ?_ | exact trivial | refine side ?_ | refine sideL ?_ | refine Or.inr ?_ | refine sat_drawH (Tryz.ok ..) (by kernel_rfl) ?_ | refine xi _ (And.intro rfl rfl) ?_ | refine xi _ (fun _ => And.intro rfl rfl) ?_ | refine xi _ rfl ?_)
          by_cases hc : ∃ v, Lib.atoiAll (c.extract (3 : Int).toNat ((c.size : Int)).toNat).data.toList = .ok v
          · obtain ⟨v3, hc⟩ := hc
            have wc := atoi_small hc zc
            refine called_pure (.t [.v (.int .i64 v3), .v .nilIface]) rfl (fun w' => atoi_good hc (by omega) w') ?_
            repeat' ((conv => whnf); first | refine walk (Tryz.ok ..) ?_ | (refine Cnd.mk (fun h => ?_) (fun h => ?_) <;> (first | exact cndT h (by (try dsimp only); omega) | exact cndF h (by (try dsimp only); omega) | (exfalso; simp at h; omega) | simp at h | skip)) | refine kp ?_ ?_ | refine tw ?_ ?_ | exact trivial | refine side ?_ | refine sideL ?_ | refine Or.inr ?_ | refine sat_drawH (Tryz.ok ..) (by kernel_rfl) ?_ | refine xi _ (And.intro rfl rfl) ?_ | refine xi _ (fun _ => And.intro rfl rfl) ?_ | refine xi _ rfl ?_)
            refine calledQ_at (.v (.int .i64 (dixN y))) rfl (fun _ w' hh => index_any y w' (ro_of_ro hh (id := 2000000) rfl)) ?_
            repeat' ((conv => whnf); first | refine walk (Tryz.ok ..) ?_ | (refine Cnd.mk (fun h => ?_) (fun h => ?_) <;> (first | exact cndT h (by (try dsimp only); omega) | exact cndF h (by (try dsimp only); omega) | (exfalso; simp at h; omega) | simp at h | skip)) | refine kp ?_ ?_ | refine tw ?_ ?_ | exact trivial | refine side ?_ | refine sideL ?_ | refine Or.inr ?_ | refine sat_drawH (Tryz.ok ..) (by kernel_rfl) ?_ | refine xi _ (And.intro rfl rfl) ?_ | refine xi _ (fun _ => And.intro rfl rfl) ?_ | refine xi _ rfl ?_)
            exact done_pure rfl rfl (hT.week (fun v e => ha ⟨v, e⟩))
          · refine called_some (fun _ => True) badV (fun w' hh => atoi_bad (fun v e => hc ⟨v, e⟩) (by omega) (hw.at_ rfl rfl hh)) ?_
            intro Mc _
            repeat' ((conv => whnf); first | refine walk (Tryz.ok ..) ?_ | (refine Cnd.mk (fun h => ?_) (fun h => ?_) <;> (first | exact cndT h (by (try dsimp only); omega) | exact cndF h (by (try dsimp only); omega) | (exfalso; simp at h; omega) | simp at h | skip)) | refine kp ?_ ?_ | refine tw ?_ ?_ | exact trivial | refine side ?_ | refine sideL ?_ | refine Or.inr ?_ | refine sat_drawH (Tryz.ok ..) (by kernel_rfl) ?_ | refine xi _ (And.intro rfl rfl) ?_ | refine xi _ (fun _ => And.intro rfl rfl) ?_ | refine xi _ rfl ?_)
            refine calledQ_at (.v (.int .i64 (dixN y))) rfl (fun _ w' hh => index_any y w' (ro_of_ro hh (id := 2000000) rfl)) ?_
            repeat' ((conv => whnf); first | refine walk (Tryz.ok ..) ?_ | (refine Cnd.mk (fun h => ?_) (fun h => ?_) <;> (first | exact cndT h (by (try dsimp only); omega) | exact cndF h (by (try dsimp only); omega) | (exfalso; simp at h; omega) | simp at h | skip)) | refine kp ?_ ?_ | refine tw ?_ ?_ | exact trivial | refine side ?_ | refine sideL ?_ | refine Or.inr ?_ | refine sat_drawH (Tryz.ok ..) (by kernel_rfl) ?_ | refine xi _ (And.intro rfl rfl) ?_ | refine xi _ (fun _ => And.intro rfl rfl) ?_ | refine xi _ rfl ?_)
            exact done_pure rfl rfl (hT.week (fun v e => ha ⟨v, e⟩))
        · refine called_some (fun _ => True) badV (fun w' hh => atoi_bad (fun v e => hb ⟨v, e⟩) (by omega) (hw.at_ rfl rfl hh)) ?_
          intro Mb _
          repeat' ((conv => whnf); first | refine walk (Tryz.ok ..) ?_ | (refine Cnd.mk (fun h => ?_) (fun h => ?_) <;> (first | exact cndT h (by (try dsimp only); omega) | exact cndF h (by (try dsimp only); omega) | (exfalso; simp at h; omega) | simp at h | skip)) | refine kp ?_ ?_ | refine tw ?_ ?_ | exact trivial | refine side ?_ | refine sideL ?_ | refine Or.inr ?_ | refine sat_drawH (Tryz.ok ..) (by kernel_rfl) ?_ | refine xi _ (And.intro rfl rfl) ?_ | refine xi _ (fun _ => And.intro rfl rfl) ?_ | refine xi _ rfl ?_)
          by_cases hc : ∃ v, Lib.atoiAll (c.extract (3 : Int).toNat ((c.size : Int)).toNat).data.toList = .ok v
          · obtain ⟨v3, hc⟩ := hc
            have wc := atoi_small hc zc
            refine called_pure (.t [.v (.int .i64 v3), .v .nilIface]) rfl (fun w' => atoi_good hc (by omega) w') ?_
            repeat' ((conv => whnf); first | refine walk (Tryz.ok ..) ?_ | (refine Cnd.mk (fun h => ?_) (fun h => ?_) <;> (first | exact cndT h (by (try dsimp only); omega) | exact cndF h (by (try dsimp only); omega) | (exfalso; simp at h; omega) | simp at h | skip)) | refine kp ?_ ?_ | refine tw ?_ ?_ | exact trivial | refine side ?_ | refine sideL ?_ | refine Or.inr ?_ | refine sat_drawH (Tryz.ok ..) (by kernel_rfl) ?_ | refine xi _ (And.intro rfl rfl) ?_ | refine xi _ (fun _ => And.intro rfl rfl) ?_ | refine xi _ rfl ?_)
            refine calledQ_at (.v (.int .i64 (dixN y))) rfl (fun _ w' hh => index_any y w' (ro_of_ro hh (id := 2000000) rfl)) ?_
            repeat' ((conv => whnf); first | refine walk (Tryz.ok ..) ?_ | (refine Cnd.mk (fun h => ?_) (fun h => ?_) <;> (first | exact cndT h (by (try dsimp only); omega) | exact cndF h (by (try dsimp only); omega) | (exfalso; simp at h; omega) | simp at h | skip)) | refine kp ?_ ?_ | refine tw ?_ ?_ | exact trivial | refine side ?_ | refine sideL ?_ | refine Or.inr ?_ | refine sat_drawH (Tryz.ok ..) (by kernel_rfl) ?_ | refine xi _ (And.intro rfl rfl) ?_ | refine xi _ (fun _ => And.intro rfl rfl) ?_ | refine xi _ rfl ?_)
            exact done_pure rfl rfl (hT.week (fun v e => ha ⟨v, e⟩))
          · refine called_some (fun _ => True) badV (fun w' hh => atoi_bad (fun v e => hc ⟨v, e⟩) (by omega) (hw.at_ rfl rfl hh)) ?_
            intro Mc _
            repeat' ((conv => whnf); first | refine walk (Tryz.ok ..) ?_ | (refine Cnd.mk (fun h => ?_) (fun h => ?_) <;> (first | exact cndT h (by (try dsimp only); omega) | exact cndF h (by (try dsimp only); omega) | (exfalso; simp at h; omega) | simp at h | skip)) | refine kp ?_ ?_ | refine tw ?_ ?_ | exact trivial | refine side ?_ | refine sideL ?_ | refine Or.inr ?_ | refine sat_drawH (Tryz.ok ..) (by kernel_rfl) ?_ | refine xi _ (And.intro rfl rfl) ?_ | refine xi _ (fun _ => And.intro rfl rfl) ?_ | refine xi _ rfl ?_)
            refine calledQ_at (.v (.int .i64 (dixN y))) rfl (fun _ w' hh => index_any y w' (ro_of_ro hh (id := 2000000) rfl)) ?_
            repeat' ((conv => whnf); first | refine walk (Tryz.ok ..) ?_ | (refine Cnd.mk (fun h => ?_) (fun h => ?_) <;> (first | exact cndT h (by (try dsimp only); omega) | exact cndF h (by (try dsimp only); omega) | (exfalso; simp at h; omega) | simp at h | skip)) | refine kp ?_ ?_ | refine tw ?_ ?_ | exact trivial | refine side ?_ | refine sideL ?_ | refine Or.inr ?_ | refine sat_drawH (Tryz.ok ..) (by kernel_rfl) ?_ | refine xi _ (And.intro rfl rfl) ?_ | refine xi _ (fun _ => And.intro rfl rfl) ?_ | refine xi _ rfl ?_)
            exact done_pure rfl rfl (hT.week (fun v e => ha ⟨v, e⟩))
  · have hi3 : ((q.length : Int) != 3) = true := by
      rw [bne_iff_ne]
      omega
    repeat' ((conv => whnf); first | refine walk (Tryz.ok ..) ?_ | (refine Cnd.mk (fun h => ?_) (fun h => ?_) <;> (first | exact cndT h (by (try dsimp only); omega) | exact cndF h (by (try dsimp only); omega) | (exfalso; simp at h; omega) | simp at h | skip)) | refine kp ?_ ?_ | refine tw ?_ ?_ | exact trivial | refine side ?_ | refine sideL ?_ | refine Or.inr ?_ | refine sat_drawH (Tryz.ok ..) (by kernel_rfl) ?_ | refine xi _ (And.intro rfl rfl) ?_ | refine xi _ (fun _ => And.intro rfl rfl) ?_ | refine xi _ rfl ?_ | refine xi _ (fun _ => (no_str (by simp [hi3]))) ?_ | refine xi _ (no_str (by simp [hi3])) ?_)
    refine done_pure rfl rfl ?_
    obtain ⟨e1, e2⟩ := rd_no (s := s) fun t h1 h2 => h3 (by rw [hwp t h1 h2]; rfl)
    rw [e1, e2]
    rfl
end Go.Proofs.YtmhfkmnpeponiaaGreatDoor
