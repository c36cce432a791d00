/-
  The walks of Size and Code, the program's and the reference's.
-/
import Derived.Test.YtedpadjlkddgjaaDoorE
namespace Go.Proofs.YtedpadjlkddgjaaDoor
open Go.RowKit Go.PlainAid
/-- the table -/
def kc : Nat → ByteArray
  | 0 => ⟨#[50, 50, 71, 49]⟩ | 1 => ⟨#[50, 50, 82, 49]⟩ | 2 => ⟨#[52, 50, 71, 49]⟩ | 3 => ⟨#[52, 50, 82, 49]⟩ | 4 => ⟨#[52, 53, 71, 49]⟩ | 5 => ⟨#[52, 53, 82, 49]⟩ | _ => ⟨#[]⟩
def ksz : Nat → Int
  | 0 => 20 | 1 => 20 | 2 => 40 | 3 => 40 | 4 => 40 | 5 => 40 | _ => 0
def khi : Nat → Bool
  | 4 => true | 5 => true | _ => false
def krf : Nat → Bool
  | 1 => true | 3 => true | 5 => true | _ => false
def kE (k : Nat) : Int := if k < 6 then 0 else 32
/-- the first row from k on (of n that are left) with this code -/
def idxFrom (p : Nat → Bool) (k : Nat) : Nat → Nat
  | 0 => k
  | n + 1 => if p k then k else idxFrom p (k + 1) n
def idx (p : Nat → Bool) : Nat := idxFrom p 0 6
theorem idxFrom_skip (p : Nat → Bool) (n k : Nat) (h : p k = false) : idxFrom p k (n + 1) = idxFrom p (k + 1) n := by rw [idxFrom, h]; rfl
theorem idx_reach (p : Nat → Bool) (k : Nat) (hk : k ≤ 6) (h : ∀ j, j < k → p j = false) : idx p = idxFrom p k (6 - k) := by
  induction k with
  | zero => rfl
  | succ k ih =>
    rw [ih (by omega) (fun j hj => h j (by omega)), show 6 - k = (6 - (k + 1)) + 1 from by omega, idxFrom_skip _ _ _ (h k (by omega))]
theorem idx_at (p : Nat → Bool) (k : Nat) (hk : k < 6) (h : ∀ j, j < k → p j = false) (hp : p k = true) : idx p = k := by
  rw [idx_reach p k (by omega) h, show 6 - k = (6 - (k + 1)) + 1 from by omega, idxFrom, hp]; rfl
theorem idx_none (p : Nat → Bool) (h : ∀ j, j < 6 → p j = false) : idx p = 6 := by
  rw [idx_reach p 6 (by omega) h]; rfl
def isC (s : ByteArray) (k : Nat) : Bool := (kc k).toList == s.toList
def isK (z : Int) (h r : Bool) (k : Nat) : Bool := ksz k == z && khi k == h && krf k == r

/-- the table lies in memory -/
structure Kin (w : World) (b o c : Nat) : Prop where
  lt : b < w.heap.size
  lt0 : 0 < w.heap.size
  g : w.cell? ⟨0, 0, none⟩ = some (.slice (some ⟨b, o, none⟩) 6 c)
  c0 : ∀ k, k < 6 → w.cell? ⟨b, o + k * 4, none⟩ = some (.string (kc k))
  c1 : ∀ k, k < 6 → w.cell? ⟨b, o + k * 4 + 1, none⟩ = some (.int .u8 (ksz k))
  c2 : ∀ k, k < 6 → w.cell? ⟨b, o + k * 4 + 2, none⟩ = some (.bool (khi k))
  c3 : ∀ k, k < 6 → w.cell? ⟨b, o + k * 4 + 3, none⟩ = some (.bool (krf k))
theorem Kin.below {w w' : World} {b o c : Nat} (h : Kin w b o c) (hb : Below w.heap.size w w') : Kin w' b o c :=
  ⟨Nat.lt_of_lt_of_le h.lt hb.size, Nat.lt_of_lt_of_le h.lt0 hb.size, (hb.cell h.lt0).trans h.g, fun k hk => (hb.cell (by exact h.lt)).trans (h.c0 k hk), fun k hk => (hb.cell (by exact h.lt)).trans (h.c1 k hk), fun k hk => (hb.cell (by exact h.lt)).trans (h.c2 k hk), fun k hk => (hb.cell (by exact h.lt)).trans (h.c3 k hk)⟩

theorem three_set {wr : World} {g t : Nat} {a b c : Value} (hz : wr.heap[g]? = some (.cells #[a, b, c] t (0, 0))) (x y z : Value) :
    (((wr.setCell ⟨g, 0, none⟩ x).setCell ⟨g, 1, none⟩ y).setCell ⟨g, 2, none⟩ z).heap[g]? = some (.cells #[x, y, z] t (0, 0)) := by
  simp [World.setCell, Array.getElem?_modify, hz]
theorem three_cells {wr : World} {g t : Nat} {a b c : Value} (hz : wr.heap[g]? = some (.cells #[a, b, c] t (0, 0))) (x y z : Value) (o : Obj) (i : Nat) :
    ((((wr.setCell ⟨g, 0, none⟩ x).setCell ⟨g, 1, none⟩ y).setCell ⟨g, 2, none⟩ z).alloc o).cell? ⟨g, i, none⟩ = (#[x, y, z] : Array Value)[i]? := by
  have h := three_set hz x y z
  have hl := lt_of_block h
  exact cell_of_row _ g i _ t (0, 0) ((Below.heap_alloc _ o g hl).trans h)
theorem three_cells' {wr : World} {g t : Nat} {a b c : Value} (hz : wr.heap[g]? = some (.cells #[a, b, c] t (0, 0))) (x y z : Value) (i : Nat) :
    (((wr.setCell ⟨g, 0, none⟩ x).setCell ⟨g, 1, none⟩ y).setCell ⟨g, 2, none⟩ z).cell? ⟨g, i, none⟩ = (#[x, y, z] : Array Value)[i]? :=
  cell_of_row _ g i _ t (0, 0) (three_set hz x y z)
set_option maxHeartbeats 800000 in
theorem size_any (s : ByteArray) (w : World) (b o c : Nat) (hk : Kin w b o c) :
    Calls Tryd.prog 23 #[.string s] w fun e w' => e = .returned (.tuple #[.agg #[.int .u8 (ksz (idx (isC s))), .bool (khi (idx (isC s))), .bool (krf (idx (isC s)))], .int .i64 (kE (idx (isC s)))]) ∧ Below w.heap.size w w' := by
  have hg := hk.g
  have hl0 := hk.lt0
  go_enter Tryd.func23, Tryd.ntmps23
  go_wp2
  go_loopw [8] (fun i wr => ∃ k : Nat, k ≤ 6 ∧ i = .int .i64 k ∧ Hid (∀ j, j < k → isC s j = false) ∧ wr.heap[w.heap.size]? = some (.cells #[.int .u8 0, .bool false, .bool false] 46 (0, 0)) ∧ Below w.heap.size w wr) (fun i _ => 6 - (intOf i).toNat)
  case atStart => exact ⟨0, by omega, rfl, Lib.hid (fun j hj => by omega), heap_alloc_new w _, (Below.refl _ _).alloc (Nat.le_refl _) _⟩
  case round =>
    obtain ⟨k, hk6, rfl, hn, hz, hbel⟩ := hrel
    have hkr := hk.below hbel
    have hlt2 := lt_of_block hz
    have z0 : wr.cell? ⟨w.heap.size, 0, none⟩ = some (.int .u8 0) := by rw [cell_of_row wr _ 0 _ 46 (0, 0) hz]; rfl
    have z1 : wr.cell? ⟨w.heap.size, 1, none⟩ = some (.bool false) := by rw [cell_of_row wr _ 1 _ 46 (0, 0) hz]; rfl
    have z2 : wr.cell? ⟨w.heap.size, 2, none⟩ = some (.bool false) := by rw [cell_of_row wr _ 2 _ 46 (0, 0) hz]; rfl
    have zf : ∀ i, wr.frozen? ⟨w.heap.size, i, none⟩ = false := fun i => by simp [World.frozen?, hz]
    by_cases hlt : k < 6
    · have q0 := hkr.c0 k hlt
      have q1 := hkr.c1 k hlt
      have q2 := hkr.c2 k hlt
      have q3 := hkr.c3 k hlt
      cases hp : isC s k
      · have HS : Hid (∀ j, j < k + 1 → isC s j = false) := Lib.hid (fun j hj => by
          rcases Nat.lt_or_ge j k with h | h
          · exact hn.out j h
          · rw [show j = k from by omega]; exact hp)
        have e : ((kc k).toList == s.toList) = false := hp
        clear hp hn
        go_wp2
        go_roundw
        case rel => exact ⟨k + 1, by omega, by go_num, HS, (Below.heap_alloc _ _ _ hlt2).trans hz, hbel.alloc hbel.size _⟩
        case measure => simp [intOf]; omega
      · have HS := Lib.hid (idx_at (isC s) k hlt hn.out hp)
        have e : ((kc k).toList == s.toList) = true := hp
        clear hp hn
        go_wp2
        refine bodyPost_ret (v := .tuple #[.agg #[.int .u8 (ksz k), .bool (khi k), .bool (krf k)], .int .i64 0]) ?_ rfl ⟨?_, ?_⟩
        · simp [results, Tryd.results23, go_sem, three_cells hz]
        · rw [HS.out]; unfold kE; rw [if_pos hlt]
        · exact (((hbel.setCell (by simp) _).setCell (by simp) _).setCell (by simp) _).alloc (by have := hbel.size; simp; omega) _
    · obtain rfl : k = 6 := by omega
      have HS := Lib.hid (idx_none (isC s) hn.out)
      clear hn
      go_wp2
      refine bodyPost_ret (v := .tuple #[.agg #[.int .u8 0, .bool false, .bool false], .int .i64 32]) ?_ rfl ⟨?_, ?_⟩
      · simp [results, Tryd.results23, go_sem, three_cells' hz]
      · rw [HS.out]; rfl
      · exact (((hbel.setCell (by simp) _).setCell (by simp) _).setCell (by simp) _)
set_option maxHeartbeats 800000 in
theorem code_any (z : Int) (h r : Bool) (w : World) (b o c : Nat) (hk : Kin w b o c) :
    Calls Tryd.prog 22 #[.agg #[.int .u8 z, .bool h, .bool r]] w fun e w' => e = .returned (.tuple #[.string (kc (idx (isK z h r))), .int .i64 (kE (idx (isK z h r)))]) ∧ Below w.heap.size w w' := by
  have hg := hk.g
  have hl0 := hk.lt0
  go_enter Tryd.func22, Tryd.ntmps22
  go_wp2
  go_loopw [8] (fun i wr => ∃ k : Nat, k ≤ 6 ∧ i = .int .i64 k ∧ Hid (∀ j, j < k → isK z h r j = false) ∧ wr.heap[w.heap.size]? = some (.cells #[.int .u8 z, .bool h, .bool r] 46 (0, 0)) ∧ Below w.heap.size w wr) (fun i _ => 6 - (intOf i).toNat)
  case atStart => exact ⟨0, by omega, rfl, Lib.hid (fun j hj => by omega), heap_alloc_new w _, (Below.refl _ _).alloc (Nat.le_refl _) _⟩
  case round =>
    obtain ⟨k, hk6, rfl, hn, hz, hbel⟩ := hrel
    have hkr := hk.below hbel
    have hlt2 := lt_of_block hz
    have z0 : wr.cell? ⟨w.heap.size, 0, none⟩ = some (.int .u8 z) := by rw [cell_of_row wr _ 0 _ 46 (0, 0) hz]; rfl
    have z1 : wr.cell? ⟨w.heap.size, 1, none⟩ = some (.bool h) := by rw [cell_of_row wr _ 1 _ 46 (0, 0) hz]; rfl
    have z2 : wr.cell? ⟨w.heap.size, 2, none⟩ = some (.bool r) := by rw [cell_of_row wr _ 2 _ 46 (0, 0) hz]; rfl
    by_cases hlt : k < 6
    · have q0 := hkr.c0 k hlt
      have q1 := hkr.c1 k hlt
      have q2 := hkr.c2 k hlt
      have q3 := hkr.c3 k hlt
      go_wp2
      · have e1 : ksz k = z := by assumption
        have e2 : khi k = h := by assumption
        have e3 : krf k = r := by assumption
        have HS := idx_at (isK z h r) k hlt hn.out (by unfold isK; simp [e1, e2, e3])
        go_ret2
        exact ⟨ret_two (val_str (by rw [HS])) (val_int (by rw [HS]; unfold kE; rw [if_pos hlt])), hbel.alloc hbel.size _⟩
      all_goals
        have HS : Hid (∀ j, j < k + 1 → isK z h r j = false) := Lib.hid (fun j hj => by
          rcases Nat.lt_or_ge j k with hh | hh
          · exact hn.out j hh
          · rw [show j = k from by omega]
            unfold isK
            first
            | (have e : ¬ ksz k = z := (by assumption); simp [e])
            | (have e : ¬ khi k = h := (by assumption); simp [e])
            | (have e : ¬ krf k = r := (by assumption); simp [e]))
        go_roundw
        case rel => exact ⟨k + 1, by omega, by go_num, HS, (Below.heap_alloc _ _ _ hlt2).trans hz, hbel.alloc hbel.size _⟩
        case measure => simp [intOf]; omega
    · obtain rfl : k = 6 := by omega
      have HS := Lib.hid (idx_none (isK z h r) hn.out)
      clear hn
      go_wp2
      go_ret2
      exact ⟨ret_two (val_str (by rw [HS.out]; rfl)) (val_int (by rw [HS.out]; rfl)), hbel⟩

-- the reference
theorem toList_btl (a b : ByteArray) : (a.toList == b.toList) = (btl a == btl b) := by
  rw [Bool.eq_iff_iff, beq_iff_eq, beq_iff_eq]
  constructor
  · intro h
    rw [ByteArray.toList_eq, ByteArray.toList_eq] at h
    unfold btl; rw [h]
  · intro h; rw [btl_inj h]
theorem btl_two {s : ByteArray} (h : 2 ≤ s.size) : btl (s.extract 0 2) = [bt s 0, bt s 1] := by
  have hz : (s.extract 0 2).size = 2 := by rw [ByteArray.size_extract]; omega
  apply List.ext_getElem
  · rw [btl_length, hz]; rfl
  · intro i h1 h2
    have hi : i < 2 := by rw [btl_length, hz] at h1; exact h1
    have := btl_get (s.extract 0 2) i
    rw [bt_extract s 0 2 (by omega), Nat.zero_add, List.getD_eq_getElem?_getD, List.getElem?_eq_getElem h1] at this
    simp only [Option.getD_some] at this
    rw [this]
    match i, hi with
    | 0, _ => rfl
    | 1, _ => rfl
theorem btl_four {s : ByteArray} (hz : s.size = 4) : btl s = [bt s 0, bt s 1, bt s 2, bt s 3] := by
  apply List.ext_getElem
  · rw [btl_length, hz]; rfl
  · intro i h1 h2
    have hi : i < 4 := by rw [btl_length, hz] at h1; exact h1
    have := btl_get s i
    rw [List.getD_eq_getElem?_getD, List.getElem?_eq_getElem h1] at this
    simp only [Option.getD_some] at this
    rw [this]
    match i, hi with
    | 0, _ => rfl
    | 1, _ => rfl
    | 2, _ => rfl
    | 3, _ => rfl
theorem isC_size {s : ByteArray} (h : s.size ≠ 4) {k : Nat} (hk : k < 6) : isC s k = false := by
  unfold isC
  rw [toList_btl, beq_eq_false_iff_ne]
  intro e
  have := congrArg List.length e
  rw [btl_length, btl_length] at this
  match k, hk with
  | 0, _ => exact h this.symm
  | 1, _ => exact h this.symm
  | 2, _ => exact h this.symm
  | 3, _ => exact h this.symm
  | 4, _ => exact h this.symm
  | 5, _ => exact h this.symm
def kb : Nat → List Int
  | 0 => [50, 50, 71, 49] | 1 => [50, 50, 82, 49] | 2 => [52, 50, 71, 49] | 3 => [52, 50, 82, 49] | 4 => [52, 53, 71, 49] | _ => [52, 53, 82, 49]
theorem isC_four {s : ByteArray} (hz : s.size = 4) {k : Nat} (hk : k < 6) : isC s k = (kb k == [bt s 0, bt s 1, bt s 2, bt s 3]) := by
  unfold isC
  rw [toList_btl, btl_four hz]
  congr 1
  match k, hk with
  | 0, _ => rfl
  | 1, _ => rfl
  | 2, _ => rfl
  | 3, _ => rfl
  | 4, _ => rfl
  | 5, _ => rfl
theorem idx_four {s : ByteArray} (hz : s.size = 4) : idx (isC s) = idx (fun k => kb k == [bt s 0, bt s 1, bt s 2, bt s 3]) := by
  have : ∀ n k, k + n ≤ 6 → idxFrom (isC s) k n = idxFrom (fun k => kb k == [bt s 0, bt s 1, bt s 2, bt s 3]) k n := by
    intro n
    induction n with
    | zero => intro k _; rfl
    | succ n ih => intro k hk; simp only [idxFrom, isC_four hz (show k < 6 by omega), ih (k + 1) (by omega)]
  exact this 6 0 (by omega)
def tab (b0 b1 b2 b3 : Int) : Nat := if b3 = 49 then (if b0 = 50 ∧ b1 = 50 then (if b2 = 71 then 0 else if b2 = 82 then 1 else 6) else if b0 = 52 ∧ b1 = 50 then (if b2 = 71 then 2 else if b2 = 82 then 3 else 6) else if b0 = 52 ∧ b1 = 53 then (if b2 = 71 then 4 else if b2 = 82 then 5 else 6) else 6) else 6
theorem tab_eq (b0 b1 b2 b3 : Int) : idx (fun k => kb k == [b0, b1, b2, b3]) = tab b0 b1 b2 b3 := by
  unfold idx tab
  simp only [idxFrom, kb, beq_iff_eq, List.cons.injEq, and_true]
  repeat' split
  all_goals first | rfl | omega
theorem two_eq {s : ByteArray} (h : 2 ≤ s.size) (x y : UInt8) : ((s.extract 0 2).toList == [x, y]) = (bt s 0 == (x.toNat : Int) && bt s 1 == (y.toNat : Int)) := by
  have : ([x, y] : List UInt8) = (⟨#[x, y]⟩ : ByteArray).toList := by rw [ByteArray.toList_eq]
  rw [this, toList_btl, btl_two h]
  unfold btl
  rw [Bool.eq_iff_iff]
  simp

set_option maxHeartbeats 1600000 in
theorem rsize_any (s : ByteArray) (w : World) (_hs : s.size ≤ maxLen) :
    Calls Tryd.prog 31 #[.string s] w fun e w' => e = .returned (.tuple #[.agg #[.int .u8 (ksz (idx (isC s))), .bool (khi (idx (isC s))), .bool (krf (idx (isC s)))], .int .i64 (kE (idx (isC s)))]) ∧ Below w.heap.size w w' := by
  have hb := get_bt s
  by_cases hz : s.size = 4
  · have e4 : ((s.size : Int) != 4) = false := by simp; omega
    have g2 : (2 : Int) ≤ (s.size : Int) := by omega
    have g4 : 3 < s.size := by omega
    have p1 := two_eq (s := s) (by omega) 50 50
    have p2 := two_eq (s := s) (by omega) 52 50
    have p3 := two_eq (s := s) (by omega) 52 53
    have HK := (idx_four hz).trans (tab_eq _ _ _ _)
    by_cases c3 : bt s 3 = 49
    · have e3 : (bt s 3 != 49) = false := by simp [c3]
      have hc2 : bt s 2 = 71 ∨ bt s 2 = 82 ∨ (bt s 2 ≠ 71 ∧ bt s 2 ≠ 82) := by omega
      have hc01 : (bt s 0 = 50 ∧ bt s 1 = 50) ∨ (bt s 0 = 52 ∧ bt s 1 = 50) ∨ (bt s 0 = 52 ∧ bt s 1 = 53) ∨ (¬ (bt s 0 = 50 ∧ bt s 1 = 50) ∧ ¬ (bt s 0 = 52 ∧ bt s 1 = 50) ∧ ¬ (bt s 0 = 52 ∧ bt s 1 = 53)) := by omega
      rcases hc2 with c2 | c2 | ⟨c2, c2'⟩
      · have e71 : (bt s 2 != 71) = false := by simp [c2]
        have e82 : (bt s 2 != 82) = true := by simp [c2]
        have e82' : (bt s 2 == 82) = false := by simp [c2]
        rcases hc01 with ⟨c0, c1⟩ | ⟨c0, c1⟩ | ⟨c0, c1⟩ | ⟨d1, d2, d3⟩
        · have HI := Lib.hid (show idx (isC s) = 0 by rw [HK, c0, c1, c2, c3]; rfl)
          have q1 : ((s.extract 0 2).toList == [50, 50]) = true := by rw [p1, c0, c1]; rfl
          have q2 : ((s.extract 0 2).toList == [52, 50]) = false := by rw [p2, c0, c1]; rfl
          have q3 : ((s.extract 0 2).toList == [52, 53]) = false := by rw [p3, c0, c1]; rfl
          have e53 : (bt s 1 == 53) = false := by simp [c1]
          clear c0 c1 c2 c3 p1 p2 p3 HK
          go_enter Tryd.func31, Tryd.ntmps31
          go_wp2
          refine bodyPost_ret (v := .tuple #[.agg #[.int .u8 20, .bool false, .bool false], .int .i64 0]) ?_ rfl ⟨?_, ?_⟩
          · simp [results, Tryd.results31, go_sem]
          · rw [HI.out]; rfl
          · go_grown
        · have HI := Lib.hid (show idx (isC s) = 2 by rw [HK, c0, c1, c2, c3]; rfl)
          have q1 : ((s.extract 0 2).toList == [50, 50]) = false := by rw [p1, c0, c1]; rfl
          have q2 : ((s.extract 0 2).toList == [52, 50]) = true := by rw [p2, c0, c1]; rfl
          have q3 : ((s.extract 0 2).toList == [52, 53]) = false := by rw [p3, c0, c1]; rfl
          have e53 : (bt s 1 == 53) = false := by simp [c1]
          clear c0 c1 c2 c3 p1 p2 p3 HK
          go_enter Tryd.func31, Tryd.ntmps31
          go_wp2
          refine bodyPost_ret (v := .tuple #[.agg #[.int .u8 40, .bool false, .bool false], .int .i64 0]) ?_ rfl ⟨?_, ?_⟩
          · simp [results, Tryd.results31, go_sem]
          · rw [HI.out]; rfl
          · go_grown
        · have HI := Lib.hid (show idx (isC s) = 4 by rw [HK, c0, c1, c2, c3]; rfl)
          have q1 : ((s.extract 0 2).toList == [50, 50]) = false := by rw [p1, c0, c1]; rfl
          have q2 : ((s.extract 0 2).toList == [52, 50]) = false := by rw [p2, c0, c1]; rfl
          have q3 : ((s.extract 0 2).toList == [52, 53]) = true := by rw [p3, c0, c1]; rfl
          have e53 : (bt s 1 == 53) = true := by simp [c1]
          clear c0 c1 c2 c3 p1 p2 p3 HK
          go_enter Tryd.func31, Tryd.ntmps31
          go_wp2
          refine bodyPost_ret (v := .tuple #[.agg #[.int .u8 40, .bool true, .bool false], .int .i64 0]) ?_ rfl ⟨?_, ?_⟩
          · simp [results, Tryd.results31, go_sem]
          · rw [HI.out]; rfl
          · go_grown
        · have HI := Lib.hid (show idx (isC s) = 6 by rw [HK]; unfold tab; rw [if_pos c3, if_neg d1, if_neg d2, if_neg d3])
          have q1 : ((s.extract 0 2).toList == [50, 50]) = false := by rw [p1, Bool.eq_false_iff]; intro h; simp at h; exact d1 h
          have q2 : ((s.extract 0 2).toList == [52, 50]) = false := by rw [p2, Bool.eq_false_iff]; intro h; simp at h; exact d2 h
          have q3 : ((s.extract 0 2).toList == [52, 53]) = false := by rw [p3, Bool.eq_false_iff]; intro h; simp at h; exact d3 h
          clear c2 c3 p1 p2 p3 HK d1 d2 d3
          go_enter Tryd.func31, Tryd.ntmps31
          go_wp2
          refine bodyPost_ret (v := .tuple #[.agg #[.int .u8 0, .bool false, .bool false], .int .i64 32]) ?_ rfl ⟨?_, ?_⟩
          · simp [results, Tryd.results31, go_sem]
          · rw [HI.out]; rfl
          · go_grown
      · have e71 : (bt s 2 != 71) = true := by simp [c2]
        have e82 : (bt s 2 != 82) = false := by simp [c2]
        have e82' : (bt s 2 == 82) = true := by simp [c2]
        rcases hc01 with ⟨c0, c1⟩ | ⟨c0, c1⟩ | ⟨c0, c1⟩ | ⟨d1, d2, d3⟩
        · have HI := Lib.hid (show idx (isC s) = 1 by rw [HK, c0, c1, c2, c3]; rfl)
          have q1 : ((s.extract 0 2).toList == [50, 50]) = true := by rw [p1, c0, c1]; rfl
          have q2 : ((s.extract 0 2).toList == [52, 50]) = false := by rw [p2, c0, c1]; rfl
          have q3 : ((s.extract 0 2).toList == [52, 53]) = false := by rw [p3, c0, c1]; rfl
          have e53 : (bt s 1 == 53) = false := by simp [c1]
          clear c0 c1 c2 c3 p1 p2 p3 HK
          go_enter Tryd.func31, Tryd.ntmps31
          go_wp2
          refine bodyPost_ret (v := .tuple #[.agg #[.int .u8 20, .bool false, .bool true], .int .i64 0]) ?_ rfl ⟨?_, ?_⟩
          · simp [results, Tryd.results31, go_sem]
          · rw [HI.out]; rfl
          · go_grown
        · have HI := Lib.hid (show idx (isC s) = 3 by rw [HK, c0, c1, c2, c3]; rfl)
          have q1 : ((s.extract 0 2).toList == [50, 50]) = false := by rw [p1, c0, c1]; rfl
          have q2 : ((s.extract 0 2).toList == [52, 50]) = true := by rw [p2, c0, c1]; rfl
          have q3 : ((s.extract 0 2).toList == [52, 53]) = false := by rw [p3, c0, c1]; rfl
          have e53 : (bt s 1 == 53) = false := by simp [c1]
          clear c0 c1 c2 c3 p1 p2 p3 HK
          go_enter Tryd.func31, Tryd.ntmps31
          go_wp2
          refine bodyPost_ret (v := .tuple #[.agg #[.int .u8 40, .bool false, .bool true], .int .i64 0]) ?_ rfl ⟨?_, ?_⟩
          · simp [results, Tryd.results31, go_sem]
          · rw [HI.out]; rfl
          · go_grown
        · have HI := Lib.hid (show idx (isC s) = 5 by rw [HK, c0, c1, c2, c3]; rfl)
          have q1 : ((s.extract 0 2).toList == [50, 50]) = false := by rw [p1, c0, c1]; rfl
          have q2 : ((s.extract 0 2).toList == [52, 50]) = false := by rw [p2, c0, c1]; rfl
          have q3 : ((s.extract 0 2).toList == [52, 53]) = true := by rw [p3, c0, c1]; rfl
          have e53 : (bt s 1 == 53) = true := by simp [c1]
          clear c0 c1 c2 c3 p1 p2 p3 HK
          go_enter Tryd.func31, Tryd.ntmps31
          go_wp2
          refine bodyPost_ret (v := .tuple #[.agg #[.int .u8 40, .bool true, .bool true], .int .i64 0]) ?_ rfl ⟨?_, ?_⟩
          · simp [results, Tryd.results31, go_sem]
          · rw [HI.out]; rfl
          · go_grown
        · have HI := Lib.hid (show idx (isC s) = 6 by rw [HK]; unfold tab; rw [if_pos c3, if_neg d1, if_neg d2, if_neg d3])
          have q1 : ((s.extract 0 2).toList == [50, 50]) = false := by rw [p1, Bool.eq_false_iff]; intro h; simp at h; exact d1 h
          have q2 : ((s.extract 0 2).toList == [52, 50]) = false := by rw [p2, Bool.eq_false_iff]; intro h; simp at h; exact d2 h
          have q3 : ((s.extract 0 2).toList == [52, 53]) = false := by rw [p3, Bool.eq_false_iff]; intro h; simp at h; exact d3 h
          clear c2 c3 p1 p2 p3 HK d1 d2 d3
          go_enter Tryd.func31, Tryd.ntmps31
          go_wp2
          refine bodyPost_ret (v := .tuple #[.agg #[.int .u8 0, .bool false, .bool false], .int .i64 32]) ?_ rfl ⟨?_, ?_⟩
          · simp [results, Tryd.results31, go_sem]
          · rw [HI.out]; rfl
          · go_grown
      · have e71 : (bt s 2 != 71) = true := by simp [c2]
        have e82 : (bt s 2 != 82) = true := by simp [c2']
        have HI := Lib.hid (show idx (isC s) = 6 by rw [HK]; unfold tab; rw [if_pos c3]; simp [c2, c2'])
        clear c2 c2' c3 p1 p2 p3 HK hc01
        go_enter Tryd.func31, Tryd.ntmps31
        go_wp2
        refine bodyPost_ret (v := .tuple #[.agg #[.int .u8 0, .bool false, .bool false], .int .i64 32]) ?_ rfl ⟨?_, ?_⟩
        · simp [results, Tryd.results31, go_sem]
        · rw [HI.out]; rfl
        · go_grown
    · have e3 : (bt s 3 != 49) = true := by simp [c3]
      have HI := Lib.hid (show idx (isC s) = 6 by rw [HK]; unfold tab; rw [if_neg c3])
      clear c3 p1 p2 p3 HK
      go_enter Tryd.func31, Tryd.ntmps31
      go_wp2
      refine bodyPost_ret (v := .tuple #[.agg #[.int .u8 0, .bool false, .bool false], .int .i64 32]) ?_ rfl ⟨?_, ?_⟩
      · simp [results, Tryd.results31, go_sem]
      · rw [HI.out]; rfl
      · go_grown
  · have e4 : ((s.size : Int) != 4) = true := by simp; omega
    have HI := Lib.hid (idx_none (isC s) (fun j hj => isC_size hz hj))
    go_enter Tryd.func31, Tryd.ntmps31
    go_wp2
    refine bodyPost_ret (v := .tuple #[.agg #[.int .u8 0, .bool false, .bool false], .int .i64 32]) ?_ rfl ⟨?_, ?_⟩
    · simp [results, Tryd.results31, go_sem]
    · rw [HI.out]; rfl
    · go_grown
end Go.Proofs.YtedpadjlkddgjaaDoor
