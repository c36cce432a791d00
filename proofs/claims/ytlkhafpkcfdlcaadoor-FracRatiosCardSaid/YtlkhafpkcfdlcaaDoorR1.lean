/-
  The walks of the reference's numbers (lists of digits to the base 65536): zeros cut off, digits of 64 bits, comparison.
-/
import Derived.Test.YtlkhafpkcfdlcaaDoorRP
import Derived.Test.YtlkhafpkcfdlcaaDoorTab
namespace Go.Proofs.YtlkhafpkcfdlcaaDoor
open Go Sat Go.RowKit Go.PlainAid
set_option linter.unusedSimpArgs false
set_option linter.unusedVariables false
def iv (l : List Nat) : List Value := l.map fun (a : Nat) => Value.int .i64 (a : Int)
theorem iv_len (l : List Nat) : (iv l).length = l.length := List.length_map ..
theorem iv_get {l : List Nat} {k a : Nat} (h : l[k]? = some a) : (iv l)[k]? = some (.int .i64 a) := by simp [iv, h]
theorem i_at {l : List Nat} {i : Int} {k a : Nat} (h : l[k]? = some a) (hi : i = k) : (iv l)[mulS i.toNat 1]? = some (.int .i64 a) := by
  rw [mulS_eq, hi, Int.toNat_natCast, Nat.mul_one]
  exact iv_get h
theorem no_i {b : Bool} {xs : List Value} {i : Nat} (hb : b = false) : b = true → xs[i]? = some (.int .i64 0) := fun h => by rw [hb] at h; cases h
theorem iv_set (l : List Nat) (k a : Nat) : (iv l).set k (.int .i64 (a : Int)) = iv (l.set k a) := by simp [iv, List.map_set]
theorem iv_app (a b : List Nat) : iv (a ++ b) = iv a ++ iv b := List.map_append ..
theorem iv_take (l : List Nat) (k : Nat) : (iv l).take k = iv (l.take k) := by simp [iv, List.map_take]
theorem iv_drop (l : List Nat) (k : Nat) : (iv l).drop k = iv (l.drop k) := by simp [iv, List.map_drop]
theorem iv_all (l : List Nat) : allV (iv l) = true := allV_of fun u hu => by
  simp only [iv, List.mem_map] at hu
  obtain ⟨a, _, rfl⟩ := hu
  rfl
theorem iv_at {l : List Nat} {k : Nat} (h : k < l.length) : ∃ a, l[k]? = some a := ⟨_, List.getElem?_eq_getElem h⟩
theorem trim_take6 (l : List Nat) : trimL l = l.take (trimL l).length := by
  induction l with
  | nil => rfl
  | cons a l ih =>
    rw [trimL]
    cases h : trimL l with
    | nil =>
      dsimp only
      split <;> simp
    | cons b r =>
      rw [h] at ih
      dsimp only
      rw [List.length_cons, List.take_succ_cons, ← ih]
set_option maxRecDepth 100000 in
set_option maxHeartbeats 8000000 in
theorem rtrim_any (l : List Nat) (A : Option (Nat × Nat)) (cap : Nat) (w : World) (hro : Ro w A l.length 1 (iv l)) (hl : l.length ≤ 4611686018427387903) (hc : l.length ≤ cap) :
    Calls Tryd.prog 98 #[.slice (adr A) l.length cap] w fun e w' => e = .returned (.slice (adr A) (trimL l).length cap) ∧ Below w.heap.size w w' := by
  refine calls_sat (cx := Tryd.cx 21 [] [] [] w) (Tryd.ok ..) Tryd.func98 rfl [.o 100 A l.length cap] rfl (by show 1 ≤ 21; omega) [(100, .ro A l.length 1 (iv l))] (holds_ros rfl rfl ⟨hro, trivial⟩) ?_
  repeat' ((conv => whnf); first | refine walk (Tryd.ok ..) ?_ | (refine Cnd.mk (fun h => ?_) (fun h => ?_) <;> (first | exact cndT h (by omega) | exact cndF h (by omega) | (exfalso; simp only [decide_eq_true_eq, decide_eq_false_iff_not] at h; omega) | (exfalso; simp at h; omega) | simp at h | skip)) | refine And.intro (Kept.mk ?_) ?_ | refine Two.mk (And.intro ?_ ?_) | exact trivial | refine side2 ?_ | refine sideL2 ?_ | refine Or.inr ?_ | refine sat_drawH (Tryd.ok ..) (by kernel_rfl) ?_ | refine Exists.intro [_] (And.intro (one_byte rfl) ?_) | refine Exists.intro [_] (And.intro (fun _ => one_byte rfl) ?_) | refine Exists.intro _ (And.intro (And.intro rfl rfl) ?_) | refine Exists.intro _ (And.intro (fun _ => And.intro rfl rfl) ?_) | refine Exists.intro _ (And.intro rfl ?_))
  refine sat_loop (Tryd.ok ..) (α := Nat) (fun k => ([(0, .yes, .o 100 A k cap)], [(100, .ro A l.length 1 (iv l))])) (fun k => k ≤ l.length ∧ trimL (l.take k) = trimL l) (fun k => k) (fun _ => rfl) ?_ ?_
  · refine ⟨l.length, ⟨Nat.le_refl _, by rw [List.take_length]⟩, ?_, ?_, rfl⟩
    all_goals ((repeat' (first | exact trivial | exact rfl | refine And.intro ?_ ?_)) <;> (try (conv => whnf)) <;> (try simp only [SV.real, SV.r2, SV.r1]))
  rintro k ⟨hk, ht⟩
  by_cases h0 : k = 0
  · subst h0
    have h1 : (trimL l).length = 0 := by rw [← ht]; rfl
    rw [h1]
    repeat' ((conv => whnf); first | refine walk (Tryd.ok ..) ?_ | (refine Cnd.mk (fun h => ?_) (fun h => ?_) <;> (first | exact cndT h (by omega) | exact cndF h (by omega) | (exfalso; simp only [decide_eq_true_eq, decide_eq_false_iff_not] at h; omega) | (exfalso; simp at h; omega) | simp at h | skip)) | refine And.intro (Kept.mk ?_) ?_ | refine Two.mk (And.intro ?_ ?_) | exact trivial | refine side2 ?_ | refine sideL2 ?_ | refine Or.inr ?_ | refine sat_drawH (Tryd.ok ..) (by kernel_rfl) ?_ | refine Exists.intro [_] (And.intro (one_byte rfl) ?_) | refine Exists.intro [_] (And.intro (fun _ => one_byte rfl) ?_) | refine Exists.intro _ (And.intro (And.intro rfl rfl) ?_) | refine Exists.intro _ (And.intro (fun _ => And.intro rfl rfl) ?_) | refine Exists.intro _ (And.intro rfl ?_) | refine Exists.intro _ (And.intro (fun _ => (no_i (by simp))) ?_) | refine Exists.intro _ (And.intro (no_i (by simp)) ?_))
    exact done_pure rfl rfl rfl
  obtain ⟨j, rfl⟩ : ∃ j, k = j + 1 := ⟨k - 1, by omega⟩
  obtain ⟨a, ha⟩ := iv_at (l := l) (k := j) (by omega)
  by_cases h2 : a = 0
  · subst h2
    rw [trim_step ha] at ht
    repeat' ((conv => whnf); first | refine walk (Tryd.ok ..) ?_ | (refine Cnd.mk (fun h => ?_) (fun h => ?_) <;> (first | exact cndT h (by omega) | exact cndF h (by omega) | (exfalso; simp only [decide_eq_true_eq, decide_eq_false_iff_not] at h; omega) | (exfalso; simp at h; omega) | simp at h | skip)) | refine And.intro (Kept.mk ?_) ?_ | refine Two.mk (And.intro ?_ ?_) | exact trivial | refine side2 ?_ | refine sideL2 ?_ | refine Or.inr ?_ | refine sat_drawH (Tryd.ok ..) (by kernel_rfl) ?_ | refine Exists.intro [_] (And.intro (one_byte rfl) ?_) | refine Exists.intro [_] (And.intro (fun _ => one_byte rfl) ?_) | refine Exists.intro _ (And.intro (And.intro rfl rfl) ?_) | refine Exists.intro _ (And.intro (fun _ => And.intro rfl rfl) ?_) | refine Exists.intro _ (And.intro rfl ?_) | refine Exists.intro _ (And.intro (fun _ => (i_at ha (by omega))) ?_) | refine Exists.intro _ (And.intro (i_at ha (by omega)) ?_))
    have e : (((j + 1 : Nat) : Int) - 1).toNat = j := by omega
    rw [e]
    refine ⟨j, ⟨⟨by omega, ht⟩, by omega⟩, ?_, ?_, rfl⟩
    all_goals ((repeat' (first | exact trivial | exact rfl | refine And.intro ?_ ?_)) <;> (try (conv => whnf)) <;> (try simp only [SV.real, SV.r2, SV.r1]))
  · rw [trim_stop ha h2] at ht
    repeat' ((conv => whnf); first | refine walk (Tryd.ok ..) ?_ | (refine Cnd.mk (fun h => ?_) (fun h => ?_) <;> (first | exact cndT h (by omega) | exact cndF h (by omega) | (exfalso; simp only [decide_eq_true_eq, decide_eq_false_iff_not] at h; omega) | (exfalso; simp at h; omega) | simp at h | skip)) | refine And.intro (Kept.mk ?_) ?_ | refine Two.mk (And.intro ?_ ?_) | exact trivial | refine side2 ?_ | refine sideL2 ?_ | refine Or.inr ?_ | refine sat_drawH (Tryd.ok ..) (by kernel_rfl) ?_ | refine Exists.intro [_] (And.intro (one_byte rfl) ?_) | refine Exists.intro [_] (And.intro (fun _ => one_byte rfl) ?_) | refine Exists.intro _ (And.intro (And.intro rfl rfl) ?_) | refine Exists.intro _ (And.intro (fun _ => And.intro rfl rfl) ?_) | refine Exists.intro _ (And.intro rfl ?_) | refine Exists.intro _ (And.intro (fun _ => (i_at ha (by omega))) ?_) | refine Exists.intro _ (And.intro (i_at ha (by omega)) ?_))
    have e : (trimL l).length = j + 1 := by
      rw [← ht, List.length_take]; omega
    (conv => whnf)
    exact done_pure rfl rfl (by rw [e]; rfl)
theorem row_cap6 {cx : Cx} {H : Heap} {w : World} (hw : Holds cx H w) {id : Nat} {A : Option (Nat × Nat)} {e size n cap : Nat} {xs : List Value} (h : hfind H id = some (.row A e size n cap xs)) : n ≤ cap := by
  have hr : w.ownsRow cx.n0 e size (.slice (adr A) n cap) n xs := hw.at_ h
  rcases hr.2 with ⟨hv, hn⟩ | ⟨g, cap', cur, hv, _, _, hc, _⟩
  · omega
  · injection hv with _ _ hc'
    omega
set_option maxRecDepth 100000 in
set_option maxHeartbeats 8000000 in
theorem whole_any (n : Nat) (w : World) (hn : n < 18446744073709551616) :
    Calls Tryd.prog 79 #[.int .u64 n] w fun e w' => ∃ v, e = .returned v ∧ w'.ownsRow w.heap.size 3 1 v (dg b6 n).length (iv (dg b6 n)) ∧ Below w.heap.size w w' := by
  have hl : (dg b6 n).length ≤ 4 := (dg_len b6_2 4 n).2 (Nat.lt_of_lt_of_le hn (by decide))
  refine calls_sat (cx := Tryd.cx 15 [] [] [] w) (Tryd.ok ..) Tryd.func79 rfl [.v (.int .u64 n)] rfl (by show 1 ≤ 15; omega) [] (holds_nil (Nat.le_refl _)) ?_
  repeat' ((conv => whnf); first | refine walk (Tryd.ok ..) ?_ | (refine Cnd.mk (fun h => ?_) (fun h => ?_) <;> (first | exact cndT h (by omega) | exact cndF h (by omega) | (exfalso; simp only [decide_eq_true_eq, decide_eq_false_iff_not] at h; omega) | (exfalso; simp at h; omega) | simp at h | skip)) | refine And.intro (Kept.mk ?_) ?_ | refine Two.mk (And.intro ?_ ?_) | exact trivial | refine side2 ?_ | refine sideL2 ?_ | refine Or.inr ?_ | refine sat_drawH (Tryd.ok ..) (by kernel_rfl) ?_ | refine Exists.intro [_] (And.intro (one_byte rfl) ?_) | refine Exists.intro [_] (And.intro (fun _ => one_byte rfl) ?_) | refine Exists.intro _ (And.intro (And.intro rfl rfl) ?_) | refine Exists.intro _ (And.intro (fun _ => And.intro rfl rfl) ?_) | refine Exists.intro _ (And.intro rfl ?_))
  refine sat_loop (Tryd.ok ..) (α := Nat × Option (Nat × Nat) × Nat) (fun s => ([(0, .yes, .v (.int .u64 ((n / b6 ^ s.1 : Nat) : Int))), (3, .yes, .o 11 s.2.1 s.1 s.2.2)], [(11, .row s.2.1 3 1 s.1 s.2.2 (iv ((dg b6 n).take s.1)))])) (fun s => s.1 ≤ (dg b6 n).length) (fun s => (dg b6 n).length - s.1) (fun _ => rfl) ?_ ?_
  · refine ⟨(0, none, 0), Nat.zero_le _, ?_, ?_, rfl⟩
    · dsimp only
      rw [Nat.pow_zero, Nat.div_one]
      ((repeat' (first | exact trivial | exact rfl | refine And.intro ?_ ?_)) <;> (try (conv => whnf)) <;> (try simp only [SV.real, SV.r2, SV.r1]))
    · ((repeat' (first | exact trivial | exact rfl | refine And.intro ?_ ?_)) <;> (try (conv => whnf)) <;> (try simp only [SV.real, SV.r2, SV.r1]))
  rintro ⟨i, A, cap⟩ hi
  dsimp only at hi
  by_cases h0 : i < (dg b6 n).length
  · have hp := (lt_len b6_2).1 h0
    have hx := dg_take b6_2 h0
    have hd : n / b6 ^ (i + 1) = n / b6 ^ i / b6 := by rw [Nat.pow_succ, Nat.div_div_eq_div_mul]
    have hle : n / b6 ^ i < 18446744073709551616 := Nat.lt_of_le_of_lt (Nat.div_le_self _ _) hn
    obtain ⟨q, hq⟩ : ∃ q, q = n / b6 ^ i := ⟨_, rfl⟩
    rw [← hq] at hp hx hd hle ⊢
    repeat' ((conv => whnf); first | refine walk (Tryd.ok ..) ?_ | (refine Cnd.mk (fun h => ?_) (fun h => ?_) <;> (first | exact cndT h (by omega) | exact cndF h (by omega) | (exfalso; simp only [decide_eq_true_eq, decide_eq_false_iff_not] at h; omega) | (exfalso; simp at h; omega) | simp at h | skip)) | refine And.intro (Kept.mk ?_) ?_ | refine Two.mk (And.intro ?_ ?_) | exact trivial | refine side2 ?_ | refine sideL2 ?_ | refine Or.inr ?_ | refine sat_drawH (Tryd.ok ..) (by kernel_rfl) ?_ | refine Exists.intro [_] (And.intro (one_byte rfl) ?_) | refine Exists.intro [_] (And.intro (fun _ => one_byte rfl) ?_) | refine Exists.intro _ (And.intro (And.intro rfl rfl) ?_) | refine Exists.intro _ (And.intro (fun _ => And.intro rfl rfl) ?_) | refine Exists.intro _ (And.intro rfl ?_))
    intro g hg
    have hnx : iv ((dg b6 n).take (i + 1)) = iv ((dg b6 n).take i) ++ [.int .i64 ((q : Int) % 65536)] := by
      rw [hx, iv_app]
      refine congrArg _ ?_
      show [Value.int .i64 ((q % b6 : Nat) : Int)] = _
      rw [show ((q % b6 : Nat) : Int) = (q : Int) % 65536 by unfold b6; omega]
    repeat' ((conv => whnf); first | refine walk (Tryd.ok ..) ?_ | (refine Cnd.mk (fun h => ?_) (fun h => ?_) <;> (first | exact cndT h (by omega) | exact cndF h (by omega) | (exfalso; simp only [decide_eq_true_eq, decide_eq_false_iff_not] at h; omega) | (exfalso; simp at h; omega) | simp at h | skip)) | refine And.intro (Kept.mk ?_) ?_ | refine Two.mk (And.intro ?_ ?_) | exact trivial | refine side2 ?_ | refine sideL2 ?_ | refine Or.inr ?_ | refine sat_drawH (Tryd.ok ..) (by kernel_rfl) ?_ | refine Exists.intro [_] (And.intro (one_byte rfl) ?_) | refine Exists.intro [_] (And.intro (fun _ => one_byte rfl) ?_) | refine Exists.intro _ (And.intro (And.intro rfl rfl) ?_) | refine Exists.intro _ (And.intro (fun _ => And.intro rfl rfl) ?_) | refine Exists.intro _ (And.intro rfl ?_))
    intro A2 cap2
    repeat' ((conv => whnf); first | refine walk (Tryd.ok ..) ?_ | (refine Cnd.mk (fun h => ?_) (fun h => ?_) <;> (first | exact cndT h (by omega) | exact cndF h (by omega) | (exfalso; simp only [decide_eq_true_eq, decide_eq_false_iff_not] at h; omega) | (exfalso; simp at h; omega) | simp at h | skip)) | refine And.intro (Kept.mk ?_) ?_ | refine Two.mk (And.intro ?_ ?_) | exact trivial | refine side2 ?_ | refine sideL2 ?_ | refine Or.inr ?_ | refine sat_drawH (Tryd.ok ..) (by kernel_rfl) ?_ | refine Exists.intro [_] (And.intro (one_byte rfl) ?_) | refine Exists.intro [_] (And.intro (fun _ => one_byte rfl) ?_) | refine Exists.intro _ (And.intro (And.intro rfl rfl) ?_) | refine Exists.intro _ (And.intro (fun _ => And.intro rfl rfl) ?_) | refine Exists.intro _ (And.intro rfl ?_))
    refine ⟨(i + 1, A2, cap2), ⟨h0, by dsimp only; omega⟩, ?_, ?_, rfl⟩
    · dsimp only
      rw [hd]
      ((repeat' (first | exact trivial | exact rfl | refine And.intro ?_ ?_)) <;> (try (conv => whnf)) <;> (try simp only [SV.real, SV.r2, SV.r1]))
    · dsimp only
      rw [hnx]
      ((repeat' (first | exact trivial | exact rfl | refine And.intro ?_ ?_)) <;> (try (conv => whnf)) <;> (try simp only [SV.real, SV.r2, SV.r1]))
  · obtain rfl : i = (dg b6 n).length := by omega
    have hz : n / b6 ^ (dg b6 n).length = 0 := Nat.div_eq_of_lt (dg_upper b6_2 n)
    rw [hz, List.take_length]
    repeat' ((conv => whnf); first | refine walk (Tryd.ok ..) ?_ | (refine Cnd.mk (fun h => ?_) (fun h => ?_) <;> (first | exact cndT h (by omega) | exact cndF h (by omega) | (exfalso; simp only [decide_eq_true_eq, decide_eq_false_iff_not] at h; omega) | (exfalso; simp at h; omega) | simp at h | skip)) | refine And.intro (Kept.mk ?_) ?_ | refine Two.mk (And.intro ?_ ?_) | exact trivial | refine side2 ?_ | refine sideL2 ?_ | refine Or.inr ?_ | refine sat_drawH (Tryd.ok ..) (by kernel_rfl) ?_ | refine Exists.intro [_] (And.intro (one_byte rfl) ?_) | refine Exists.intro [_] (And.intro (fun _ => one_byte rfl) ?_) | refine Exists.intro _ (And.intro (And.intro rfl rfl) ?_) | refine Exists.intro _ (And.intro (fun _ => And.intro rfl rfl) ?_) | refine Exists.intro _ (And.intro rfl ?_))
    exact done_row (mk := fun v => v) rfl rfl 11 A cap rfl rfl
theorem digit_lt6 {x y k : Nat} (h : x / b6 ^ (k + 1) = y / b6 ^ (k + 1)) (hd : x / b6 ^ k % b6 < y / b6 ^ k % b6) : x < y := by
  have h1 := div_split b6 x k
  have h2 := div_split b6 y k
  rw [h] at h1
  have h3 : x / b6 ^ k < y / b6 ^ k := by omega
  rcases Nat.lt_or_ge x y with h4 | h4
  · exact h4
  · have := Nat.div_le_div_right (c := b6 ^ k) h4
    omega
set_option maxRecDepth 100000 in
set_option maxHeartbeats 8000000 in
theorem rless_any (x y : Nat) (X Y : Option (Nat × Nat)) (capX capY : Nat) (w : World) (hx : Ro w X (dg b6 x).length 1 (iv (dg b6 x))) (hy : Ro w Y (dg b6 y).length 1 (iv (dg b6 y))) (hxl : (dg b6 x).length ≤ 1000000) (hyl : (dg b6 y).length ≤ 1000000) :
    Calls Tryd.prog 97 #[.slice (adr X) (dg b6 x).length capX, .slice (adr Y) (dg b6 y).length capY] w fun e w' => e = .returned (.bool (decide (x < y))) ∧ Below w.heap.size w w' := by
  obtain ⟨n, hn⟩ : ∃ n, n = (dg b6 x).length := ⟨_, rfl⟩
  obtain ⟨m, hm⟩ : ∃ n, n = (dg b6 y).length := ⟨_, rfl⟩
  rw [← hn] at hx hxl ⊢
  rw [← hm] at hy hyl ⊢
  refine calls_sat (cx := Tryd.cx 41 [] [] [] w) (Tryd.ok ..) Tryd.func97 rfl [.o 100 X n capX, .o 101 Y m capY] rfl (by show 2 ≤ 41; omega) [(100, .ro X n 1 (iv (dg b6 x))), (101, .ro Y m 1 (iv (dg b6 y)))] (holds_ros rfl rfl ⟨hx, hy, trivial⟩) ?_
  by_cases hnm : n = m
  case neg =>
    have e1 : decide (x < y) = decide ((n : Int) < (m : Int)) := by
      rw [decide_eq_decide]
      constructor
      · intro h
        have := len_le b6_2 (Nat.le_of_lt h)
        omega
      · intro h
        exact len_lt b6_2 (by omega)
    rw [e1]
    repeat' ((conv => whnf); first | refine walk (Tryd.ok ..) ?_ | (refine Cnd.mk (fun h => ?_) (fun h => ?_) <;> (first | exact cndT h (by omega) | exact cndF h (by omega) | (exfalso; simp only [decide_eq_true_eq, decide_eq_false_iff_not] at h; omega) | (exfalso; simp at h; omega) | simp at h | skip)) | refine And.intro (Kept.mk ?_) ?_ | refine Two.mk (And.intro ?_ ?_) | exact trivial | refine side2 ?_ | refine sideL2 ?_ | refine Or.inr ?_ | refine sat_drawH (Tryd.ok ..) (by kernel_rfl) ?_ | refine Exists.intro [_] (And.intro (one_byte rfl) ?_) | refine Exists.intro [_] (And.intro (fun _ => one_byte rfl) ?_) | refine Exists.intro _ (And.intro (And.intro rfl rfl) ?_) | refine Exists.intro _ (And.intro (fun _ => And.intro rfl rfl) ?_) | refine Exists.intro _ (And.intro rfl ?_))
    exact done_pure rfl rfl rfl
  subst hnm
  repeat' ((conv => whnf); first | refine walk (Tryd.ok ..) ?_ | (refine Cnd.mk (fun h => ?_) (fun h => ?_) <;> (first | exact cndT h (by omega) | exact cndF h (by omega) | (exfalso; simp only [decide_eq_true_eq, decide_eq_false_iff_not] at h; omega) | (exfalso; simp at h; omega) | simp at h | skip)) | refine And.intro (Kept.mk ?_) ?_ | refine Two.mk (And.intro ?_ ?_) | exact trivial | refine side2 ?_ | refine sideL2 ?_ | refine Or.inr ?_ | refine sat_drawH (Tryd.ok ..) (by kernel_rfl) ?_ | refine Exists.intro [_] (And.intro (one_byte rfl) ?_) | refine Exists.intro [_] (And.intro (fun _ => one_byte rfl) ?_) | refine Exists.intro _ (And.intro (And.intro rfl rfl) ?_) | refine Exists.intro _ (And.intro (fun _ => And.intro rfl rfl) ?_) | refine Exists.intro _ (And.intro rfl ?_))
  refine sat_loop (Tryd.ok ..) (α := Nat) (fun k => ([(0, .yes, .o 100 X n capX), (1, .yes, .o 101 Y n capY), (5, .yes, .v (.int .i64 ((k : Int) - 1)))], [(100, .ro X n 1 (iv (dg b6 x))), (101, .ro Y n 1 (iv (dg b6 y)))])) (fun k => k ≤ n ∧ x / b6 ^ k = y / b6 ^ k) (fun k => k) (fun _ => rfl) ?_ ?_
  · refine ⟨n, ⟨Nat.le_refl _, ?_⟩, ?_, ?_, rfl⟩
    · rw [Nat.div_eq_of_lt ((dg_len b6_2 n x).1 (by omega)), Nat.div_eq_of_lt ((dg_len b6_2 n y).1 (by omega))]
    all_goals ((repeat' (first | exact trivial | exact rfl | refine And.intro ?_ ?_)) <;> (try (conv => whnf)) <;> (try simp only [SV.real, SV.r2, SV.r1]))
  rintro k ⟨hk, hdv⟩
  by_cases h0 : k = 0
  · subst h0
    rw [Nat.pow_zero, Nat.div_one, Nat.div_one] at hdv
    subst hdv
    rw [show decide (x < x) = false by simp]
    repeat' ((conv => whnf); first | refine walk (Tryd.ok ..) ?_ | (refine Cnd.mk (fun h => ?_) (fun h => ?_) <;> (first | exact cndT h (by omega) | exact cndF h (by omega) | (exfalso; simp only [decide_eq_true_eq, decide_eq_false_iff_not] at h; omega) | (exfalso; simp at h; omega) | simp at h | skip)) | refine And.intro (Kept.mk ?_) ?_ | refine Two.mk (And.intro ?_ ?_) | exact trivial | refine side2 ?_ | refine sideL2 ?_ | refine Or.inr ?_ | refine sat_drawH (Tryd.ok ..) (by kernel_rfl) ?_ | refine Exists.intro [_] (And.intro (one_byte rfl) ?_) | refine Exists.intro [_] (And.intro (fun _ => one_byte rfl) ?_) | refine Exists.intro _ (And.intro (And.intro rfl rfl) ?_) | refine Exists.intro _ (And.intro (fun _ => And.intro rfl rfl) ?_) | refine Exists.intro _ (And.intro rfl ?_))
    exact done_pure rfl rfl rfl
  obtain ⟨j, rfl⟩ : ∃ j, k = j + 1 := ⟨k - 1, by omega⟩
  have hxa := dg_get b6_2 j x (by omega)
  have hya := dg_get b6_2 j y (by omega)
  have hd1 := digit_lt6 (x := x) (y := y) (k := j) hdv
  have hd2 := digit_lt6 (x := y) (y := x) (k := j) hdv.symm
  have hs1 := div_split b6 x j
  have hs2 := div_split b6 y j
  obtain ⟨a, ea⟩ : ∃ a, a = x / b6 ^ j % b6 := ⟨_, rfl⟩
  obtain ⟨b, eb⟩ : ∃ a, a = y / b6 ^ j % b6 := ⟨_, rfl⟩
  rw [← ea] at hxa hd1 hd2 hs1
  rw [← eb] at hya hd1 hd2 hs2
  by_cases hab : a = b
  · subst hab
    clear hd1 hd2
    have hdv2 : x / b6 ^ j = y / b6 ^ j := by rw [hs1, hs2, hdv]
    clear hs1 hs2
    repeat' ((conv => whnf); first | refine walk (Tryd.ok ..) ?_ | (refine Cnd.mk (fun h => ?_) (fun h => ?_) <;> (first | exact cndT h (by omega) | exact cndF h (by omega) | (exfalso; simp only [decide_eq_true_eq, decide_eq_false_iff_not] at h; omega) | (exfalso; simp at h; omega) | simp at h | skip)) | refine And.intro (Kept.mk ?_) ?_ | refine Two.mk (And.intro ?_ ?_) | exact trivial | refine side2 ?_ | refine sideL2 ?_ | refine Or.inr ?_ | refine sat_drawH (Tryd.ok ..) (by kernel_rfl) ?_ | refine Exists.intro [_] (And.intro (one_byte rfl) ?_) | refine Exists.intro [_] (And.intro (fun _ => one_byte rfl) ?_) | refine Exists.intro _ (And.intro (And.intro rfl rfl) ?_) | refine Exists.intro _ (And.intro (fun _ => And.intro rfl rfl) ?_) | refine Exists.intro _ (And.intro rfl ?_) | refine Exists.intro _ (And.intro (fun _ => (i_at hxa (by omega))) ?_) | refine Exists.intro _ (And.intro (i_at hxa (by omega)) ?_) | refine Exists.intro _ (And.intro (fun _ => (i_at hya (by omega))) ?_) | refine Exists.intro _ (And.intro (i_at hya (by omega)) ?_))
    refine ⟨j, ⟨⟨by omega, hdv2⟩, by omega⟩, ?_, ?_, rfl⟩
    all_goals ((repeat' (first | exact trivial | exact rfl | refine And.intro ?_ ?_)) <;> (try (conv => whnf)) <;> (try simp only [SV.real, SV.r2, SV.r1]))
    all_goals exact congrArg (Value.int .i64) (by omega)
  · have e1 : decide (x < y) = decide ((a : Int) < (b : Int)) := by
      rw [decide_eq_decide]
      constructor
      · intro h
        rcases Nat.lt_or_ge a b with h1 | h1
        · omega
        · have := hd2 (by omega); omega
      · intro h
        exact hd1 (by omega)
    rw [e1]
    clear hd1 hd2 hs1 hs2
    repeat' ((conv => whnf); first | refine walk (Tryd.ok ..) ?_ | (refine Cnd.mk (fun h => ?_) (fun h => ?_) <;> (first | exact cndT h (by omega) | exact cndF h (by omega) | (exfalso; simp only [decide_eq_true_eq, decide_eq_false_iff_not] at h; omega) | (exfalso; simp at h; omega) | simp at h | skip)) | refine And.intro (Kept.mk ?_) ?_ | refine Two.mk (And.intro ?_ ?_) | exact trivial | refine side2 ?_ | refine sideL2 ?_ | refine Or.inr ?_ | refine sat_drawH (Tryd.ok ..) (by kernel_rfl) ?_ | refine Exists.intro [_] (And.intro (one_byte rfl) ?_) | refine Exists.intro [_] (And.intro (fun _ => one_byte rfl) ?_) | refine Exists.intro _ (And.intro (And.intro rfl rfl) ?_) | refine Exists.intro _ (And.intro (fun _ => And.intro rfl rfl) ?_) | refine Exists.intro _ (And.intro rfl ?_) | refine Exists.intro _ (And.intro (fun _ => (i_at hxa (by omega))) ?_) | refine Exists.intro _ (And.intro (i_at hxa (by omega)) ?_) | refine Exists.intro _ (And.intro (fun _ => (i_at hya (by omega))) ?_) | refine Exists.intro _ (And.intro (i_at hya (by omega)) ?_))
    exact done_pure rfl rfl rfl
end Go.Proofs.YtlkhafpkcfdlcaaDoor
