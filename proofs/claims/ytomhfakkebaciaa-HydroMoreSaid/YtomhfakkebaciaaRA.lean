/-
  The walks of the reference's numbers (lists of digits to the base 65536): zeros cut off, digits of 64 bits, comparison. The walks of the reference's numbers: differences, and products with a digit. The walks of the reference's numbers: limbs of digits.
-/
import Derived.Test.YtomhfakkebaciaaRP
import Derived.Test.YtomhfakkebaciaaTab
import Derived.Test.YtomhfakkebaciaaNA
set_option linter.unusedSimpArgs false
set_option linter.unusedVariables false
namespace Go.Proofs.Ytomhfakkebaciaa
section
open Go Sat Go.RowKit Go.PlainAid
set_option linter.unusedSimpArgs false
set_option linter.unusedVariables false
def iv (l : List Nat) : List Value := l.map fun (a : Nat) => Value.int .i64 (a : Int)
theorem iv_len (l : List Nat) : (iv l).length = l.length := List.length_map ..
theorem iv_get {l : List Nat} {k a : Nat} (h : l[k]? = some a) : (iv l)[k]? = some (.int .i64 a) := by simp [iv, h]
theorem i_at {l : List Nat} {i : Int} {k a : Nat} (h : l[k]? = some a) (hi : i = k) : (iv l)[mulS i.toNat 1]? = some (.int .i64 a) := by
  rw [mulS_eq, hi, Int.toNat_natCast, Nat.mul_one]
  exact iv_get h
theorem no_i {b : Bool} {xs : List Value} {i : Nat} (hb : b = false) : b = true → xs[i]? = some (.int .i64 0) := fun h => by rw [hb] at h; cases h
theorem iv_set (l : List Nat) (k a : Nat) : (iv l).set k (.int .i64 (a : Int)) = iv (l.set k a) := by simp [iv, List.map_set]
theorem iv_app (a b : List Nat) : iv (a ++ b) = iv a ++ iv b := List.map_append ..
theorem iv_take (l : List Nat) (k : Nat) : (iv l).take k = iv (l.take k) := by simp [iv, List.map_take]
theorem iv_drop (l : List Nat) (k : Nat) : (iv l).drop k = iv (l.drop k) := by simp [iv, List.map_drop]
theorem iv_all (l : List Nat) : allV (iv l) = true := allV_of fun u hu => by
  simp only [iv, List.mem_map] at hu
  obtain ⟨a, _, rfl⟩ := hu
  rfl
theorem iv_at {l : List Nat} {k : Nat} (h : k < l.length) : ∃ a, l[k]? = some a := ⟨_, List.getElem?_eq_getElem h⟩
theorem trim_take6 (l : List Nat) : trimL l = l.take (trimL l).length := by
  induction l with
  | nil => rfl
  | cons a l ih =>
    rw [trimL]
    cases h : trimL l with
    | nil =>
      dsimp only
      split <;> simp
    | cons b r =>
      rw [h] at ih
      dsimp only
      rw [List.length_cons, List.take_succ_cons, ← ih]
set_option maxRecDepth 100000 in
set_option maxHeartbeats 8000000 in
theorem rtrim_any (l : List Nat) (A : Option (Nat × Nat)) (cap : Nat) (w : World) (hro : Ro w A l.length 1 (iv l)) (hl : l.length ≤ 4611686018427387903) (hc : l.length ≤ cap) :
    Calls Try.prog 94 #[.slice (adr A) l.length cap] w fun e w' => e = .returned (.slice (adr A) (trimL l).length cap) ∧ Below w.heap.size w w' := by
  refine calls_sat (cx := Try.cx 21 [] [] [] w) (Try.ok ..) Try.func94 rfl [.o 100 A l.length cap] rfl (by show 1 ≤ 21; omega) [(100, .ro A l.length 1 (iv l))] (holds_ros rfl rfl ⟨hro, trivial⟩) ?_
  repeat' ((conv => whnf); first | refine walk (Try.ok ..) ?_ | fail)
  refine sat_loop (Try.ok ..) (α := Nat) (fun k => ([(0, .yes, .o 100 A k cap)], [(100, .ro A l.length 1 (iv l))])) (fun k => k ≤ l.length ∧ trimL (l.take k) = trimL l) (fun k => k) (fun _ => rfl) ?_ ?_
  · refine ⟨l.length, ⟨Nat.le_refl _, by rw [List.take_length]⟩, ?_, ?_, rfl⟩
    all_goals ((repeat' (first | exact trivial | exact rfl | refine And.intro ?_ ?_)) <;> (try (conv => whnf)) <;> (try simp only [SV.real, SV.r2, SV.r1]))
  rintro k ⟨hk, ht⟩
  by_cases h0 : k = 0
  · subst h0
    have h1 : (trimL l).length = 0 := by rw [← ht]; rfl
    rw [h1]
    repeat' ((conv => whnf); first | refine walk (Try.ok ..) ?_ | (refine Cnd.mk (fun h => ?_) (fun h => ?_) <;> (first | exact cndT h (by (try dsimp only); omega) | exact cndF h (by (try dsimp only); omega) | (exfalso; simp at h; omega) | simp at h | skip)) | refine side2 ?_ | refine sideL2 ?_ | refine xi _ (no_i (by simp)) ?_ | fail)
    exact done_pure rfl rfl rfl
  obtain ⟨j, rfl⟩ : ∃ j, k = j + 1 := ⟨k - 1, by omega⟩
  obtain ⟨a, ha⟩ := iv_at (l := l) (k := j) (by omega)
  by_cases h2 : a = 0
  · subst h2
    rw [trim_step ha] at ht
    repeat' ((conv => whnf); first | refine walk (Try.ok ..) ?_ | (refine Cnd.mk (fun h => ?_) (fun h => ?_) <;> (first | exact cndT h (by (try dsimp only); omega) | exact cndF h (by (try dsimp only); omega) | (exfalso; simp at h; omega) | simp at h | skip)) | refine side2 ?_ | refine sideL2 ?_ | refine xi _ (fun _ => (i_at ha (by omega))) ?_ | fail)
    have e : (((j + 1 : Nat) : Int) - 1).toNat = j := by omega
    rw [e]
    refine ⟨j, ⟨⟨by omega, ht⟩, by omega⟩, ?_, ?_, rfl⟩
    all_goals ((repeat' (first | exact trivial | exact rfl | refine And.intro ?_ ?_)) <;> (try (conv => whnf)) <;> (try simp only [SV.real, SV.r2, SV.r1]))
  · rw [trim_stop ha h2] at ht
    repeat' ((conv => whnf); first | refine walk (Try.ok ..) ?_ | (refine Cnd.mk (fun h => ?_) (fun h => ?_) <;> (first | exact cndT h (by (try dsimp only); omega) | exact cndF h (by (try dsimp only); omega) | (exfalso; simp at h; omega) | simp at h | skip)) | refine side2 ?_ | refine sideL2 ?_ | refine xi _ (fun _ => (i_at ha (by omega))) ?_ | fail)
    have e : (trimL l).length = j + 1 := by
      rw [← ht, List.length_take]; omega
    (conv => whnf)
    exact done_pure rfl rfl (by rw [e]; rfl)
theorem row_cap6 {cx : Cx} {H : Heap} {w : World} (hw : Holds cx H w) {id : Nat} {A : Option (Nat × Nat)} {e size n cap : Nat} {xs : List Value} (h : hfind H id = some (.row A e size n cap xs)) : n ≤ cap := by
  have hr : w.ownsRow cx.n0 e size (.slice (adr A) n cap) n xs := hw.at_ h
  rcases hr.2 with ⟨hv, hn⟩ | ⟨g, cap', cur, hv, _, _, hc, _⟩
  · omega
  · injection hv with _ _ hc'
    omega
set_option maxRecDepth 100000 in
set_option maxHeartbeats 8000000 in
theorem whole_any (n : Nat) (w : World) (hn : n < 18446744073709551616) :
    Calls Try.prog 98 #[.int .u64 n] w fun e w' => ∃ v, e = .returned v ∧ w'.ownsRow w.heap.size 3 1 v (dg b6 n).length (iv (dg b6 n)) ∧ Below w.heap.size w w' := by
  have hl : (dg b6 n).length ≤ 4 := (dg_len b6_2 4 n).2 (Nat.lt_of_lt_of_le hn (by decide))
  refine calls_sat (cx := Try.cx 15 [] [] [] w) (Try.ok ..) Try.func98 rfl [.v (.int .u64 n)] rfl (by show 1 ≤ 15; omega) [] (holds_nil (Nat.le_refl _)) ?_
  repeat' ((conv => whnf); first | refine walk (Try.ok ..) ?_ | fail)
  refine sat_loop (Try.ok ..) (α := Nat × Option (Nat × Nat) × Nat) (fun s => ([(0, .yes, .v (.int .u64 ((n / b6 ^ s.1 : Nat) : Int))), (3, .yes, .o 11 s.2.1 s.1 s.2.2)], [(11, .row s.2.1 3 1 s.1 s.2.2 (iv ((dg b6 n).take s.1)))])) (fun s => s.1 ≤ (dg b6 n).length) (fun s => (dg b6 n).length - s.1) (fun _ => rfl) ?_ ?_
  · refine ⟨(0, none, 0), Nat.zero_le _, ?_, ?_, rfl⟩
    · dsimp only
      rw [Nat.pow_zero, Nat.div_one]
      ((repeat' (first | exact trivial | exact rfl | refine And.intro ?_ ?_)) <;> (try (conv => whnf)) <;> (try simp only [SV.real, SV.r2, SV.r1]))
    · ((repeat' (first | exact trivial | exact rfl | refine And.intro ?_ ?_)) <;> (try (conv => whnf)) <;> (try simp only [SV.real, SV.r2, SV.r1]))
  rintro ⟨i, A, cap⟩ hi
  dsimp only at hi
  by_cases h0 : i < (dg b6 n).length
  · have hp := (lt_len b6_2).1 h0
    have hx := dg_take b6_2 h0
    have hd : n / b6 ^ (i + 1) = n / b6 ^ i / b6 := by rw [Nat.pow_succ, Nat.div_div_eq_div_mul]
    have hle : n / b6 ^ i < 18446744073709551616 := Nat.lt_of_le_of_lt (Nat.div_le_self _ _) hn
    obtain ⟨q, hq⟩ : ∃ q, q = n / b6 ^ i := ⟨_, rfl⟩
    rw [← hq] at hp hx hd hle ⊢
    repeat' ((conv => whnf); first | refine walk (Try.ok ..) ?_ | (refine Cnd.mk (fun h => ?_) (fun h => ?_) <;> (first | exact cndT h (by (try dsimp only); omega) | exact cndF h (by (try dsimp only); omega) | (exfalso; simp at h; omega) | simp at h | skip)) | refine sideL2 ?_ | fail)
    intro g hg
    have hnx : iv ((dg b6 n).take (i + 1)) = iv ((dg b6 n).take i) ++ [.int .i64 ((q : Int) % 65536)] := by
      rw [hx, iv_app]
      refine congrArg _ ?_
      show [Value.int .i64 ((q % b6 : Nat) : Int)] = _
      rw [show ((q % b6 : Nat) : Int) = (q : Int) % 65536 by unfold b6; omega]
    repeat' ((conv => whnf); first | refine side2 ?_ | refine Or.inr ?_ | fail)
    intro A2 cap2
    repeat' ((conv => whnf); first | refine walk (Try.ok ..) ?_ | refine sideL2 ?_ | fail)
    refine ⟨(i + 1, A2, cap2), ⟨h0, by dsimp only; omega⟩, ?_, ?_, rfl⟩
    · dsimp only
      rw [hd]
      ((repeat' (first | exact trivial | exact rfl | refine And.intro ?_ ?_)) <;> (try (conv => whnf)) <;> (try simp only [SV.real, SV.r2, SV.r1]))
    · dsimp only
      rw [hnx]
      ((repeat' (first | exact trivial | exact rfl | refine And.intro ?_ ?_)) <;> (try (conv => whnf)) <;> (try simp only [SV.real, SV.r2, SV.r1]))
  · obtain rfl : i = (dg b6 n).length := by omega
    have hz : n / b6 ^ (dg b6 n).length = 0 := Nat.div_eq_of_lt (dg_upper b6_2 n)
    rw [hz, List.take_length]
    repeat' ((conv => whnf); first | refine walk (Try.ok ..) ?_ | (refine Cnd.mk (fun h => ?_) (fun h => ?_) <;> (first | exact cndT h (by (try dsimp only); omega) | exact cndF h (by (try dsimp only); omega) | (exfalso; simp at h; omega) | simp at h | skip)) | fail)
    exact done_row (mk := fun v => v) rfl rfl 11 A cap rfl rfl
theorem digit_lt6 {x y k : Nat} (h : x / b6 ^ (k + 1) = y / b6 ^ (k + 1)) (hd : x / b6 ^ k % b6 < y / b6 ^ k % b6) : x < y := by
  have h1 := div_split b6 x k
  have h2 := div_split b6 y k
  rw [h] at h1
  have h3 : x / b6 ^ k < y / b6 ^ k := by omega
  rcases Nat.lt_or_ge x y with h4 | h4
  · exact h4
  · have := Nat.div_le_div_right (c := b6 ^ k) h4
    omega
set_option maxRecDepth 100000 in
set_option maxHeartbeats 8000000 in
theorem rless_any (x y : Nat) (X Y : Option (Nat × Nat)) (capX capY : Nat) (w : World) (hx : Ro w X (dg b6 x).length 1 (iv (dg b6 x))) (hy : Ro w Y (dg b6 y).length 1 (iv (dg b6 y))) (hxl : (dg b6 x).length ≤ 1000000) (hyl : (dg b6 y).length ≤ 1000000) :
    Calls Try.prog 87 #[.slice (adr X) (dg b6 x).length capX, .slice (adr Y) (dg b6 y).length capY] w fun e w' => e = .returned (.bool (decide (x < y))) ∧ Below w.heap.size w w' := by
  obtain ⟨n, hn⟩ : ∃ n, n = (dg b6 x).length := ⟨_, rfl⟩
  obtain ⟨m, hm⟩ : ∃ n, n = (dg b6 y).length := ⟨_, rfl⟩
  rw [← hn] at hx hxl ⊢
  rw [← hm] at hy hyl ⊢
  refine calls_sat (cx := Try.cx 41 [] [] [] w) (Try.ok ..) Try.func87 rfl [.o 100 X n capX, .o 101 Y m capY] rfl (by show 2 ≤ 41; omega) [(100, .ro X n 1 (iv (dg b6 x))), (101, .ro Y m 1 (iv (dg b6 y)))] (holds_ros rfl rfl ⟨hx, hy, trivial⟩) ?_
  by_cases hnm : n = m
  case neg =>
    have e1 : decide (x < y) = decide ((n : Int) < (m : Int)) := by
      rw [decide_eq_decide]
      constructor
      · intro h
        have := len_le b6_2 (Nat.le_of_lt h)
        omega
      · intro h
        exact len_lt b6_2 (by omega)
    rw [e1]
    repeat' ((conv => whnf); first | refine walk (Try.ok ..) ?_ | (refine Cnd.mk (fun h => ?_) (fun h => ?_) <;> (first | exact cndT h (by (try dsimp only); omega) | exact cndF h (by (try dsimp only); omega) | (exfalso; simp at h; omega) | simp at h | skip)) | fail)
    exact done_pure rfl rfl rfl
  subst hnm
  repeat' ((conv => whnf); first | refine walk (Try.ok ..) ?_ | (refine Cnd.mk (fun h => ?_) (fun h => ?_) <;> (first | exact cndT h (by (try dsimp only); omega) | exact cndF h (by (try dsimp only); omega) | (exfalso; simp at h; omega) | simp at h | skip)) | refine sideL2 ?_ | fail)
  refine sat_loop (Try.ok ..) (α := Nat) (fun k => ([(0, .yes, .o 100 X n capX), (1, .yes, .o 101 Y n capY), (5, .yes, .v (.int .i64 ((k : Int) - 1)))], [(100, .ro X n 1 (iv (dg b6 x))), (101, .ro Y n 1 (iv (dg b6 y)))])) (fun k => k ≤ n ∧ x / b6 ^ k = y / b6 ^ k) (fun k => k) (fun _ => rfl) ?_ ?_
  · refine ⟨n, ⟨Nat.le_refl _, ?_⟩, ?_, ?_, rfl⟩
    · rw [Nat.div_eq_of_lt ((dg_len b6_2 n x).1 (by omega)), Nat.div_eq_of_lt ((dg_len b6_2 n y).1 (by omega))]
    all_goals ((repeat' (first | exact trivial | exact rfl | refine And.intro ?_ ?_)) <;> (try (conv => whnf)) <;> (try simp only [SV.real, SV.r2, SV.r1]))
  rintro k ⟨hk, hdv⟩
  by_cases h0 : k = 0
  · subst h0
    rw [Nat.pow_zero, Nat.div_one, Nat.div_one] at hdv
    subst hdv
    rw [show decide (x < x) = false by simp]
    repeat' ((conv => whnf); first | refine walk (Try.ok ..) ?_ | (refine Cnd.mk (fun h => ?_) (fun h => ?_) <;> (first | exact cndT h (by (try dsimp only); omega) | exact cndF h (by (try dsimp only); omega) | (exfalso; simp at h; omega) | simp at h | skip)) | fail)
    exact done_pure rfl rfl rfl
  obtain ⟨j, rfl⟩ : ∃ j, k = j + 1 := ⟨k - 1, by omega⟩
  have hxa := dg_get b6_2 j x (by omega)
  have hya := dg_get b6_2 j y (by omega)
  have hd1 := digit_lt6 (x := x) (y := y) (k := j) hdv
  have hd2 := digit_lt6 (x := y) (y := x) (k := j) hdv.symm
  have hs1 := div_split b6 x j
  have hs2 := div_split b6 y j
  obtain ⟨a, ea⟩ : ∃ a, a = x / b6 ^ j % b6 := ⟨_, rfl⟩
  obtain ⟨b, eb⟩ : ∃ a, a = y / b6 ^ j % b6 := ⟨_, rfl⟩
  rw [← ea] at hxa hd1 hd2 hs1
  rw [← eb] at hya hd1 hd2 hs2
  by_cases hab : a = b
  · subst hab
    clear hd1 hd2
    have hdv2 : x / b6 ^ j = y / b6 ^ j := by rw [hs1, hs2, hdv]
    clear hs1 hs2
    repeat' ((conv => whnf); first | refine walk (Try.ok ..) ?_ | (refine Cnd.mk (fun h => ?_) (fun h => ?_) <;> (first | exact cndT h (by (try dsimp only); omega) | exact cndF h (by (try dsimp only); omega) | (exfalso; simp at h; omega) | simp at h | skip)) | refine side2 ?_ | refine sideL2 ?_ | refine xi _ (i_at hxa (by omega)) ?_ | refine xi _ (i_at hya (by omega)) ?_ | fail)
    refine ⟨j, ⟨⟨by omega, hdv2⟩, by omega⟩, ?_, ?_, rfl⟩
    all_goals ((repeat' (first | exact trivial | exact rfl | refine And.intro ?_ ?_)) <;> (try (conv => whnf)) <;> (try simp only [SV.real, SV.r2, SV.r1]))
    all_goals exact congrArg (Value.int .i64) (by omega)
  · have e1 : decide (x < y) = decide ((a : Int) < (b : Int)) := by
      rw [decide_eq_decide]
      constructor
      · intro h
        rcases Nat.lt_or_ge a b with h1 | h1
        · omega
        · have := hd2 (by omega); omega
      · intro h
        exact hd1 (by omega)
    rw [e1]
    clear hd1 hd2 hs1 hs2
    repeat' ((conv => whnf); first | refine walk (Try.ok ..) ?_ | (refine Cnd.mk (fun h => ?_) (fun h => ?_) <;> (first | exact cndT h (by (try dsimp only); omega) | exact cndF h (by (try dsimp only); omega) | (exfalso; simp at h; omega) | simp at h | skip)) | refine side2 ?_ | refine sideL2 ?_ | refine xi _ (i_at hxa (by omega)) ?_ | refine xi _ (i_at hya (by omega)) ?_ | fail)
    exact done_pure rfl rfl rfl
end
section
open Go Sat Go.RowKit Go.PlainAid
set_option linter.unusedSimpArgs false
set_option linter.unusedVariables false
theorem iv_next {i z : Nat} {E : Int} (h : E = ((z / b6 ^ i % b6 : Nat) : Int)) : iv (dgB b6 (i + 1) z) = iv (dgB b6 i z) ++ [.int .i64 E] := by
  rw [dgB_succ, iv_app, h]
  rfl
set_option maxRecDepth 100000 in
set_option maxHeartbeats 8000000 in
theorem rsub_any (x y : Nat) (X Y : Option (Nat × Nat)) (capX capY : Nat) (w : World) (hyx : y ≤ x) (hx : Ro w X (dg b6 x).length 1 (iv (dg b6 x))) (hy : Ro w Y (dg b6 y).length 1 (iv (dg b6 y))) (hxl : (dg b6 x).length ≤ 1000000) :
    Calls Try.prog 93 #[.slice (adr X) (dg b6 x).length capX, .slice (adr Y) (dg b6 y).length capY] w fun e w' => ∃ v, e = .returned v ∧ w'.ownsRow w.heap.size 3 1 v (dg b6 (x - y)).length (iv (dg b6 (x - y))) ∧ Below w.heap.size w w' := by
  have hyl : (dg b6 y).length ≤ (dg b6 x).length := len_le b6_2 hyx
  obtain ⟨n, hn⟩ : ∃ n, n = (dg b6 x).length := ⟨_, rfl⟩
  obtain ⟨m, hm⟩ : ∃ n, n = (dg b6 y).length := ⟨_, rfl⟩
  rw [← hn] at hx hxl hyl ⊢
  rw [← hm] at hy hyl ⊢
  refine calls_sat (cx := Try.cx 41 [] [] [] w) (Try.ok ..) Try.func93 rfl [.o 100 X n capX, .o 101 Y m capY] rfl (by show 2 ≤ 41; omega) [(100, .ro X n 1 (iv (dg b6 x))), (101, .ro Y m 1 (iv (dg b6 y)))] (holds_ros rfl rfl ⟨hx, hy, trivial⟩) ?_
  repeat' ((conv => whnf); first | refine walk (Try.ok ..) ?_ | fail)
  refine sat_loop (Try.ok ..) (α := Nat × Nat × Option (Nat × Nat) × Nat) (fun s => ([(0, .yes, .o 100 X n capX), (1, .yes, .o 101 Y m capY), (5, .yes, .o 38 s.2.2.1 s.1 s.2.2.2), (6, .yes, .v (.int .i64 s.2.1)), (7, .yes, .v (.int .i64 s.1))], [(38, .row s.2.2.1 3 1 s.1 s.2.2.2 (iv (dgB b6 s.1 (x - y)))), (100, .ro X n 1 (iv (dg b6 x))), (101, .ro Y m 1 (iv (dg b6 y)))]))
    (fun s => s.1 ≤ n ∧ s.2.1 ≤ 1 ∧ x / b6 ^ s.1 = y / b6 ^ s.1 + s.2.1 + (x - y) / b6 ^ s.1) (fun s => n - s.1) (fun _ => rfl) ?_ ?_
  · refine ⟨(0, 0, none, 0), ⟨Nat.zero_le _, Nat.zero_le _, ?_⟩, ?_, ?_, rfl⟩
    · simp only [Nat.pow_zero, Nat.div_one]; omega
    · ((repeat' (first | exact trivial | exact rfl | refine And.intro ?_ ?_)) <;> (try (conv => whnf)) <;> (try simp only [SV.real, SV.r2, SV.r1]))
    · ((repeat' (first | exact trivial | exact rfl | refine And.intro ?_ ?_)) <;> (try (conv => whnf)) <;> (try simp only [SV.real, SV.r2, SV.r1]))
  rintro ⟨i, o, A, cap⟩ ⟨hi, ho, hinv⟩
  dsimp only at hi ho hinv
  by_cases hin : i < n
  · have hxa := dg_get b6_2 i x (by omega)
    obtain ⟨o', ho', hd, hst, hneg⟩ := sub_next (B := b6) b6_2 ho hinv
    have hbb : b6 = 65536 := rfl
    have la : x / b6 ^ i % b6 < b6 := Nat.mod_lt _ (by decide)
    have lb : y / b6 ^ i % b6 < b6 := Nat.mod_lt _ (by decide)
    have ld : (x - y) / b6 ^ i % b6 < b6 := Nat.mod_lt _ (by decide)
    obtain ⟨a, ea⟩ : ∃ a, a = x / b6 ^ i % b6 := ⟨_, rfl⟩
    obtain ⟨b, eb⟩ : ∃ a, a = y / b6 ^ i % b6 := ⟨_, rfl⟩
    obtain ⟨d, ed⟩ : ∃ a, a = (x - y) / b6 ^ i % b6 := ⟨_, rfl⟩
    rw [← ea] at hxa hd hneg la
    rw [← eb] at hd hneg lb
    rw [← ed] at hd ld
    rw [hbb] at la lb ld
    have hd2 : a + 65536 * o' = o + b + d := by rw [hbb] at hd; exact hd
    clear hd
    by_cases him : i < m
    · have hya := dg_get b6_2 i y (by omega)
      rw [← eb] at hya
      by_cases ho1 : o' = 1
      · subst ho1
        have hlt := hneg.1 rfl
        clear hneg
        have hnx := iv_next (i := i) (z := x - y) (E := ((a : Int) - o - b + 65536)) (by omega)
        repeat' ((conv => whnf); first | refine walk (Try.ok ..) ?_ | (refine Cnd.mk (fun h => ?_) (fun h => ?_) <;> (first | exact cndT h (by (try dsimp only); omega) | exact cndF h (by (try dsimp only); omega) | (exfalso; simp at h; omega) | simp at h | skip)) | refine side2 ?_ | refine sideL2 ?_ | refine xi _ (i_at hxa rfl) ?_ | refine xi _ (i_at hya rfl) ?_ | fail)
        intro g hg
        repeat' ((conv => whnf); first | refine side2 ?_ | refine Or.inr ?_ | fail)
        intro A2 cap2
        repeat' ((conv => whnf); first | refine walk (Try.ok ..) ?_ | refine sideL2 ?_ | fail)
        refine ⟨(i + 1, 1, A2, cap2), ⟨⟨by omega, by omega, hst⟩, by dsimp only; omega⟩, ?_, ?_, rfl⟩
        · dsimp only
          ((repeat' (first | exact trivial | exact rfl | refine And.intro ?_ ?_)) <;> (try (conv => whnf)) <;> (try simp only [SV.real, SV.r2, SV.r1]))
        · dsimp only
          rw [hnx]
          ((repeat' (first | exact trivial | exact rfl | refine And.intro ?_ ?_)) <;> (try (conv => whnf)) <;> (try simp only [SV.real, SV.r2, SV.r1]))
      · obtain rfl : o' = 0 := by omega
        clear hneg
        have hnx := iv_next (i := i) (z := x - y) (E := ((a : Int) - o - b)) (by omega)
        repeat' ((conv => whnf); first | refine walk (Try.ok ..) ?_ | (refine Cnd.mk (fun h => ?_) (fun h => ?_) <;> (first | exact cndT h (by (try dsimp only); omega) | exact cndF h (by (try dsimp only); omega) | (exfalso; simp at h; omega) | simp at h | skip)) | refine side2 ?_ | refine sideL2 ?_ | refine xi _ (i_at hxa rfl) ?_ | refine xi _ (i_at hya rfl) ?_ | fail)
        intro g hg
        repeat' ((conv => whnf); first | refine side2 ?_ | refine Or.inr ?_ | fail)
        intro A2 cap2
        repeat' ((conv => whnf); first | refine walk (Try.ok ..) ?_ | refine sideL2 ?_ | fail)
        refine ⟨(i + 1, 0, A2, cap2), ⟨⟨by omega, by omega, hst⟩, by dsimp only; omega⟩, ?_, ?_, rfl⟩
        · dsimp only
          ((repeat' (first | exact trivial | exact rfl | refine And.intro ?_ ?_)) <;> (try (conv => whnf)) <;> (try simp only [SV.real, SV.r2, SV.r1]))
        · dsimp only
          rw [hnx]
          ((repeat' (first | exact trivial | exact rfl | refine And.intro ?_ ?_)) <;> (try (conv => whnf)) <;> (try simp only [SV.real, SV.r2, SV.r1]))
    · have hya := dg_past b6_2 (k := i) (n := y) (by omega)
      rw [← eb] at hya
      by_cases ho1 : o' = 1
      · subst ho1
        have hlt := hneg.1 rfl
        clear hneg
        have hnx := iv_next (i := i) (z := x - y) (E := ((a : Int) - o + 65536)) (by omega)
        repeat' ((conv => whnf); first | refine walk (Try.ok ..) ?_ | (refine Cnd.mk (fun h => ?_) (fun h => ?_) <;> (first | exact cndT h (by (try dsimp only); omega) | exact cndF h (by (try dsimp only); omega) | (exfalso; simp at h; omega) | simp at h | skip)) | refine side2 ?_ | refine sideL2 ?_ | refine xi _ (i_at hxa rfl) ?_ | fail)
        intro g hg
        repeat' ((conv => whnf); first | refine side2 ?_ | refine Or.inr ?_ | fail)
        intro A2 cap2
        repeat' ((conv => whnf); first | refine walk (Try.ok ..) ?_ | refine sideL2 ?_ | fail)
        refine ⟨(i + 1, 1, A2, cap2), ⟨⟨by omega, by omega, hst⟩, by dsimp only; omega⟩, ?_, ?_, rfl⟩
        · dsimp only
          ((repeat' (first | exact trivial | exact rfl | refine And.intro ?_ ?_)) <;> (try (conv => whnf)) <;> (try simp only [SV.real, SV.r2, SV.r1]))
        · dsimp only
          rw [hnx]
          ((repeat' (first | exact trivial | exact rfl | refine And.intro ?_ ?_)) <;> (try (conv => whnf)) <;> (try simp only [SV.real, SV.r2, SV.r1]))
      · obtain rfl : o' = 0 := by omega
        clear hneg
        have hnx := iv_next (i := i) (z := x - y) (E := ((a : Int) - o)) (by omega)
        repeat' ((conv => whnf); first | refine walk (Try.ok ..) ?_ | (refine Cnd.mk (fun h => ?_) (fun h => ?_) <;> (first | exact cndT h (by (try dsimp only); omega) | exact cndF h (by (try dsimp only); omega) | (exfalso; simp at h; omega) | simp at h | skip)) | refine side2 ?_ | refine sideL2 ?_ | refine xi _ (i_at hxa rfl) ?_ | fail)
        intro g hg
        repeat' ((conv => whnf); first | refine side2 ?_ | refine Or.inr ?_ | fail)
        intro A2 cap2
        repeat' ((conv => whnf); first | refine walk (Try.ok ..) ?_ | refine sideL2 ?_ | fail)
        refine ⟨(i + 1, 0, A2, cap2), ⟨⟨by omega, by omega, hst⟩, by dsimp only; omega⟩, ?_, ?_, rfl⟩
        · dsimp only
          ((repeat' (first | exact trivial | exact rfl | refine And.intro ?_ ?_)) <;> (try (conv => whnf)) <;> (try simp only [SV.real, SV.r2, SV.r1]))
        · dsimp only
          rw [hnx]
          ((repeat' (first | exact trivial | exact rfl | refine And.intro ?_ ?_)) <;> (try (conv => whnf)) <;> (try simp only [SV.real, SV.r2, SV.r1]))
  · obtain rfl : i = n := by omega
    have htr := dgB_trim (B := b6) (k := i) (n := x - y) b6_2 (Nat.lt_of_le_of_lt (Nat.sub_le x y) ((dg_len b6_2 i x).1 (by omega)))
    repeat' ((conv => whnf); first | refine walk (Try.ok ..) ?_ | (refine Cnd.mk (fun h => ?_) (fun h => ?_) <;> (first | exact cndT h (by (try dsimp only); omega) | exact cndF h (by (try dsimp only); omega) | (exfalso; simp at h; omega) | simp at h | skip)) | fail)
    refine called_trim 38 (dg b6 (x - y)).length rfl (by rw [← htr]; have h9 := trim_len (dgB b6 i (x - y)); rw [dgB_len] at h9; exact h9) (fun w' hh => by
      have h1 := rtrim_any (dgB b6 i (x - y)) A cap w' (by rw [dgB_len]; exact ro_of_row hh (id := 38) rfl) (by rw [dgB_len]; omega) (by rw [dgB_len]; exact row_cap6 hh (id := 38) rfl)
      rw [htr, dgB_len] at h1
      exact h1) ?_
    repeat' ((conv => whnf); first | refine walk (Try.ok ..) ?_ | fail)
    exact done_row2 (mk := fun v => v) rfl rfl 38 A cap rfl rfl (by
      show List.take _ (iv (dgB b6 i (x - y))) = _
      rw [Nat.mul_one, iv_take, ← htr, ← trim_take6]) rfl
set_option maxRecDepth 100000 in
set_option maxHeartbeats 8000000 in
theorem rscale_any (x k : Nat) (X : Option (Nat × Nat)) (capX : Nat) (w : World) (hk : k < 65536) (hx : Ro w X (dg b6 x).length 1 (iv (dg b6 x))) (hxl : (dg b6 x).length ≤ 1000000) :
    Calls Try.prog 96 #[.slice (adr X) (dg b6 x).length capX, .int .i64 k] w fun e w' => ∃ v, e = .returned v ∧ w'.ownsRow w.heap.size 3 1 v (dg b6 (x * k)).length (iv (dg b6 (x * k))) ∧ Below w.heap.size w w' := by
  obtain ⟨n, hn⟩ : ∃ n, n = (dg b6 x).length := ⟨_, rfl⟩
  rw [← hn] at hx hxl ⊢
  refine calls_sat (cx := Try.cx 39 [] [] [] w) (Try.ok ..) Try.func96 rfl [.o 100 X n capX, .v (.int .i64 k)] rfl (by show 2 ≤ 39; omega) [(100, .ro X n 1 (iv (dg b6 x)))] (holds_ros rfl rfl ⟨hx, trivial⟩) ?_
  repeat' ((conv => whnf); first | refine walk (Try.ok ..) ?_ | fail)
  refine sat_loop (Try.ok ..) (α := Nat × Nat × Option (Nat × Nat) × Nat) (fun s => ([(0, .yes, .o 100 X n capX), (1, .yes, .v (.int .i64 k)), (5, .yes, .o 34 s.2.2.1 s.1 s.2.2.2), (6, .yes, .v (.int .i64 s.2.1)), (7, .yes, .v (.int .i64 s.1))], [(34, .row s.2.2.1 3 1 s.1 s.2.2.2 (iv (dgB b6 s.1 (x * k)))), (100, .ro X n 1 (iv (dg b6 x)))]))
    (fun s => s.1 ≤ n + 1 ∧ (n < s.1 → s.2.1 = 0) ∧ s.2.1 ≤ k ∧ s.2.1 + k * (x / b6 ^ s.1) = x * k / b6 ^ s.1) (fun s => (n - s.1) * 65536 + s.2.1) (fun _ => rfl) ?_ ?_
  · refine ⟨(0, 0, none, 0), ⟨Nat.zero_le _, fun _ => rfl, Nat.zero_le _, ?_⟩, ?_, ?_, rfl⟩
    · simp only [Nat.pow_zero, Nat.div_one, Nat.zero_add]; exact Nat.mul_comm k x
    · ((repeat' (first | exact trivial | exact rfl | refine And.intro ?_ ?_)) <;> (try (conv => whnf)) <;> (try simp only [SV.real, SV.r2, SV.r1]))
    · ((repeat' (first | exact trivial | exact rfl | refine And.intro ?_ ?_)) <;> (try (conv => whnf)) <;> (try simp only [SV.real, SV.r2, SV.r1]))
  rintro ⟨i, c, A, cap⟩ ⟨hi, hz, hc, hinv⟩
  dsimp only at hi hz hc hinv
  have hbb : b6 = 65536 := rfl
  have la : x / b6 ^ i % b6 < b6 := Nat.mod_lt _ (by decide)
  obtain ⟨hdig, hst⟩ := scale_next (B := b6) (by decide) hinv
  have hca := scale_car (B := b6) (by decide) hc la
  obtain ⟨a, ea⟩ : ∃ a, a = x / b6 ^ i % b6 := ⟨_, rfl⟩
  rw [← ea] at hdig hst hca la
  rw [hbb] at la
  obtain ⟨c', ec⟩ : ∃ c', c' = (c + a * k) / b6 := ⟨_, rfl⟩
  rw [← ec] at hst hca
  rw [hbb] at ec
  by_cases hin : i < n
  · have hxa := dg_get b6_2 i x (by omega)
    rw [← ea] at hxa
    have hp : a * k ≤ 65535 * 65535 := Nat.mul_le_mul (by omega) (by omega)
    have hdig : x * k / b6 ^ i % b6 = (c + a * k) % 65536 := hdig
    clear hz
    have hnx := iv_next (i := i) (z := x * k) (E := (((c : Int) + a * k) % 65536)) (by omega)
    repeat' ((conv => whnf); first | refine walk (Try.ok ..) ?_ | (refine Cnd.mk (fun h => ?_) (fun h => ?_) <;> (first | exact cndT h (by (try dsimp only); omega) | exact cndF h (by (try dsimp only); omega) | (exfalso; simp at h; omega) | simp at h | skip)) | refine side2 ?_ | refine sideL2 ?_ | refine xi _ (i_at hxa rfl) ?_ | fail)
    intro g hg
    repeat' ((conv => whnf); first | refine side2 ?_ | refine Or.inr ?_ | fail)
    intro A2 cap2
    repeat' ((conv => whnf); first | refine walk (Try.ok ..) ?_ | refine sideL2 ?_ | fail)
    refine ⟨(i + 1, c', A2, cap2), ⟨⟨by omega, fun h => by dsimp only at h ⊢; omega, hca, hst⟩, by dsimp only; omega⟩, ?_, ?_, rfl⟩
    · dsimp only
      ((repeat' (first | exact trivial | exact rfl | refine And.intro ?_ ?_)) <;> (try (conv => whnf)) <;> (try simp only [SV.real, SV.r2, SV.r1]))
      all_goals exact congrArg (Value.int .i64) (by omega)
    · dsimp only
      rw [hnx]
      ((repeat' (first | exact trivial | exact rfl | refine And.intro ?_ ?_)) <;> (try (conv => whnf)) <;> (try simp only [SV.real, SV.r2, SV.r1]))
  have hx0 : x / b6 ^ i = 0 := Nat.div_eq_of_lt (Nat.lt_of_lt_of_le ((dg_len b6_2 n x).1 (by omega)) (Nat.pow_le_pow_right (by decide) (by omega)))
  have ha0 : a = 0 := by rw [ea, hx0]; rfl
  subst ha0
  rw [Nat.zero_mul, Nat.add_zero] at hdig ec
  by_cases hc0 : c = 0
  · subst hc0
    rw [hx0, Nat.mul_zero, Nat.add_zero] at hinv
    have hlt : x * k < b6 ^ i := by
      rcases Nat.lt_or_ge (x * k) (b6 ^ i) with h | h
      · exact h
      · have := Nat.div_pos h (Nat.pow_pos (by decide)); omega
    have htr := dgB_trim (B := b6) (k := i) (n := x * k) b6_2 hlt
    clear hz
    repeat' ((conv => whnf); first | refine walk (Try.ok ..) ?_ | (refine Cnd.mk (fun h => ?_) (fun h => ?_) <;> (first | exact cndT h (by (try dsimp only); omega) | exact cndF h (by (try dsimp only); omega) | (exfalso; simp at h; omega) | simp at h | skip)) | refine side2 ?_ | fail)
    refine called_trim 34 (dg b6 (x * k)).length rfl (by rw [← htr]; have h9 := trim_len (dgB b6 i (x * k)); rw [dgB_len] at h9; exact h9) (fun w' hh => by
      have h1 := rtrim_any (dgB b6 i (x * k)) A cap w' (by rw [dgB_len]; exact ro_of_row hh (id := 34) rfl) (by rw [dgB_len]; omega) (by rw [dgB_len]; exact row_cap6 hh (id := 34) rfl)
      rw [htr, dgB_len] at h1
      exact h1) ?_
    repeat' ((conv => whnf); first | refine walk (Try.ok ..) ?_ | fail)
    exact done_row2 (mk := fun v => v) rfl rfl 34 A cap rfl rfl (by
      show List.take _ (iv (dgB b6 i (x * k))) = _
      rw [Nat.mul_one, iv_take, ← htr, ← trim_take6]) rfl
  · obtain rfl : i = n := by
      rcases Nat.lt_or_ge n i with h | h
      · exact absurd (hz h) hc0
      · omega
    have hc1 : c' = 0 := by omega
    clear hz
    have hdig : x * k / b6 ^ i % b6 = c % 65536 := hdig
    have hnx := iv_next (i := i) (z := x * k) (E := ((c : Int) % 65536)) (by omega)
    repeat' ((conv => whnf); first | refine walk (Try.ok ..) ?_ | (refine Cnd.mk (fun h => ?_) (fun h => ?_) <;> (first | exact cndT h (by (try dsimp only); omega) | exact cndF h (by (try dsimp only); omega) | (exfalso; simp at h; omega) | simp at h | skip)) | refine side2 ?_ | refine sideL2 ?_ | fail)
    intro g hg
    repeat' ((conv => whnf); first | refine side2 ?_ | refine Or.inr ?_ | fail)
    intro A2 cap2
    repeat' ((conv => whnf); first | refine walk (Try.ok ..) ?_ | refine sideL2 ?_ | fail)
    refine ⟨(i + 1, c', A2, cap2), ⟨⟨by omega, fun _ => hc1, hca, hst⟩, by dsimp only; omega⟩, ?_, ?_, rfl⟩
    · dsimp only
      ((repeat' (first | exact trivial | exact rfl | refine And.intro ?_ ?_)) <;> (try (conv => whnf)) <;> (try simp only [SV.real, SV.r2, SV.r1]))
      all_goals exact congrArg (Value.int .i64) (by omega)
    · dsimp only
      rw [hnx]
      ((repeat' (first | exact trivial | exact rfl | refine And.intro ?_ ?_)) <;> (try (conv => whnf)) <;> (try simp only [SV.real, SV.r2, SV.r1]))
end
section
open Go Sat Go.RowKit Go.PlainAid
set_option linter.unusedSimpArgs false
set_option linter.unusedVariables false
def uc (l : List Nat) : List SV := (us l).map .v
theorem uc_len (l : List Nat) : (uc l).length = l.length := by simp [uc, us_len]
theorem uc_set (l : List Nat) (k a : Nat) : (uc l).set k (.v (.int .u32 (a : Int))) = uc (l.set k a) := by simp [uc, us, List.map_set]
theorem uc_put {l : List Nat} {j k a : Nat} {e : Int} (hj : j = k) (he : e = a) : (uc l).set j (.v (.int .u32 e)) = uc (l.set k a) := by
  rw [hj, he, uc_set]
theorem uc_get {l : List Nat} {k a : Nat} (h : l[k]? = some a) : (uc l)[k]? = some (.v (.int .u32 a)) := by simp [uc, us, h]
theorem lim_get {n q : Nat} (h : q < 8) : (lim n)[q]? = some (n / bb ^ q % bb) := by
  unfold lim
  rw [List.getElem?_map, List.getElem?_range h]
  rfl
theorem lim_upd {N N' q old x : Nat} (hN : N < big) (ho : (lim N)[q]? = some old) (hx : x < bb) (hq : N' + bb ^ q * old = N + bb ^ q * x) : (lim N).set q x = lim N' := by
  have h1 := nv_set (B := bb) (x := x) ho
  rw [nv_lim hN] at h1
  have h2 := lim_nv (l := (lim N).set q x) (by rw [List.length_set, lim_len]) (all_set (lim_lt N) hx)
  rw [← h2.1]
  congr 1
  omega
theorem pow_half (q : Nat) : b6 ^ (2 * q) = bb ^ q := by rw [Nat.pow_mul]; rfl
theorem limb_even {n q a : Nat} (hq : q < 8) (ha : a = n / b6 ^ (2 * q) % b6) (hn : n < big) : (lim (n % b6 ^ (2 * q))).set q a = lim (n % b6 ^ (2 * q + 1)) := by
  have hp := pow_half q
  have hlt : n % b6 ^ (2 * q) < bb ^ q := by rw [hp]; exact Nat.mod_lt _ (Nat.pow_pos (by decide))
  refine lim_upd (old := 0) (Nat.lt_of_le_of_lt (Nat.mod_le _ _) hn) ?_ ?_ ?_
  · rw [lim_get hq, Nat.div_eq_of_lt hlt]; rfl
  · have : a < b6 := by rw [ha]; exact Nat.mod_lt _ (by decide)
    exact Nat.lt_trans this (by decide)
  · rw [mod_split, ← ha, hp]; omega
theorem limb_odd {n q a v : Nat} (hq : q < 8) (ha : a = n / b6 ^ (2 * q + 1) % b6) (hn : n < big) (hv : v = n % b6 ^ (2 * q + 1) / bb ^ q) : v < b6 ∧ (lim (n % b6 ^ (2 * q + 1)))[q]? = some v ∧ (lim (n % b6 ^ (2 * q + 1))).set q (v + a * b6) = lim (n % b6 ^ (2 * q + 2)) := by
  have hp := pow_half q
  have hp2 : b6 ^ (2 * q + 1) = bb ^ q * b6 := by rw [Nat.pow_succ, hp]
  have h0 : 0 < bb ^ q := Nat.pow_pos (by decide)
  have hlt : v < b6 := by
    have h1 : n % b6 ^ (2 * q + 1) < b6 ^ (2 * q + 1) := Nat.mod_lt _ (Nat.pow_pos (by decide))
    conv at h1 => rhs; rw [hp2, Nat.mul_comm]
    rw [hv]
    exact (Nat.div_lt_iff_lt_mul h0).2 h1
  have hvb : v < bb := Nat.lt_trans hlt (by decide)
  have hget : (lim (n % b6 ^ (2 * q + 1)))[q]? = some v := by rw [lim_get hq, ← hv, Nat.mod_eq_of_lt hvb]
  have ha6 : a < b6 := by rw [ha]; exact Nat.mod_lt _ (by decide)
  refine ⟨hlt, hget, lim_upd (old := v) (Nat.lt_of_le_of_lt (Nat.mod_le _ _) hn) hget ?_ ?_⟩
  · unfold b6 at hlt ha6; unfold b6 bb; omega
  · rw [mod_split (k := 2 * q + 1), ← ha, Nat.mul_add, hp2, Nat.mul_assoc, Nat.mul_comm b6 a]
    omega
theorem big_b6 : big = b6 ^ 16 := by decide
set_option maxRecDepth 100000 in
set_option maxHeartbeats 8000000 in
theorem rlimbs_any (n : Nat) (X : Option (Nat × Nat)) (capX : Nat) (w : World) (hx : Ro w X (dg b6 n).length 1 (iv (dg b6 n))) (hxl : (dg b6 n).length ≤ 1000000) :
    Calls Try.prog 97 #[.slice (adr X) (dg b6 n).length capX] w fun e w' => e = .returned (SV.t [.a (uc (lim (if n < big then n else 0))), .v (.bool (decide (n < big)))]).real ∧ Below w.heap.size w w' := by
  obtain ⟨m, hm⟩ : ∃ n', n' = (dg b6 n).length := ⟨_, rfl⟩
  have h16 := dg_len (B := b6) b6_2 16 n
  rw [← big_b6] at h16
  rw [← hm] at hx hxl h16 ⊢
  refine calls_sat (cx := Try.cx 42 [9] [] [] w) (Try.ok ..) Try.func97 rfl [.o 100 X m capX] rfl (by show 1 ≤ 42; omega) [(100, .ro X m 1 (iv (dg b6 n)))] (holds_ros rfl rfl ⟨hx, trivial⟩) ?_
  by_cases hb : n < big
  case neg =>
    have : ¬ m ≤ 16 := fun h => hb (h16.1 h)
    rw [if_neg hb, decide_eq_false hb]
    repeat' ((conv => whnf); first | refine walk (Try.ok ..) ?_ | fail)
    intro g2 hg2
    repeat' ((conv => whnf); first | refine walk (Try.ok ..) ?_ | fail)
    intro g4 hg4
    repeat' ((conv => whnf); first | refine walk (Try.ok ..) ?_ | (refine Cnd.mk (fun h => ?_) (fun h => ?_) <;> (first | exact cndT h (by (try dsimp only); omega) | exact cndF h (by (try dsimp only); omega) | (exfalso; simp at h; omega) | simp at h | skip)) | refine side2 ?_ | fail)
    exact done_pure rfl rfl rfl
  have h16 := h16.2 hb
  rw [if_pos hb, decide_eq_true hb]
  repeat' ((conv => whnf); first | refine walk (Try.ok ..) ?_ | fail)
  intro g2 hg2
  repeat' ((conv => whnf); first | refine walk (Try.ok ..) ?_ | fail)
  intro g4 hg4
  repeat' ((conv => whnf); first | refine walk (Try.ok ..) ?_ | (refine Cnd.mk (fun h => ?_) (fun h => ?_) <;> (first | exact cndT h (by (try dsimp only); omega) | exact cndF h (by (try dsimp only); omega) | (exfalso; simp at h; omega) | simp at h | skip)) | fail)
  refine sat_loop (Try.ok ..) (α := Nat) (fun i => ([(0, .yes, .o 100 X m capX), (2, .yes, .p 2 g2 0 0), (4, .yes, .p 4 g4 0 0), (5, .yes, .v (.int .i64 i))], [(2, .blk g2 24 (uc (lim 0))), (4, .blk g4 24 (uc (lim (n % b6 ^ i)))), (100, .ro X m 1 (iv (dg b6 n)))]))
    (fun i => i ≤ m) (fun i => m - i) (fun _ => rfl) ?_ ?_
  · refine ⟨0, Nat.zero_le _, ?_, ?_, rfl⟩
    · ((repeat' (first | exact trivial | exact rfl | refine And.intro ?_ ?_)) <;> (try (conv => whnf)) <;> (try simp only [SV.real, SV.r2, SV.r1]))
    · dsimp only
      rw [Nat.pow_zero, Nat.mod_one]
      ((repeat' (first | exact trivial | exact rfl | refine And.intro ?_ ?_)) <;> (try (conv => whnf)) <;> (try simp only [SV.real, SV.r2, SV.r1]))
  intro i hi
  by_cases hin : i < m
  · have hxa := dg_get b6_2 i n (by omega)
    obtain ⟨q, hq⟩ : ∃ q, q = i / 2 := ⟨_, rfl⟩
    have hq8 : q < 8 := by omega
    have la : n / b6 ^ i % b6 < 65536 := Nat.mod_lt _ (by decide)
    have hl8 := lim_len (n % b6 ^ i)
    have hul : (uc (lim (n % b6 ^ i))).length = 8 := by rw [uc_len, hl8]
    rcases (by omega : i = 2 * q ∨ i = 2 * q + 1) with rfl | rfl
    · have hset := limb_even (n := n) (q := q) hq8 rfl hb
      obtain ⟨a, ea⟩ : ∃ a, a = n / b6 ^ (2 * q) % b6 := ⟨_, rfl⟩
      rw [← ea] at hset hxa la
      have hlo : 0 + mulS (((2 * q : Nat) : Int) / 2).toNat 1 < (uc (lim (n % b6 ^ (2 * q)))).length := by rw [mulS_eq, hul]; omega
      repeat' ((conv => whnf); first | refine walk (Try.ok ..) ?_ | (refine Cnd.mk (fun h => ?_) (fun h => ?_) <;> (first | exact cndT h (by (try dsimp only); omega) | exact cndF h (by (try dsimp only); omega) | (exfalso; simp at h; omega) | simp at h | skip)) | refine side2 ?_ | refine sideL2 ?_ | refine xi _ (i_at hxa rfl) ?_ | fail)
      refine ⟨2 * q + 1, ⟨by omega, by omega⟩, ?_, ?_, rfl⟩
      · ((repeat' (first | exact trivial | exact rfl | refine And.intro ?_ ?_)) <;> (try (conv => whnf)) <;> (try simp only [SV.real, SV.r2, SV.r1]))
      · dsimp only
        rw [← hset]
        ((repeat' (first | exact trivial | exact rfl | refine And.intro ?_ ?_)) <;> (try (conv => whnf)) <;> (try simp only [SV.real, SV.r2, SV.r1]))
        all_goals exact congrArg (List.map SV.r1) (uc_put (by rw [mulS_eq]; omega) rfl)
    · obtain ⟨v, ev⟩ : ∃ v, v = n % b6 ^ (2 * q + 1) / bb ^ q := ⟨_, rfl⟩
      obtain ⟨hv6, hget, hset⟩ := limb_odd (n := n) (q := q) hq8 rfl hb ev
      obtain ⟨a, ea⟩ : ∃ a, a = n / b6 ^ (2 * q + 1) % b6 := ⟨_, rfl⟩
      rw [← ea] at hset hxa la
      have hlo : 0 + mulS (((2 * q + 1 : Nat) : Int) / 2).toNat 1 < (uc (lim (n % b6 ^ (2 * q + 1)))).length := by rw [mulS_eq, hul]; omega
      have hgo : (uc (lim (n % b6 ^ (2 * q + 1))))[0 + mulS (((2 * q + 1 : Nat) : Int) / 2).toNat 1]? = some (.v (.int .u32 v)) := by
        rw [mulS_eq, show 0 + (((2 * q + 1 : Nat) : Int) / 2).toNat * 1 = q by omega]
        exact uc_get hget
      have hv6 : v < 65536 := hv6
      repeat' ((conv => whnf); first | refine walk (Try.ok ..) ?_ | (refine Cnd.mk (fun h => ?_) (fun h => ?_) <;> (first | exact cndT h (by (try dsimp only); omega) | exact cndF h (by (try dsimp only); omega) | (exfalso; simp at h; omega) | simp at h | skip)) | refine sideL2 ?_ | fail)
      refine sat_draw (Try.ok ..) [5] [(100, .ro X m 1 (iv (dg b6 n)))] (by kernel_rfl) (fun w hw => hw.sub ?_) ?_
      · ((repeat' (first | exact trivial | exact rfl | refine And.intro ?_ ?_)) <;> (try (conv => whnf)) <;> (try simp only [SV.real, SV.r2, SV.r1]))
      repeat' ((conv => whnf); first | refine walk (Try.ok ..) ?_ | refine kp ?_ ?_ | exact trivial | refine side2 ?_ | refine sideL2 ?_ | refine xi _ (i_at hxa rfl) ?_ | refine xi _ (And.intro hgo rfl) ?_ | fail)
      refine ⟨2 * q + 1 + 1, ⟨by omega, by omega⟩, ?_, ?_, rfl⟩
      · ((repeat' (first | exact trivial | exact rfl | refine And.intro ?_ ?_)) <;> (try (conv => whnf)) <;> (try simp only [SV.real, SV.r2, SV.r1]))
      · dsimp only
        rw [← hset]
        ((repeat' (first | exact trivial | exact rfl | refine And.intro ?_ ?_)) <;> (try (conv => whnf)) <;> (try simp only [SV.real, SV.r2, SV.r1]))
        all_goals exact congrArg (List.map SV.r1) (uc_put (by rw [mulS_eq]; omega) (by unfold b6; omega))
  · obtain rfl : i = m := by omega
    have hmod : n % b6 ^ i = n := Nat.mod_eq_of_lt ((dg_len b6_2 i n).1 (by omega))
    have hl8 := lim_len n
    have hul : (uc (lim n)).length = 8 := by rw [uc_len, hl8]
    rw [hmod]
    repeat' ((conv => whnf); first | refine walk (Try.ok ..) ?_ | (refine Cnd.mk (fun h => ?_) (fun h => ?_) <;> (first | exact cndT h (by (try dsimp only); omega) | exact cndF h (by (try dsimp only); omega) | (exfalso; simp at h; omega) | simp at h | skip)) | refine side2 ?_ | fail)
    exact done_pure rfl rfl rfl
end
end Go.Proofs.Ytomhfakkebaciaa
