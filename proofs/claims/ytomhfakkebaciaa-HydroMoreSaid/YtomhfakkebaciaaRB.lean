/-
  The walks of the reference's numbers: quotients. The walks of the reference's numbers: common divisors.
-/
import Derived.Test.YtomhfakkebaciaaRA
set_option linter.unusedSimpArgs false
set_option linter.unusedVariables false
namespace Go.Proofs.Ytomhfakkebaciaa
section
open Go Sat Go.RowKit Go.PlainAid
set_option linter.unusedSimpArgs false
set_option linter.unusedVariables false
theorem made_iv (k : Nat) : (madeCells (Value.int .i64 0).cells (k * 1)).toList = iv (List.replicate k 0) := by
  have e : iv (List.replicate k 0) = List.replicate k (.int .i64 0) := by simp [iv]
  rw [Nat.mul_one, e]
  unfold madeCells
  apply List.ext_getElem
  · simp
  · intro i h1 h2
    have : i % 1 = 0 := by omega
    simp [Value.cells, this]
set_option maxRecDepth 100000 in
set_option maxHeartbeats 8000000 in
theorem rdiv_less (x y : Nat) (X Y : Option (Nat × Nat)) (capX capY : Nat) (w : World) (hxy : x < y) (hx : Ro w X (dg b6 x).length 1 (iv (dg b6 x))) (hy : Ro w Y (dg b6 y).length 1 (iv (dg b6 y))) (hxl : (dg b6 x).length ≤ 1000000) (hyl : (dg b6 y).length ≤ 1000000) :
    Calls Try.prog 95 #[.slice (adr X) (dg b6 x).length capX, .slice (adr Y) (dg b6 y).length capY] w fun e w' => e = .returned (.tuple #[.slice none 0 0, .slice (adr X) (dg b6 x).length capX]) ∧ Below w.heap.size w w' := by
  obtain ⟨n, hn⟩ : ∃ n, n = (dg b6 x).length := ⟨_, rfl⟩
  obtain ⟨m, hm⟩ : ∃ n, n = (dg b6 y).length := ⟨_, rfl⟩
  rw [← hn] at hx hxl ⊢
  rw [← hm] at hy hyl ⊢
  refine calls_sat (cx := Try.cx 112 [] [] [] w) (Try.ok ..) Try.func95 rfl [.o 100 X n capX, .o 101 Y m capY] rfl (by show 2 ≤ 112; omega) [(100, .ro X n 1 (iv (dg b6 x))), (101, .ro Y m 1 (iv (dg b6 y)))] (holds_ros rfl rfl ⟨hx, hy, trivial⟩) ?_
  repeat' ((conv => whnf); first | refine walk (Try.ok ..) ?_ | fail)
  refine called_at (.v (.bool true)) rfl (fun w' hh => by have h := rless_any x y X Y capX capY w' (by rw [← hn]; exact ro_of_ro hh (id := 100) rfl) (by rw [← hm]; exact ro_of_ro hh (id := 101) rfl) (by omega) (by omega); rw [← hn, ← hm, decide_eq_true hxy] at h; exact h) ?_
  repeat' ((conv => whnf); first | refine walk (Try.ok ..) ?_ | (refine Cnd.mk (fun h => ?_) (fun h => ?_) <;> (first | exact cndT h (by (try dsimp only); omega) | exact cndF h (by (try dsimp only); omega) | (exfalso; simp at h; omega) | simp at h | skip)) | fail)
  exact done_pure rfl rfl rfl
set_option maxRecDepth 100000 in
set_option maxHeartbeats 8000000 in
theorem rdiv_any (x y : Nat) (X Y : Option (Nat × Nat)) (capX capY : Nat) (w : World) (hxy : y ≤ x) (h0 : 0 < y) (hx : Ro w X (dg b6 x).length 1 (iv (dg b6 x))) (hy : Ro w Y (dg b6 y).length 1 (iv (dg b6 y))) (hxl : (dg b6 x).length ≤ 100000) (hcx : (dg b6 x).length ≤ capX) :
    Calls Try.prog 95 #[.slice (adr X) (dg b6 x).length capX, .slice (adr Y) (dg b6 y).length capY] w fun e w' => ∃ v u, e = .returned (.tuple #[v, u]) ∧ Rows2 w' w.heap.size 3 1 v u (dg b6 (x / y)).length (iv (dg b6 (x / y))) (dg b6 (x % y)).length (iv (dg b6 (x % y))) ∧ Below w.heap.size w w' := by
  have hbb : b6 = 65536 := rfl
  have hyl := len_le b6_2 hxy
  have hyp := (lt_len (s := y) (i := 0) b6_2).2 (by rw [Nat.pow_zero, Nat.div_one]; exact h0)
  obtain ⟨la, hn⟩ : ∃ n, n = (dg b6 x).length := ⟨_, rfl⟩
  obtain ⟨n, hm⟩ : ∃ n, n = (dg b6 y).length := ⟨_, rfl⟩
  rw [← hn] at hx hxl hyl hcx ⊢
  rw [← hm] at hy hyl hyp ⊢
  obtain ⟨pX, hpX, _⟩ := hx.2 (by omega)
  subst hpX
  have hsl : 0 ≤ (la : Int) - n + 1 ∧ (la : Int) - n + 1 ≤ la ∧ (la : Int) ≤ capX ∧ (some pX).isSome = true := ⟨by omega, by omega, by omega, rfl⟩
  obtain ⟨k0, hk0⟩ : ∃ k, k = la + 1 - n := ⟨_, rfl⟩
  have hnews : List.take (((la : Int) - ((la : Int) - n + 1)).toNat * 1) (List.drop (if capX = ((la : Int) - n + 1).toNat then 0 else mulS ((la : Int) - n + 1).toNat 1) (iv (dg b6 x))) = iv (dg b6 (x / b6 ^ k0)) := by
    have hl := dg_drop (B := b6) (x := x) (k := k0) b6_2
    have e1 : (((la : Int) - ((la : Int) - n + 1)).toNat * 1) = n - 1 := by omega
    have e2 : ((la : Int) - n + 1).toNat = k0 := by omega
    rw [e1, e2]
    by_cases hc : capX = k0
    · have e3 : n - 1 = 0 := by omega
      have e4 : x / b6 ^ k0 = 0 := Nat.div_eq_of_lt ((dg_len b6_2 k0 x).1 (by omega))
      rw [e3, e4]
      rfl
    · rw [if_neg hc, mulS_eq, Nat.mul_one, iv_drop, hl, List.take_of_length_le]
      rw [iv_len, ← hl, List.length_drop, ← hn]
      omega
  have elen : ((la : Int) - ((la : Int) - n + 1)).toNat = (dg b6 (x / b6 ^ k0)).length := by
    rw [← dg_drop (B := b6) (x := x) (k := k0) b6_2, List.length_drop, ← hn]
    omega
  have hall : allV (List.take (((la : Int) - ((la : Int) - n + 1)).toNat * 1) (List.drop (if capX = ((la : Int) - n + 1).toNat then 0 else mulS ((la : Int) - n + 1).toNat 1) (iv (dg b6 x)))) = true := by rw [hnews]; exact iv_all _
  have hlen : (if capX = ((la : Int) - n + 1).toNat then 0 else mulS ((la : Int) - n + 1).toNat 1) + ((la : Int) - ((la : Int) - n + 1)).toNat * 1 ≤ (iv (dg b6 x)).length := by
    rw [iv_len, ← hn, mulS_eq]
    split <;> omega
  refine calls_sat (cx := Try.cx 112 [] [] [] w) (Try.ok ..) Try.func95 rfl [.o 100 (some pX) la capX, .o 101 Y n capY] rfl (by show 2 ≤ 112; omega) [(100, .ro (some pX) la 1 (iv (dg b6 x))), (101, .ro Y n 1 (iv (dg b6 y)))] (holds_ros rfl rfl ⟨hx, hy, trivial⟩) ?_
  repeat' ((conv => whnf); first | refine walk (Try.ok ..) ?_ | fail)
  refine called_at (.v (.bool false)) rfl (fun w' hh => by have h := rless_any x y (some pX) Y capX capY w' (by rw [← hn]; exact ro_of_ro hh (id := 100) rfl) (by rw [← hm]; exact ro_of_ro hh (id := 101) rfl) (by omega) (by omega); rw [← hn, ← hm, decide_eq_false (by omega)] at h; exact h) ?_
  repeat' ((conv => whnf); first | refine walk (Try.ok ..) ?_ | (refine Cnd.mk (fun h => ?_) (fun h => ?_) <;> (first | exact cndT h (by (try dsimp only); omega) | exact cndF h (by (try dsimp only); omega) | (exfalso; simp at h; omega) | simp at h | skip)) | fail)
  intro g21 hg21
  repeat' ((conv => whnf); first | refine side2 ?_ | refine sideL2 ?_ | refine Or.inr ?_ | fail)
  intro A2 cap2
  rw [hnews, elen]
  repeat' ((conv => whnf); first | refine walk (Try.ok ..) ?_ | refine side2 ?_ | refine sideL2 ?_ | fail)
  intro g35 hg35
  have ek0 : ((la : Int) - n + 1).toNat = k0 := by omega
  rw [ek0]
  repeat' ((conv => whnf); first | refine walk (Try.ok ..) ?_ | refine sideL2 ?_ | fail)
  refine sat_ren [(0, .yes, .o 100 (some pX) la capX), (1, .yes, .o 101 Y n capY), (6, .yes, .v (.int .i64 n)), (7, .yes, .o 108 A2 (dg b6 (x / b6 ^ k0)).length cap2), (8, .yes, .o 35 (some (g35, 0)) k0 k0), (9, .yes, .v (.int .i64 ((k0 : Int) - 1)))]
    [(100, 100, .ro (some pX) la 1 (iv (dg b6 x))), (101, 101, .ro Y n 1 (iv (dg b6 y))), (108, 21, .row A2 3 1 (0 + (dg b6 (x / b6 ^ k0)).length) cap2 (iv (dg b6 (x / b6 ^ k0)))), (35, 35, .row (some (g35, 0)) 3 1 k0 k0 (madeCells (Value.int .i64 0).cells (k0 * 1)).toList)] rfl rfl rfl rfl ?_ ?_
  · ((repeat' (first | exact trivial | exact rfl | refine And.intro ?_ ?_)) <;> (try (conv => whnf)) <;> (try simp only [SV.real, SV.r2, SV.r1]))
    · exact congrArg (fun k => Value.slice (adr A2) k cap2) (Nat.zero_add _)
    · exact congrArg (Value.int .i64) (by omega)
  rw [made_iv, Nat.zero_add]
  have hq0 : x / b6 ^ k0 < y := by
    have h1 : b6 ^ (n - 1) ≤ y := dg_lower b6_2 (by omega)
    have h2 : x / b6 ^ k0 < b6 ^ (n - 1) := by
      rw [Nat.div_lt_iff_lt_mul (Nat.pow_pos (by decide)), ← Nat.pow_add]
      exact (dg_len b6_2 _ x).1 (by omega)
    omega
  refine sat_loop (Try.ok ..) (α := Nat × Option (Nat × Nat) × Nat × List Nat) (fun s => ([(0, .yes, .o 100 (some pX) la capX), (1, .yes, .o 101 Y n capY), (6, .yes, .v (.int .i64 n)), (7, .yes, .o 108 s.2.1 (dg b6 (x / b6 ^ s.1 % y)).length s.2.2.1), (8, .yes, .o 35 (some (g35, 0)) k0 k0), (9, .yes, .v (.int .i64 ((s.1 : Int) - 1)))],
    [(100, .ro (some pX) la 1 (iv (dg b6 x))), (101, .ro Y n 1 (iv (dg b6 y))), (108, .row s.2.1 3 1 (dg b6 (x / b6 ^ s.1 % y)).length s.2.2.1 (iv (dg b6 (x / b6 ^ s.1 % y)))), (35, .row (some (g35, 0)) 3 1 k0 k0 (iv s.2.2.2))]))
    (fun s => s.1 ≤ k0 ∧ s.2.2.2.length = k0 ∧ (∀ z ∈ s.2.2.2, z < b6) ∧ (∀ q, q < s.1 → s.2.2.2[q]? = some 0) ∧ nv b6 s.2.2.2 = b6 ^ s.1 * (x / b6 ^ s.1 / y)) (fun s => s.1) (fun _ => rfl) ?_ ?_
  · refine ⟨(k0, A2, cap2, List.replicate k0 0), ⟨Nat.le_refl _, List.length_replicate .., ?_, ?_, ?_⟩, ?_, ?_, rfl⟩
    · intro z hz
      rw [(List.mem_replicate.1 hz).2]; decide
    · intro q hq
      rw [List.getElem?_replicate, if_pos hq]
    · rw [nv_rep, Nat.div_eq_of_lt hq0, Nat.mul_zero]
    · dsimp only
      rw [Nat.mod_eq_of_lt hq0]
      ((repeat' (first | exact trivial | exact rfl | refine And.intro ?_ ?_)) <;> (try (conv => whnf)) <;> (try simp only [SV.real, SV.r2, SV.r1]))
    · dsimp only
      rw [Nat.mod_eq_of_lt hq0]
      ((repeat' (first | exact trivial | exact rfl | refine And.intro ?_ ?_)) <;> (try (conv => whnf)) <;> (try simp only [SV.real, SV.r2, SV.r1]))
  rintro ⟨j, A, cap, o⟩ ⟨hj, ho, hob, hoz, hinv⟩
  dsimp only at hj ho hob hoz hinv
  by_cases hj0 : j = 0
  · subst hj0
    rw [Nat.pow_zero, Nat.one_mul, Nat.div_one] at hinv
    have htr := trim_nil (B := b6) b6_2 hob
    rw [hinv] at htr
    have htl : (dg b6 (x / y)).length ≤ k0 := by
      rw [htr, ← ho]; exact trim_len _
    rw [Nat.pow_zero, Nat.div_one]
    repeat' ((conv => whnf); first | refine walk (Try.ok ..) ?_ | (refine Cnd.mk (fun h => ?_) (fun h => ?_) <;> (first | exact cndT h (by (try dsimp only); omega) | exact cndF h (by (try dsimp only); omega) | (exfalso; simp at h; omega) | simp at h | skip)) | fail)
    refine called_trim 35 (dg b6 (x / y)).length rfl htl (fun w' hh => by
      have h1 := rtrim_any o (some (g35, 0)) k0 w' (by rw [ho]; exact ro_of_row hh (id := 35) rfl) (by omega) (by omega)
      rw [← htr, ho] at h1
      exact h1) ?_
    repeat' ((conv => whnf); first | refine walk (Try.ok ..) ?_ | fail)
    exact done_two (mk := fun v u => .tuple #[v, u]) rfl rfl 35 108 (by decide) (some (g35, 0)) k0 A cap rfl rfl (Nat.le_refl _) (Nat.le_refl _) (by
      show List.take _ (List.take _ (iv o)) = _
      rw [Nat.mul_one, List.take_take, Nat.min_self, iv_take, htr, ← trim_take6]) (by rw [Nat.mul_one, List.take_of_length_le (by rw [iv_len]; exact Nat.le_refl _)]) rfl
  obtain ⟨i, rfl⟩ : ∃ i, j = i + 1 := ⟨j - 1, by omega⟩
  have hxa := dg_get b6_2 i x (by omega)
  obtain ⟨hd1, hd2, hd3⟩ := div_next (B := b6) (x := x) (y := y) (i := i) (by decide) h0
  have hal : x / b6 ^ i % b6 < b6 := Nat.mod_lt _ (by decide)
  obtain ⟨a, ea⟩ : ∃ a, a = x / b6 ^ i % b6 := ⟨_, rfl⟩
  obtain ⟨R, eR⟩ : ∃ a, a = x / b6 ^ (i + 1) % y := ⟨_, rfl⟩
  rw [← ea] at hxa hd1 hd2 hd3 hal
  rw [← eR] at hd1 hd2 hd3 ⊢
  have hRn : (dg b6 R).length ≤ n := by rw [hm, eR]; exact len_le b6_2 (Nat.le_of_lt (Nat.mod_lt _ h0))
  have halR : allV (List.take ((dg b6 R).length * 1) (iv (dg b6 R))) = true := by rw [iv_take]; exact iv_all _
  have hRl : (iv (dg b6 R)).length = (dg b6 R).length := iv_len _
  obtain ⟨R', eR'⟩ : ∃ r, r = a + b6 * R := ⟨_, rfl⟩
  rw [← eR'] at hd1 hd2 hd3
  have hct := cons_trim (B := b6) (m := R) b6_2 hal
  rw [← eR'] at hct
  have hset : [Value.int .i64 (a : Int)] ++ List.take ((dg b6 R).length * 1) (iv (dg b6 R)) = iv (a :: dg b6 R) := by
    rw [Nat.mul_one, List.take_of_length_le (by rw [iv_len]; exact Nat.le_refl _)]
    rfl
  have hR'l : (dg b6 R').length ≤ 1 + (dg b6 R).length := by
    rw [← hct]
    have := trim_len (a :: dg b6 R)
    rw [List.length_cons] at this
    omega
  have hcut : ([Value.int .i64 (a : Int)] ++ List.take ((dg b6 R).length * 1) (iv (dg b6 R))).take ((dg b6 R').length * 1) = iv (dg b6 R') := by
    rw [hset, Nat.mul_one, iv_take, ← hct, ← trim_take6]
  repeat' ((conv => whnf); first | refine walk (Try.ok ..) ?_ | (refine Cnd.mk (fun h => ?_) (fun h => ?_) <;> (first | exact cndT h (by (try dsimp only); omega) | exact cndF h (by (try dsimp only); omega) | (exfalso; simp at h; omega) | simp at h | skip)) | refine side2 ?_ | refine xi _ (i_at hxa (by omega)) ?_ | fail)
  intro g48 hg48
  repeat' ((conv => whnf); first | refine side2 ?_ | fail)
  intro A3 cap3
  skip
  refine called_trim 48 (dg b6 R').length rfl hR'l (fun w' hh => by
    have h0 : Ro w' A3 (1 + (dg b6 R).length) 1 (iv (a :: dg b6 R)) := by rw [← hset]; exact ro_of_row hh (id := 48) rfl
    have h1 := rtrim_any (a :: dg b6 R) A3 cap3 w' (by rw [List.length_cons, Nat.add_comm]; exact h0) (by rw [List.length_cons]; omega) (by rw [List.length_cons, Nat.add_comm]; exact row_cap6 hh (id := 48) rfl)
    rw [hct, List.length_cons, Nat.add_comm] at h1
    exact h1) ?_
  repeat' ((conv => whnf); first | refine walk (Try.ok ..) ?_ | refine sideL2 ?_ | fail)
  have hyn : y < b6 ^ n := by rw [hm]; exact dg_upper b6_2 y
  have hPn : 0 < b6 ^ (n - 1) := Nat.pow_pos (by decide)
  have hytop : b6 ^ (n - 1) ≤ y := dg_lower b6_2 (by omega)
  have hpp : b6 ^ n = b6 ^ (n - 1) * b6 := by rw [← Nat.pow_succ]; congr 1; omega
  have hR1 : ∀ u, n ≤ u → R' / b6 ^ u < b6 := fun u hu => by
    rw [Nat.div_lt_iff_lt_mul (Nat.pow_pos (by decide))]
    have h1 : b6 * y < b6 * b6 ^ n := Nat.mul_lt_mul_of_pos_left hyn (by decide)
    have h2 : b6 * b6 ^ n ≤ b6 * b6 ^ u := Nat.mul_le_mul_left _ (Nat.pow_le_pow_right (by decide) hu)
    omega
  refine sat_loop (Try.ok ..) (α := Nat) (fun t => ([(0, .yes, .o 100 (some pX) la capX), (1, .yes, .o 101 Y n capY), (6, .yes, .v (.int .i64 n)), (7, .yes, .o 48 A3 (dg b6 R').length cap3), (8, .yes, .o 35 (some (g35, 0)) k0 k0), (9, .yes, .v (.int .i64 (((i + 1 : Nat) : Int) - 1))), (10, .yes, .v (.int .i64 ((R' / b6 ^ t : Nat) : Int))), (11, .yes, .v (.int .i64 ((t : Int) - 1)))], [(100, .ro (some pX) la 1 (iv (dg b6 x))), (101, .ro Y n 1 (iv (dg b6 y))), (48, .row A3 3 1 (dg b6 R').length cap3 (iv (dg b6 R'))), (35, .row (some (g35, 0)) 3 1 k0 k0 (iv o))])) (fun t => t ≤ (dg b6 R').length ∧ (n - 1 ≤ t ∨ t = (dg b6 R').length)) (fun t => t) (fun _ => rfl) ?_ ?_
  · refine ⟨(dg b6 R').length, ⟨Nat.le_refl _, .inr rfl⟩, ?_, ?_, rfl⟩
    · dsimp only
      rw [Nat.div_eq_of_lt (dg_upper b6_2 R')]
      ((repeat' (first | exact trivial | exact rfl | refine And.intro ?_ ?_)) <;> (try (conv => whnf)) <;> (try simp only [SV.real, SV.r2, SV.r1]))
    · ((repeat' (first | exact trivial | exact rfl | refine And.intro ?_ ?_)) <;> (try (conv => whnf)) <;> (try simp only [SV.real, SV.r2, SV.r1]))
      all_goals exact hcut
  rintro t ⟨ht1, ht2⟩
  by_cases htn : n ≤ t
  · obtain ⟨u, rfl⟩ : ∃ u, t = u + 1 := ⟨t - 1, by omega⟩
    have hra := dg_get b6_2 u R' (by omega)
    have hs := div_split b6 R' u
    have hl1 := hR1 (u + 1) htn
    have hl2 : R' / b6 ^ u % b6 < b6 := Nat.mod_lt _ (by decide)
    obtain ⟨T1, eT1⟩ : ∃ r, r = R' / b6 ^ (u + 1) := ⟨_, rfl⟩
    obtain ⟨d1, ed1⟩ : ∃ r, r = R' / b6 ^ u % b6 := ⟨_, rfl⟩
    rw [← ed1] at hra hs hl2
    rw [← eT1] at hs hl1 ⊢
    rw [hbb] at hl1 hl2
    have hs' : R' / b6 ^ u = 65536 * T1 + d1 := hs
    repeat' ((conv => whnf); first | refine walk (Try.ok ..) ?_ | (refine Cnd.mk (fun h => ?_) (fun h => ?_) <;> (first | exact cndT h (by (try dsimp only); omega) | exact cndF h (by (try dsimp only); omega) | (exfalso; simp at h; omega) | simp at h | skip)) | refine side2 ?_ | refine sideL2 ?_ | refine xi _ (i_at hra (by omega)) ?_ | fail)
    refine ⟨u, ⟨⟨by omega, .inl (by omega)⟩, by omega⟩, ?_, ?_, rfl⟩
    · dsimp only
      rw [hs']
      ((repeat' (first | exact trivial | exact rfl | refine And.intro ?_ ?_)) <;> (try (conv => whnf)) <;> (try simp only [SV.real, SV.r2, SV.r1]))
      all_goals exact congrArg (Value.int .i64) (by omega)
    · ((repeat' (first | exact trivial | exact rfl | refine And.intro ?_ ?_)) <;> (try (conv => whnf)) <;> (try simp only [SV.real, SV.r2, SV.r1]))
  have hT : R' / b6 ^ t = R' / b6 ^ (n - 1) := by
    rcases ht2 with h | h
    · rw [show t = n - 1 by omega]
    · have h1 : R' < b6 ^ t := by rw [h]; exact dg_upper b6_2 R'
      rw [Nat.div_eq_of_lt h1, Nat.div_eq_of_lt (Nat.lt_of_lt_of_le h1 (Nat.pow_le_pow_right (by decide) (by omega)))]
  rw [hT]
  have hTl : R' / b6 ^ (n - 1) < b6 * b6 := by
    rw [Nat.div_lt_iff_lt_mul hPn, Nat.mul_assoc, Nat.mul_comm b6 (b6 ^ (n - 1)), ← hpp]
    exact Nat.lt_of_lt_of_le hd3 (Nat.mul_le_mul_left _ (Nat.le_of_lt hyn))
  have hbtl : y / b6 ^ (n - 1) < b6 := by
    rw [Nat.div_lt_iff_lt_mul hPn, Nat.mul_comm, ← hpp]
    exact hyn
  have hbt0 : 0 < y / b6 ^ (n - 1) := Nat.div_pos hytop hPn
  have hbt := dg_get b6_2 (n - 1) y (by omega)
  rw [Nat.mod_eq_of_lt hbtl] at hbt
  obtain ⟨T1, eT1⟩ : ∃ r, r = R' / b6 ^ (n - 1) := ⟨_, rfl⟩
  obtain ⟨bt, ebt⟩ : ∃ r, r = y / b6 ^ (n - 1) := ⟨_, rfl⟩
  obtain ⟨hb1, hb2, hb3⟩ := div_bounds (B := b6) hPn ebt eT1 (by rw [ebt]; exact hbt0) h0 hd3 (by decide)
  rw [← eT1] at hTl ⊢
  rw [← ebt] at hbt hbt0 hbtl
  rw [hbb] at hTl hbtl
  have eq1 : (T1 : Int) / ((bt : Int) + 1) = ((T1 / (bt + 1) : Nat) : Int) := (Int.natCast_ediv T1 (bt + 1)).symm
  have eq2 : (T1 : Int) / (bt : Int) = ((T1 / bt : Nat) : Int) := (Int.natCast_ediv T1 bt).symm
  have hb65 : min (T1 / bt) (b6 - 1) ≤ 65535 := Nat.min_le_right _ _
  repeat' ((conv => whnf); first | refine walk (Try.ok ..) ?_ | (refine Cnd.mk (fun h => ?_) (fun h => ?_) <;> (first | exact cndT h (by (try dsimp only); omega) | exact cndF h (by (try dsimp only); omega) | (exfalso; simp at h; omega) | simp at h | skip)) | refine side2 ?_ | refine sideL2 ?_ | refine xi _ (i_at hbt (by omega)) ?_ | fail)
  refine sat_loop (Try.ok ..) (α := Nat × Nat) (fun s => ([(0, .yes, .o 100 (some pX) la capX), (1, .yes, .o 101 Y n capY), (6, .yes, .v (.int .i64 n)), (7, .yes, .o 48 A3 (dg b6 R').length cap3), (8, .yes, .o 35 (some (g35, 0)) k0 k0), (9, .yes, .v (.int .i64 (((i + 1 : Nat) : Int) - 1))), (12, .yes, .v (.int .i64 s.1)), (13, .yes, .v (.int .i64 s.2))], [(100, .ro (some pX) la 1 (iv (dg b6 x))), (101, .ro Y n 1 (iv (dg b6 y))), (48, .row A3 3 1 (dg b6 R').length cap3 (iv (dg b6 R'))), (35, .row (some (g35, 0)) 3 1 k0 k0 (iv o))])) (fun s => s.1 * y ≤ R' ∧ R' < (s.2 + 1) * y ∧ s.1 ≤ s.2 ∧ s.2 ≤ 65535) (fun s => s.2 - s.1) (fun _ => rfl) ?_ ?_
  · refine ⟨(T1 / (bt + 1), min (T1 / bt) (b6 - 1)), ⟨hb1, hb2, hb3, hb65⟩, ?_, ?_, rfl⟩
    · ((repeat' (first | exact trivial | exact rfl | refine And.intro ?_ ?_)) <;> (try (conv => whnf)) <;> (try simp only [SV.real, SV.r2, SV.r1]))
      all_goals exact congrArg (Value.int .i64) (by rw [eq2, hbb]; omega)
    · ((repeat' (first | exact trivial | exact rfl | refine And.intro ?_ ?_)) <;> (try (conv => whnf)) <;> (try simp only [SV.real, SV.r2, SV.r1]))
  rintro ⟨l, hi⟩ ⟨hb1, hb2, hb3, hb4⟩
  dsimp only at hb1 hb2 hb3 hb4
  by_cases hlh : l < hi
  · obtain ⟨m, em⟩ : ∃ m, m = (l + hi + 1) / 2 := ⟨_, rfl⟩
    have em' : ((l : Int) + hi + 1) / 2 = (m : Int) := by omega
    have hmu : (dg b6 (y * m)).length ≤ n + 1 := by
      rw [dg_len b6_2, Nat.pow_succ]
      exact Nat.mul_lt_mul'' hyn (by rw [hbb]; omega)
    repeat' ((conv => whnf); first | refine walk (Try.ok ..) ?_ | (refine Cnd.mk (fun h => ?_) (fun h => ?_) <;> (first | exact cndT h (by (try dsimp only); omega) | exact cndF h (by (try dsimp only); omega) | (exfalso; simp at h; omega) | simp at h | skip)) | refine sideL2 ?_ | fail)
    refine called_row 95 (xs := iv (dg b6 (y * m))) (m := (dg b6 (y * m)).length) (fun v => v) (fun A cap => .o 95 A (dg b6 (y * m)).length cap) (fun _ _ => rfl) (fun w' hh => by
      have h1 := rscale_any y m Y capY w' (by omega) (by rw [← hm]; exact ro_of_ro hh (id := 101) rfl) (by omega)
      rw [← em', ← hm] at h1
      exact h1) ?_
    intro A4 cap4
    skip
    refine called_at (.v (.bool (decide (R' < y * m)))) rfl (fun w' hh => rless_any R' (y * m) A3 A4 cap3 cap4 w' (ro_of_row hh (id := 48) rfl) (ro_of_row hh (id := 95) rfl) (by omega) (by omega)) ?_
    by_cases hle : R' < y * m
    · rw [decide_eq_true hle]
      repeat' ((conv => whnf); first | refine walk (Try.ok ..) ?_ | (refine Cnd.mk (fun h => ?_) (fun h => ?_) <;> (first | exact cndT h (by (try dsimp only); omega) | exact cndF h (by (try dsimp only); omega) | (exfalso; simp at h; omega) | simp at h | skip)) | refine sideL2 ?_ | fail)
      refine ⟨(l, m - 1), ⟨⟨hb1, by dsimp only; rw [Nat.sub_add_cancel (by omega), Nat.mul_comm]; exact hle, by dsimp only; omega, by dsimp only; omega⟩, by dsimp only; omega⟩, ?_, ?_, rfl⟩
      · ((repeat' (first | exact trivial | exact rfl | refine And.intro ?_ ?_)) <;> (try (conv => whnf)) <;> (try simp only [SV.real, SV.r2, SV.r1]))
        all_goals exact congrArg (Value.int .i64) (by omega)
      · ((repeat' (first | exact trivial | exact rfl | refine And.intro ?_ ?_)) <;> (try (conv => whnf)) <;> (try simp only [SV.real, SV.r2, SV.r1]))
    · rw [decide_eq_false hle]
      repeat' ((conv => whnf); first | refine walk (Try.ok ..) ?_ | (refine Cnd.mk (fun h => ?_) (fun h => ?_) <;> (first | exact cndT h (by (try dsimp only); omega) | exact cndF h (by (try dsimp only); omega) | (exfalso; simp at h; omega) | simp at h | skip)) | fail)
      refine ⟨(m, hi), ⟨⟨by dsimp only; rw [Nat.mul_comm]; omega, hb2, by dsimp only; omega, hb4⟩, by dsimp only; omega⟩, ?_, ?_, rfl⟩
      · ((repeat' (first | exact trivial | exact rfl | refine And.intro ?_ ?_)) <;> (try (conv => whnf)) <;> (try simp only [SV.real, SV.r2, SV.r1]))
        all_goals exact congrArg (Value.int .i64) em'
      · ((repeat' (first | exact trivial | exact rfl | refine And.intro ?_ ?_)) <;> (try (conv => whnf)) <;> (try simp only [SV.real, SV.r2, SV.r1]))
  obtain rfl : l = hi := by omega
  obtain ⟨hq1, hq2⟩ := div_is hb1 hb2 h0
  have hll : (dg b6 (y * l)).length ≤ n + 1 := by
    rw [dg_len b6_2, Nat.pow_succ]
    exact Nat.mul_lt_mul'' hyn (by rw [hbb]; omega)
  have hly : y * l ≤ R' := by rw [Nat.mul_comm]; exact hb1
  have hre : R' - y * l = x / b6 ^ i % y := by rw [Nat.mul_comm, hq2, hd2]
  have ho0 := hoz i (by omega)
  have hs2 := nv_set (B := b6) (x := l) ho0
  have hnq := quo_next hinv hs2 (by rw [← hq1]; exact hd1)
  have hlo : mulS (((i + 1 : Nat) : Int) - 1).toNat 1 < (iv o).length := by rw [mulS_eq, iv_len]; omega
  have hoset : (iv o).set (mulS (((i + 1 : Nat) : Int) - 1).toNat 1) (.int .i64 (l : Int)) = iv (o.set i l) := by
    rw [mulS_eq, Nat.mul_one, show (((i + 1 : Nat) : Int) - 1).toNat = i by omega, iv_set]
  repeat' ((conv => whnf); first | refine walk (Try.ok ..) ?_ | (refine Cnd.mk (fun h => ?_) (fun h => ?_) <;> (first | exact cndT h (by (try dsimp only); omega) | exact cndF h (by (try dsimp only); omega) | (exfalso; simp at h; omega) | simp at h | skip)) | refine side2 ?_ | fail)
  refine called_row 107 (xs := iv (dg b6 (y * l))) (m := (dg b6 (y * l)).length) (fun v => v) (fun A cap => .o 107 A (dg b6 (y * l)).length cap) (fun _ _ => rfl) (fun w' hh => by
    have h1 := rscale_any y l Y capY w' (by omega) (by rw [← hm]; exact ro_of_ro hh (id := 101) rfl) (by omega)
    rw [← hm] at h1
    exact h1) ?_
  intro A5 cap5
  skip
  refine called_row 108 (xs := iv (dg b6 (x / b6 ^ i % y))) (m := (dg b6 (x / b6 ^ i % y)).length) (fun v => v) (fun A cap => .o 108 A (dg b6 (x / b6 ^ i % y)).length cap) (fun _ _ => rfl) (fun w' hh => by
    have h1 := rsub_any R' (y * l) A3 A5 cap3 cap5 w' hly (ro_of_row hh (id := 48) rfl) (ro_of_row hh (id := 107) rfl) (by omega)
    rw [hre] at h1
    exact h1) ?_
  intro A6 cap6
  repeat' ((conv => whnf); first | refine walk (Try.ok ..) ?_ | refine sideL2 ?_ | fail)
  refine ⟨(i, A6, cap6, o.set i l), ⟨⟨by dsimp only; omega, by rw [List.length_set]; exact ho, all_set hob (by rw [hbb]; omega), fun q hq => ?_, hnq⟩, by dsimp only; omega⟩, ?_, ?_, rfl⟩
  · rw [List.getElem?_set_ne (by omega)]
    exact hoz q (by omega)
  · ((repeat' (first | exact trivial | exact rfl | refine And.intro ?_ ?_)) <;> (try (conv => whnf)) <;> (try simp only [SV.real, SV.r2, SV.r1]))
    all_goals exact congrArg (Value.int .i64) (by omega)
  · ((repeat' (first | exact trivial | exact rfl | refine And.intro ?_ ?_)) <;> (try (conv => whnf)) <;> (try simp only [SV.real, SV.r2, SV.r1]))
    all_goals exact hoset
end
section
open Go Sat Go.RowKit Go.PlainAid
set_option linter.unusedSimpArgs false
set_option linter.unusedVariables false
inductive K5 where
  | s | a | b | c | d
structure CR where
  k : K5
  x : Nat
  y : Nat
  A : Option (Nat × Nat)
  cA : Nat
  B : Option (Nat × Nat)
  cB : Nat
theorem gcd_step6 (x y : Nat) : Nat.gcd y (x % y) = Nat.gcd x y := by
  rw [Nat.gcd_comm x y, Nat.gcd_rec y x, Nat.gcd_comm]
set_option maxRecDepth 100000 in
set_option maxHeartbeats 8000000 in
theorem rcommon_ge (x0 y0 : Nat) (X Y : Option (Nat × Nat)) (capX capY : Nat) (w : World) (hx : Ro w X (dg b6 x0).length 1 (iv (dg b6 x0))) (hy : Ro w Y (dg b6 y0).length 1 (iv (dg b6 y0))) (hxl : (dg b6 x0).length ≤ 100000) (hyl : (dg b6 y0).length ≤ 100000) (hcP : (dg b6 x0).length ≤ capX) (hcQ : (dg b6 y0).length ≤ capY) (hord : y0 ≤ x0) (hy0 : 0 < y0) :
    Calls Try.prog 85 #[.slice (adr X) (dg b6 x0).length capX, .slice (adr Y) (dg b6 y0).length capY] w fun e w' => (e = .returned (.slice (adr X) (dg b6 x0).length capX) ∧ Nat.gcd x0 y0 = x0 ∧ Below w.heap.size w w') ∨ (e = .returned (.slice (adr Y) (dg b6 y0).length capY) ∧ Nat.gcd x0 y0 = y0 ∧ Below w.heap.size w w') ∨ (∃ v, e = .returned v ∧ w'.ownsRow w.heap.size 3 1 v (dg b6 (Nat.gcd x0 y0)).length (iv (dg b6 (Nat.gcd x0 y0))) ∧ Below w.heap.size w w') := by
  obtain ⟨G, hG⟩ : ∃ G, G = Nat.gcd x0 y0 := ⟨_, rfl⟩
  rw [← hG]
  refine calls_sat (cx := Try.cx 19 [] [] [] w) (Try.ok ..) Try.func85 rfl [.o 100 X (dg b6 x0).length capX, .o 101 Y (dg b6 y0).length capY] rfl (by show 2 ≤ 19; omega) [(100, .ro X (dg b6 x0).length 1 (iv (dg b6 x0))), (101, .ro Y (dg b6 y0).length 1 (iv (dg b6 y0)))] (holds_ros rfl rfl ⟨hx, hy, trivial⟩) ?_
  repeat' ((conv => whnf); first | refine walk (Try.ok ..) ?_ | fail)
  refine sat_loop (Try.ok ..) (α := CR) (fun s => match s.k with
    | .s => ([(0, .yes, .o 101 Y (dg b6 y0).length capY), (1, .yes, .o 100 X (dg b6 x0).length capX)], [(100, .ro X (dg b6 x0).length 1 (iv (dg b6 x0))), (101, .ro Y (dg b6 y0).length 1 (iv (dg b6 y0)))])
    | .a => ([(0, .yes, .o 100 X (dg b6 x0).length capX), (1, .yes, .o 101 Y (dg b6 y0).length capY)], [(100, .ro X (dg b6 x0).length 1 (iv (dg b6 x0))), (101, .ro Y (dg b6 y0).length 1 (iv (dg b6 y0)))])
    | .b => ([(0, .yes, .o 101 Y (dg b6 y0).length capY), (1, .yes, .o 200 s.B (dg b6 s.y).length s.cB)], [(101, .ro Y (dg b6 y0).length 1 (iv (dg b6 y0))), (200, .row s.B 3 1 (dg b6 s.y).length s.cB (iv (dg b6 s.y)))])
    | .c => ([(0, .yes, .o 200 s.A (dg b6 s.x).length s.cA), (1, .yes, .o 301 s.B (dg b6 s.y).length s.cB)], [(200, .row s.A 3 1 (dg b6 s.x).length s.cA (iv (dg b6 s.x))), (301, .row s.B 3 1 (dg b6 s.y).length s.cB (iv (dg b6 s.y)))])
    | .d => ([(0, .yes, .o 301 s.A (dg b6 s.x).length s.cA), (1, .yes, .o 200 s.B (dg b6 s.y).length s.cB)], [(301, .row s.A 3 1 (dg b6 s.x).length s.cA (iv (dg b6 s.x))), (200, .row s.B 3 1 (dg b6 s.y).length s.cB (iv (dg b6 s.y)))]))
    (fun s => (dg b6 s.x).length ≤ 100000 ∧ (dg b6 s.y).length ≤ 100000 ∧ Nat.gcd s.x s.y = G ∧ (match s.k with | .s => s.x = y0 ∧ s.y = x0 ∧ s.x < s.y | .a => s.x = x0 ∧ s.y = y0 ∧ s.y ≤ s.x | .b => s.x = y0 ∧ s.y ≤ s.x | _ => s.y ≤ s.x)) (fun s => s.y) (fun s => by cases s with | mk k _ _ _ _ _ _ => cases k <;> rfl) ?_ ?_
  · refine ⟨⟨.a, x0, y0, none, 0, none, 0⟩, ⟨by dsimp only; omega, by dsimp only; omega, hG.symm, rfl, rfl, hord⟩, ?_, ?_, rfl⟩
    all_goals ((repeat' (first | exact trivial | exact rfl | refine And.intro ?_ ?_)) <;> (try (conv => whnf)) <;> (try simp only [SV.real, SV.r2, SV.r1]))
  rintro ⟨k, x, y, A1, c1, A2, c2⟩ ⟨hl1, hl2, hgc, hk⟩
  dsimp only at hl1 hl2 hgc hk
  have hgc2 := (gcd_step6 x y).trans hgc
  have hlm : 0 < y → (dg b6 (x % y)).length ≤ 100000 := fun h => Nat.le_trans (len_le b6_2 (Nat.le_of_lt (Nat.mod_lt x h))) hl2
  rcases Nat.eq_zero_or_pos y with h0 | h0
  · subst h0
    rw [Nat.gcd_zero_right] at hgc
    cases k
    · dsimp only at hk
      omega
    · obtain ⟨e1, e2, _⟩ := hk
      have e3 : dg b6 y0 = [] := by rw [← e2]; rfl
      dsimp only
      rw [e3]
      repeat' ((conv => whnf); first | refine walk (Try.ok ..) ?_ | (refine Cnd.mk (fun h => ?_) (fun h => ?_) <;> (first | exact cndT h (by (try dsimp only); omega) | exact cndF h (by (try dsimp only); omega) | (exfalso; simp at h; omega) | simp at h | skip)) | fail)
      all_goals exact (done_pure (x := .slice (adr X) (dg b6 x0).length capX) rfl rfl rfl).mono fun e w' hp => .inl ⟨hp.1, by omega, hp.2⟩
    · dsimp only at hk ⊢
      rw [dg_zero]
      repeat' ((conv => whnf); first | refine walk (Try.ok ..) ?_ | (refine Cnd.mk (fun h => ?_) (fun h => ?_) <;> (first | exact cndT h (by (try dsimp only); omega) | exact cndF h (by (try dsimp only); omega) | (exfalso; simp at h; omega) | simp at h | skip)) | fail)
      exact (done_pure (x := .slice (adr Y) (dg b6 y0).length capY) rfl rfl rfl).mono fun e w' hp => .inr (.inl ⟨hp.1, by omega, hp.2⟩)
    · dsimp only at hk ⊢
      rw [dg_zero]
      repeat' ((conv => whnf); first | refine walk (Try.ok ..) ?_ | (refine Cnd.mk (fun h => ?_) (fun h => ?_) <;> (first | exact cndT h (by (try dsimp only); omega) | exact cndF h (by (try dsimp only); omega) | (exfalso; simp at h; omega) | simp at h | skip)) | fail)
      subst hgc
      exact (done_row (mk := fun v => v) rfl rfl 200 A1 c1 rfl rfl).mono fun e w' hp => .inr (.inr hp)
    · dsimp only at hk ⊢
      rw [dg_zero]
      repeat' ((conv => whnf); first | refine walk (Try.ok ..) ?_ | (refine Cnd.mk (fun h => ?_) (fun h => ?_) <;> (first | exact cndT h (by (try dsimp only); omega) | exact cndF h (by (try dsimp only); omega) | (exfalso; simp at h; omega) | simp at h | skip)) | fail)
      subst hgc
      exact (done_row (mk := fun v => v) rfl rfl 301 A1 c1 rfl rfl).mono fun e w' hp => .inr (.inr hp)
  have hlm := hlm h0
  have hlt := Nat.mod_lt x h0
  have hyp : 0 < (dg b6 y).length := (lt_len (s := y) (i := 0) b6_2).2 (by rw [Nat.pow_zero, Nat.div_one]; exact h0)
  cases k
  · obtain ⟨e1, e2, hlt2⟩ := hk
    subst e1
    subst e2
    repeat' ((conv => whnf); first | refine walk (Try.ok ..) ?_ | (refine Cnd.mk (fun h => ?_) (fun h => ?_) <;> (first | exact cndT h (by (try dsimp only); omega) | exact cndF h (by (try dsimp only); omega) | (exfalso; simp at h; omega) | simp at h | skip)) | fail)
    refine called_at (.t [.v (.slice none 0 0), .o 101 Y (dg b6 x).length capY]) rfl (fun w' hh => by exact rdiv_less x y Y X capY capX w' hlt2 (ro_of_ro hh (id := 101) rfl) (ro_of_ro hh (id := 100) rfl) (by omega) (by omega)) ?_
    repeat' ((conv => whnf); first | refine walk (Try.ok ..) ?_ | fail)
    refine ⟨⟨.a, y, x, none, 0, none, 0⟩, ⟨⟨by dsimp only; omega, by dsimp only; omega, (Nat.gcd_comm y x).trans hgc, rfl, rfl, Nat.le_of_lt hlt2⟩, hlt2⟩, ?_, ?_, rfl⟩
    · ((repeat' (first | exact trivial | exact rfl | refine And.intro ?_ ?_)) <;> (try (conv => whnf)) <;> (try simp only [SV.real, SV.r2, SV.r1]))
    · ((repeat' (first | exact trivial | exact rfl | refine And.intro ?_ ?_)) <;> (try (conv => whnf)) <;> (try simp only [SV.real, SV.r2, SV.r1]))
  · obtain ⟨e1, e2, hyx⟩ := hk
    subst e1
    subst e2
    repeat' ((conv => whnf); first | refine walk (Try.ok ..) ?_ | (refine Cnd.mk (fun h => ?_) (fun h => ?_) <;> (first | exact cndT h (by (try dsimp only); omega) | exact cndF h (by (try dsimp only); omega) | (exfalso; simp at h; omega) | simp at h | skip)) | fail)
    refine called_row2 310 200 (m1 := (dg b6 (x / y)).length) (m2 := (dg b6 (x % y)).length) (xs1 := iv (dg b6 (x / y))) (xs2 := iv (dg b6 (x % y))) (fun v u => .tuple #[v, u]) (fun A c A' c' => .t [.o 310 A (dg b6 (x / y)).length c, .o 200 A' (dg b6 (x % y)).length c']) (fun _ _ _ _ => rfl) (fun w' hh => rdiv_any x y X Y capX capY w' hyx h0 (ro_of_ro hh (id := 100) rfl) (ro_of_ro hh (id := 101) rfl) (by omega) hcP) ?_
    intro A3 cap3 A4 cap4
    repeat' ((conv => whnf); first | refine walk (Try.ok ..) ?_ | fail)
    refine ⟨⟨.b, y, x % y, none, 0, A4, cap4⟩, ⟨⟨by dsimp only; omega, by dsimp only; omega, hgc2, ⟨rfl, Nat.le_of_lt hlt⟩⟩, hlt⟩, ?_, ?_, rfl⟩
    · ((repeat' (first | exact trivial | exact rfl | refine And.intro ?_ ?_)) <;> (try (conv => whnf)) <;> (try simp only [SV.real, SV.r2, SV.r1]))
    · ((repeat' (first | exact trivial | exact rfl | refine And.intro ?_ ?_)) <;> (try (conv => whnf)) <;> (try simp only [SV.real, SV.r2, SV.r1]))
  · obtain ⟨e1, hyx⟩ := hk
    subst e1
    repeat' ((conv => whnf); first | refine walk (Try.ok ..) ?_ | (refine Cnd.mk (fun h => ?_) (fun h => ?_) <;> (first | exact cndT h (by (try dsimp only); omega) | exact cndF h (by (try dsimp only); omega) | (exfalso; simp at h; omega) | simp at h | skip)) | fail)
    refine called_row2 310 301 (m1 := (dg b6 (x / y)).length) (m2 := (dg b6 (x % y)).length) (xs1 := iv (dg b6 (x / y))) (xs2 := iv (dg b6 (x % y))) (fun v u => .tuple #[v, u]) (fun A c A' c' => .t [.o 310 A (dg b6 (x / y)).length c, .o 301 A' (dg b6 (x % y)).length c']) (fun _ _ _ _ => rfl) (fun w' hh => rdiv_any x y Y A2 capY c2 w' hyx h0 (ro_of_ro hh (id := 101) rfl) (ro_of_row hh (id := 200) rfl) (by omega) hcQ) ?_
    intro A3 cap3 A4 cap4
    repeat' ((conv => whnf); first | refine walk (Try.ok ..) ?_ | fail)
    refine ⟨⟨.c, y, x % y, A2, c2, A4, cap4⟩, ⟨⟨by dsimp only; omega, by dsimp only; omega, hgc2, Nat.le_of_lt hlt⟩, hlt⟩, ?_, ?_, rfl⟩
    · ((repeat' (first | exact trivial | exact rfl | refine And.intro ?_ ?_)) <;> (try (conv => whnf)) <;> (try simp only [SV.real, SV.r2, SV.r1]))
    · ((repeat' (first | exact trivial | exact rfl | refine And.intro ?_ ?_)) <;> (try (conv => whnf)) <;> (try simp only [SV.real, SV.r2, SV.r1]))
  · have hyx : y ≤ x := hk
    repeat' ((conv => whnf); first | refine walk (Try.ok ..) ?_ | (refine Cnd.mk (fun h => ?_) (fun h => ?_) <;> (first | exact cndT h (by (try dsimp only); omega) | exact cndF h (by (try dsimp only); omega) | (exfalso; simp at h; omega) | simp at h | skip)) | fail)
    refine called_row2 310 200 (m1 := (dg b6 (x / y)).length) (m2 := (dg b6 (x % y)).length) (xs1 := iv (dg b6 (x / y))) (xs2 := iv (dg b6 (x % y))) (fun v u => .tuple #[v, u]) (fun A c A' c' => .t [.o 310 A (dg b6 (x / y)).length c, .o 200 A' (dg b6 (x % y)).length c']) (fun _ _ _ _ => rfl) (fun w' hh => rdiv_any x y A1 A2 c1 c2 w' hyx h0 (ro_of_row hh (id := 200) rfl) (ro_of_row hh (id := 301) rfl) (by omega) (row_cap6 hh (id := 200) rfl)) ?_
    intro A3 cap3 A4 cap4
    repeat' ((conv => whnf); first | refine walk (Try.ok ..) ?_ | fail)
    refine ⟨⟨.d, y, x % y, A2, c2, A4, cap4⟩, ⟨⟨by dsimp only; omega, by dsimp only; omega, hgc2, Nat.le_of_lt hlt⟩, hlt⟩, ?_, ?_, rfl⟩
    · ((repeat' (first | exact trivial | exact rfl | refine And.intro ?_ ?_)) <;> (try (conv => whnf)) <;> (try simp only [SV.real, SV.r2, SV.r1]))
    · ((repeat' (first | exact trivial | exact rfl | refine And.intro ?_ ?_)) <;> (try (conv => whnf)) <;> (try simp only [SV.real, SV.r2, SV.r1]))
  · have hyx : y ≤ x := hk
    repeat' ((conv => whnf); first | refine walk (Try.ok ..) ?_ | (refine Cnd.mk (fun h => ?_) (fun h => ?_) <;> (first | exact cndT h (by (try dsimp only); omega) | exact cndF h (by (try dsimp only); omega) | (exfalso; simp at h; omega) | simp at h | skip)) | fail)
    refine called_row2 310 301 (m1 := (dg b6 (x / y)).length) (m2 := (dg b6 (x % y)).length) (xs1 := iv (dg b6 (x / y))) (xs2 := iv (dg b6 (x % y))) (fun v u => .tuple #[v, u]) (fun A c A' c' => .t [.o 310 A (dg b6 (x / y)).length c, .o 301 A' (dg b6 (x % y)).length c']) (fun _ _ _ _ => rfl) (fun w' hh => rdiv_any x y A1 A2 c1 c2 w' hyx h0 (ro_of_row hh (id := 301) rfl) (ro_of_row hh (id := 200) rfl) (by omega) (row_cap6 hh (id := 301) rfl)) ?_
    intro A3 cap3 A4 cap4
    repeat' ((conv => whnf); first | refine walk (Try.ok ..) ?_ | fail)
    refine ⟨⟨.c, y, x % y, A2, c2, A4, cap4⟩, ⟨⟨by dsimp only; omega, by dsimp only; omega, hgc2, Nat.le_of_lt hlt⟩, hlt⟩, ?_, ?_, rfl⟩
    · ((repeat' (first | exact trivial | exact rfl | refine And.intro ?_ ?_)) <;> (try (conv => whnf)) <;> (try simp only [SV.real, SV.r2, SV.r1]))
    · ((repeat' (first | exact trivial | exact rfl | refine And.intro ?_ ?_)) <;> (try (conv => whnf)) <;> (try simp only [SV.real, SV.r2, SV.r1]))
set_option maxRecDepth 100000 in
set_option maxHeartbeats 8000000 in
theorem rcommon_lt (x0 y0 : Nat) (X Y : Option (Nat × Nat)) (capX capY : Nat) (w : World) (hx : Ro w X (dg b6 x0).length 1 (iv (dg b6 x0))) (hy : Ro w Y (dg b6 y0).length 1 (iv (dg b6 y0))) (hxl : (dg b6 x0).length ≤ 100000) (hyl : (dg b6 y0).length ≤ 100000) (hcQ : (dg b6 x0).length ≤ capX) (hcP : (dg b6 y0).length ≤ capY) (hord : x0 < y0) :
    Calls Try.prog 85 #[.slice (adr X) (dg b6 x0).length capX, .slice (adr Y) (dg b6 y0).length capY] w fun e w' => (e = .returned (.slice (adr Y) (dg b6 y0).length capY) ∧ Nat.gcd x0 y0 = y0 ∧ Below w.heap.size w w') ∨ (e = .returned (.slice (adr X) (dg b6 x0).length capX) ∧ Nat.gcd x0 y0 = x0 ∧ Below w.heap.size w w') ∨ (∃ v, e = .returned v ∧ w'.ownsRow w.heap.size 3 1 v (dg b6 (Nat.gcd x0 y0)).length (iv (dg b6 (Nat.gcd x0 y0))) ∧ Below w.heap.size w w') := by
  obtain ⟨G, hG⟩ : ∃ G, G = Nat.gcd x0 y0 := ⟨_, rfl⟩
  rw [← hG]
  refine calls_sat (cx := Try.cx 19 [] [] [] w) (Try.ok ..) Try.func85 rfl [.o 100 X (dg b6 x0).length capX, .o 101 Y (dg b6 y0).length capY] rfl (by show 2 ≤ 19; omega) [(100, .ro X (dg b6 x0).length 1 (iv (dg b6 x0))), (101, .ro Y (dg b6 y0).length 1 (iv (dg b6 y0)))] (holds_ros rfl rfl ⟨hx, hy, trivial⟩) ?_
  repeat' ((conv => whnf); first | refine walk (Try.ok ..) ?_ | fail)
  refine sat_loop (Try.ok ..) (α := CR) (fun s => match s.k with
    | .s => ([(0, .yes, .o 100 X (dg b6 x0).length capX), (1, .yes, .o 101 Y (dg b6 y0).length capY)], [(101, .ro Y (dg b6 y0).length 1 (iv (dg b6 y0))), (100, .ro X (dg b6 x0).length 1 (iv (dg b6 x0)))])
    | .a => ([(0, .yes, .o 101 Y (dg b6 y0).length capY), (1, .yes, .o 100 X (dg b6 x0).length capX)], [(101, .ro Y (dg b6 y0).length 1 (iv (dg b6 y0))), (100, .ro X (dg b6 x0).length 1 (iv (dg b6 x0)))])
    | .b => ([(0, .yes, .o 100 X (dg b6 x0).length capX), (1, .yes, .o 200 s.B (dg b6 s.y).length s.cB)], [(100, .ro X (dg b6 x0).length 1 (iv (dg b6 x0))), (200, .row s.B 3 1 (dg b6 s.y).length s.cB (iv (dg b6 s.y)))])
    | .c => ([(0, .yes, .o 200 s.A (dg b6 s.x).length s.cA), (1, .yes, .o 301 s.B (dg b6 s.y).length s.cB)], [(200, .row s.A 3 1 (dg b6 s.x).length s.cA (iv (dg b6 s.x))), (301, .row s.B 3 1 (dg b6 s.y).length s.cB (iv (dg b6 s.y)))])
    | .d => ([(0, .yes, .o 301 s.A (dg b6 s.x).length s.cA), (1, .yes, .o 200 s.B (dg b6 s.y).length s.cB)], [(301, .row s.A 3 1 (dg b6 s.x).length s.cA (iv (dg b6 s.x))), (200, .row s.B 3 1 (dg b6 s.y).length s.cB (iv (dg b6 s.y)))]))
    (fun s => (dg b6 s.x).length ≤ 100000 ∧ (dg b6 s.y).length ≤ 100000 ∧ Nat.gcd s.x s.y = G ∧ (match s.k with | .s => s.x = x0 ∧ s.y = y0 ∧ s.x < s.y | .a => s.x = y0 ∧ s.y = x0 ∧ s.y ≤ s.x | .b => s.x = x0 ∧ s.y ≤ s.x | _ => s.y ≤ s.x)) (fun s => s.y) (fun s => by cases s with | mk k _ _ _ _ _ _ => cases k <;> rfl) ?_ ?_
  · refine ⟨⟨.s, x0, y0, none, 0, none, 0⟩, ⟨by dsimp only; omega, by dsimp only; omega, hG.symm, rfl, rfl, hord⟩, ?_, ?_, rfl⟩
    all_goals ((repeat' (first | exact trivial | exact rfl | refine And.intro ?_ ?_)) <;> (try (conv => whnf)) <;> (try simp only [SV.real, SV.r2, SV.r1]))
  rintro ⟨k, x, y, A1, c1, A2, c2⟩ ⟨hl1, hl2, hgc, hk⟩
  dsimp only at hl1 hl2 hgc hk
  have hgc2 := (gcd_step6 x y).trans hgc
  have hlm : 0 < y → (dg b6 (x % y)).length ≤ 100000 := fun h => Nat.le_trans (len_le b6_2 (Nat.le_of_lt (Nat.mod_lt x h))) hl2
  rcases Nat.eq_zero_or_pos y with h0 | h0
  · subst h0
    rw [Nat.gcd_zero_right] at hgc
    cases k
    · dsimp only at hk
      omega
    · obtain ⟨e1, e2, _⟩ := hk
      have e3 : dg b6 x0 = [] := by rw [← e2]; rfl
      dsimp only
      rw [e3]
      repeat' ((conv => whnf); first | refine walk (Try.ok ..) ?_ | (refine Cnd.mk (fun h => ?_) (fun h => ?_) <;> (first | exact cndT h (by (try dsimp only); omega) | exact cndF h (by (try dsimp only); omega) | (exfalso; simp at h; omega) | simp at h | skip)) | fail)
      all_goals exact (done_pure (x := .slice (adr Y) (dg b6 y0).length capY) rfl rfl rfl).mono fun e w' hp => .inl ⟨hp.1, by omega, hp.2⟩
    · dsimp only at hk ⊢
      rw [dg_zero]
      repeat' ((conv => whnf); first | refine walk (Try.ok ..) ?_ | (refine Cnd.mk (fun h => ?_) (fun h => ?_) <;> (first | exact cndT h (by (try dsimp only); omega) | exact cndF h (by (try dsimp only); omega) | (exfalso; simp at h; omega) | simp at h | skip)) | fail)
      exact (done_pure (x := .slice (adr X) (dg b6 x0).length capX) rfl rfl rfl).mono fun e w' hp => .inr (.inl ⟨hp.1, by omega, hp.2⟩)
    · dsimp only at hk ⊢
      rw [dg_zero]
      repeat' ((conv => whnf); first | refine walk (Try.ok ..) ?_ | (refine Cnd.mk (fun h => ?_) (fun h => ?_) <;> (first | exact cndT h (by (try dsimp only); omega) | exact cndF h (by (try dsimp only); omega) | (exfalso; simp at h; omega) | simp at h | skip)) | fail)
      subst hgc
      exact (done_row (mk := fun v => v) rfl rfl 200 A1 c1 rfl rfl).mono fun e w' hp => .inr (.inr hp)
    · dsimp only at hk ⊢
      rw [dg_zero]
      repeat' ((conv => whnf); first | refine walk (Try.ok ..) ?_ | (refine Cnd.mk (fun h => ?_) (fun h => ?_) <;> (first | exact cndT h (by (try dsimp only); omega) | exact cndF h (by (try dsimp only); omega) | (exfalso; simp at h; omega) | simp at h | skip)) | fail)
      subst hgc
      exact (done_row (mk := fun v => v) rfl rfl 301 A1 c1 rfl rfl).mono fun e w' hp => .inr (.inr hp)
  have hlm := hlm h0
  have hlt := Nat.mod_lt x h0
  have hyp : 0 < (dg b6 y).length := (lt_len (s := y) (i := 0) b6_2).2 (by rw [Nat.pow_zero, Nat.div_one]; exact h0)
  cases k
  · obtain ⟨e1, e2, hlt2⟩ := hk
    subst e1
    subst e2
    repeat' ((conv => whnf); first | refine walk (Try.ok ..) ?_ | (refine Cnd.mk (fun h => ?_) (fun h => ?_) <;> (first | exact cndT h (by (try dsimp only); omega) | exact cndF h (by (try dsimp only); omega) | (exfalso; simp at h; omega) | simp at h | skip)) | fail)
    refine called_at (.t [.v (.slice none 0 0), .o 100 X (dg b6 x).length capX]) rfl (fun w' hh => by exact rdiv_less x y X Y capX capY w' hlt2 (ro_of_ro hh (id := 100) rfl) (ro_of_ro hh (id := 101) rfl) (by omega) (by omega)) ?_
    repeat' ((conv => whnf); first | refine walk (Try.ok ..) ?_ | fail)
    refine ⟨⟨.a, y, x, none, 0, none, 0⟩, ⟨⟨by dsimp only; omega, by dsimp only; omega, (Nat.gcd_comm y x).trans hgc, rfl, rfl, Nat.le_of_lt hlt2⟩, hlt2⟩, ?_, ?_, rfl⟩
    · ((repeat' (first | exact trivial | exact rfl | refine And.intro ?_ ?_)) <;> (try (conv => whnf)) <;> (try simp only [SV.real, SV.r2, SV.r1]))
    · ((repeat' (first | exact trivial | exact rfl | refine And.intro ?_ ?_)) <;> (try (conv => whnf)) <;> (try simp only [SV.real, SV.r2, SV.r1]))
  · obtain ⟨e1, e2, hyx⟩ := hk
    subst e1
    subst e2
    repeat' ((conv => whnf); first | refine walk (Try.ok ..) ?_ | (refine Cnd.mk (fun h => ?_) (fun h => ?_) <;> (first | exact cndT h (by (try dsimp only); omega) | exact cndF h (by (try dsimp only); omega) | (exfalso; simp at h; omega) | simp at h | skip)) | fail)
    refine called_row2 310 200 (m1 := (dg b6 (x / y)).length) (m2 := (dg b6 (x % y)).length) (xs1 := iv (dg b6 (x / y))) (xs2 := iv (dg b6 (x % y))) (fun v u => .tuple #[v, u]) (fun A c A' c' => .t [.o 310 A (dg b6 (x / y)).length c, .o 200 A' (dg b6 (x % y)).length c']) (fun _ _ _ _ => rfl) (fun w' hh => rdiv_any x y Y X capY capX w' hyx h0 (ro_of_ro hh (id := 101) rfl) (ro_of_ro hh (id := 100) rfl) (by omega) hcP) ?_
    intro A3 cap3 A4 cap4
    repeat' ((conv => whnf); first | refine walk (Try.ok ..) ?_ | fail)
    refine ⟨⟨.b, y, x % y, none, 0, A4, cap4⟩, ⟨⟨by dsimp only; omega, by dsimp only; omega, hgc2, ⟨rfl, Nat.le_of_lt hlt⟩⟩, hlt⟩, ?_, ?_, rfl⟩
    · ((repeat' (first | exact trivial | exact rfl | refine And.intro ?_ ?_)) <;> (try (conv => whnf)) <;> (try simp only [SV.real, SV.r2, SV.r1]))
    · ((repeat' (first | exact trivial | exact rfl | refine And.intro ?_ ?_)) <;> (try (conv => whnf)) <;> (try simp only [SV.real, SV.r2, SV.r1]))
  · obtain ⟨e1, hyx⟩ := hk
    subst e1
    repeat' ((conv => whnf); first | refine walk (Try.ok ..) ?_ | (refine Cnd.mk (fun h => ?_) (fun h => ?_) <;> (first | exact cndT h (by (try dsimp only); omega) | exact cndF h (by (try dsimp only); omega) | (exfalso; simp at h; omega) | simp at h | skip)) | fail)
    refine called_row2 310 301 (m1 := (dg b6 (x / y)).length) (m2 := (dg b6 (x % y)).length) (xs1 := iv (dg b6 (x / y))) (xs2 := iv (dg b6 (x % y))) (fun v u => .tuple #[v, u]) (fun A c A' c' => .t [.o 310 A (dg b6 (x / y)).length c, .o 301 A' (dg b6 (x % y)).length c']) (fun _ _ _ _ => rfl) (fun w' hh => rdiv_any x y X A2 capX c2 w' hyx h0 (ro_of_ro hh (id := 100) rfl) (ro_of_row hh (id := 200) rfl) (by omega) hcQ) ?_
    intro A3 cap3 A4 cap4
    repeat' ((conv => whnf); first | refine walk (Try.ok ..) ?_ | fail)
    refine ⟨⟨.c, y, x % y, A2, c2, A4, cap4⟩, ⟨⟨by dsimp only; omega, by dsimp only; omega, hgc2, Nat.le_of_lt hlt⟩, hlt⟩, ?_, ?_, rfl⟩
    · ((repeat' (first | exact trivial | exact rfl | refine And.intro ?_ ?_)) <;> (try (conv => whnf)) <;> (try simp only [SV.real, SV.r2, SV.r1]))
    · ((repeat' (first | exact trivial | exact rfl | refine And.intro ?_ ?_)) <;> (try (conv => whnf)) <;> (try simp only [SV.real, SV.r2, SV.r1]))
  · have hyx : y ≤ x := hk
    repeat' ((conv => whnf); first | refine walk (Try.ok ..) ?_ | (refine Cnd.mk (fun h => ?_) (fun h => ?_) <;> (first | exact cndT h (by (try dsimp only); omega) | exact cndF h (by (try dsimp only); omega) | (exfalso; simp at h; omega) | simp at h | skip)) | fail)
    refine called_row2 310 200 (m1 := (dg b6 (x / y)).length) (m2 := (dg b6 (x % y)).length) (xs1 := iv (dg b6 (x / y))) (xs2 := iv (dg b6 (x % y))) (fun v u => .tuple #[v, u]) (fun A c A' c' => .t [.o 310 A (dg b6 (x / y)).length c, .o 200 A' (dg b6 (x % y)).length c']) (fun _ _ _ _ => rfl) (fun w' hh => rdiv_any x y A1 A2 c1 c2 w' hyx h0 (ro_of_row hh (id := 200) rfl) (ro_of_row hh (id := 301) rfl) (by omega) (row_cap6 hh (id := 200) rfl)) ?_
    intro A3 cap3 A4 cap4
    repeat' ((conv => whnf); first | refine walk (Try.ok ..) ?_ | fail)
    refine ⟨⟨.d, y, x % y, A2, c2, A4, cap4⟩, ⟨⟨by dsimp only; omega, by dsimp only; omega, hgc2, Nat.le_of_lt hlt⟩, hlt⟩, ?_, ?_, rfl⟩
    · ((repeat' (first | exact trivial | exact rfl | refine And.intro ?_ ?_)) <;> (try (conv => whnf)) <;> (try simp only [SV.real, SV.r2, SV.r1]))
    · ((repeat' (first | exact trivial | exact rfl | refine And.intro ?_ ?_)) <;> (try (conv => whnf)) <;> (try simp only [SV.real, SV.r2, SV.r1]))
  · have hyx : y ≤ x := hk
    repeat' ((conv => whnf); first | refine walk (Try.ok ..) ?_ | (refine Cnd.mk (fun h => ?_) (fun h => ?_) <;> (first | exact cndT h (by (try dsimp only); omega) | exact cndF h (by (try dsimp only); omega) | (exfalso; simp at h; omega) | simp at h | skip)) | fail)
    refine called_row2 310 301 (m1 := (dg b6 (x / y)).length) (m2 := (dg b6 (x % y)).length) (xs1 := iv (dg b6 (x / y))) (xs2 := iv (dg b6 (x % y))) (fun v u => .tuple #[v, u]) (fun A c A' c' => .t [.o 310 A (dg b6 (x / y)).length c, .o 301 A' (dg b6 (x % y)).length c']) (fun _ _ _ _ => rfl) (fun w' hh => rdiv_any x y A1 A2 c1 c2 w' hyx h0 (ro_of_row hh (id := 301) rfl) (ro_of_row hh (id := 200) rfl) (by omega) (row_cap6 hh (id := 301) rfl)) ?_
    intro A3 cap3 A4 cap4
    repeat' ((conv => whnf); first | refine walk (Try.ok ..) ?_ | fail)
    refine ⟨⟨.c, y, x % y, A2, c2, A4, cap4⟩, ⟨⟨by dsimp only; omega, by dsimp only; omega, hgc2, Nat.le_of_lt hlt⟩, hlt⟩, ?_, ?_, rfl⟩
    · ((repeat' (first | exact trivial | exact rfl | refine And.intro ?_ ?_)) <;> (try (conv => whnf)) <;> (try simp only [SV.real, SV.r2, SV.r1]))
    · ((repeat' (first | exact trivial | exact rfl | refine And.intro ?_ ?_)) <;> (try (conv => whnf)) <;> (try simp only [SV.real, SV.r2, SV.r1]))
end
end Go.Proofs.Ytomhfakkebaciaa
