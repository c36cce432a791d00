/-
  The walks of the reference: the right fraction of a numerator and a denominator. The walks of the reference: fractions of whole numbers.
-/
import Derived.Test.YtomhfakkebaciaaRA
import Derived.Test.YtomhfakkebaciaaRB
import Derived.Test.YtomhfakkebaciaaN9
import Derived.Test.YtomhfakkebaciaaN11
set_option linter.unusedSimpArgs false
set_option linter.unusedVariables false
namespace Go.Proofs.Ytomhfakkebaciaa
section
open Go Sat Go.RowKit Go.PlainAid
set_option linter.unusedSimpArgs false
set_option linter.unusedVariables false
theorem build_cells {α : Type} (Z u v : List α) (hZ : Z.length = 17) (hu : u.length = 8) (hv : v.length = 8) : List.take 17 (List.drop 0 (List.take 9 (List.take 1 Z ++ List.take 8 (List.drop 0 u) ++ List.drop (1 + 8) Z) ++ List.take 8 (List.drop 0 v) ++ List.drop (9 + 8) (List.take 1 Z ++ List.take 8 (List.drop 0 u) ++ List.drop (1 + 8) Z))) = List.take 1 Z ++ u ++ v := by
  have h1 : (List.take 1 Z).length = 1 := by rw [List.length_take, hZ]; rfl
  have e1 : List.take 8 (List.drop 0 u) = u := by rw [List.drop_zero, List.take_of_length_le (by omega)]
  have e2 : List.take 8 (List.drop 0 v) = v := by rw [List.drop_zero, List.take_of_length_le (by omega)]
  rw [e1, e2]
  have h2 : (List.take 1 Z ++ u).length = 9 := by rw [List.length_append, h1, hu]
  have e3 : List.take 9 (List.take 1 Z ++ u ++ List.drop (1 + 8) Z) = List.take 1 Z ++ u := by rw [← h2, List.take_left]
  have e4 : List.drop (9 + 8) (List.take 1 Z ++ u ++ List.drop (1 + 8) Z) = [] := by
    rw [List.drop_of_length_le]
    rw [List.length_append, h2, List.length_drop, hZ]
    omega
  rw [e3, e4, List.append_nil, List.drop_zero, List.take_of_length_le (by rw [List.length_append, h2, hv]; omega)]
theorem fitF_eq (neg : Bool) (n d : Nat) : fitF neg n d = if n / Nat.gcd n d < big ∧ d / Nat.gcd n d < big then (⟨neg && decide (n ≠ 0), n / Nat.gcd n d, d / Nat.gcd n d⟩, 0) else (zeroF, 3) := rfl
set_option maxRecDepth 100000 in
set_option maxHeartbeats 8000000 in
theorem rmake_pos (neg : Bool) (n d : Nat) (X Y : Option (Nat × Nat)) (capX capY : Nat) (w : World) (hx : Ro w X (dg b6 n).length 1 (iv (dg b6 n))) (hy : Ro w Y (dg b6 d).length 1 (iv (dg b6 d))) (hxl : (dg b6 n).length ≤ 100000) (hyl : (dg b6 d).length ≤ 100000) (hcX : (dg b6 n).length ≤ capX) (hcY : (dg b6 d).length ≤ capY) (hd0 : 0 < d) (hn0 : 0 < n) :
    Calls Try.prog 89 #[.bool neg, .slice (adr X) (dg b6 n).length capX, .slice (adr Y) (dg b6 d).length capY] w fun e w' => e = .returned (.tuple #[frV (fitF neg n d).1, .int .i64 (fitF neg n d).2]) ∧ Below w.heap.size w w' := by
  obtain ⟨r, er⟩ : ∃ r, r = fitF neg n d := ⟨_, rfl⟩
  rw [← er]
  rw [fitF_eq] at er
  have hgl := Nat.gcd_dvd_left n d
  have hgr := Nat.gcd_dvd_right n d
  have hG0 : 0 < Nat.gcd n d := Nat.gcd_pos_of_pos_right _ hd0
  obtain ⟨G, hG⟩ : ∃ G, G = Nat.gcd n d := ⟨_, rfl⟩
  rw [← hG] at hgl hgr hG0 er
  have hGd : G ≤ d := Nat.le_of_dvd hd0 hgr
  have hGn : G ≤ n := Nat.le_of_dvd hn0 hgl
  have ll1 : (dg b6 (n / G)).length ≤ 100000 := Nat.le_trans (len_le b6_2 (Nat.div_le_self _ _)) hxl
  have ll2 : (dg b6 (d / G)).length ≤ 100000 := Nat.le_trans (len_le b6_2 (Nat.div_le_self _ _)) hyl
  refine calls_sat (cx := Try.cx 58 [] [] [] w) (Try.ok ..) Try.func89 rfl [.v (.bool neg), .o 100 X (dg b6 n).length capX, .o 101 Y (dg b6 d).length capY] rfl (by show 3 ≤ 58; omega) [(100, .ro X (dg b6 n).length 1 (iv (dg b6 n))), (101, .ro Y (dg b6 d).length 1 (iv (dg b6 d)))] (holds_ros rfl rfl ⟨hx, hy, trivial⟩) ?_
  repeat' ((conv => whnf); first | refine walk (Try.ok ..) ?_ | fail)
  intro g6 hg6
  repeat' ((conv => whnf); first | refine walk (Try.ok ..) ?_ | fail)
  refine called_alt3 19 (e := 3) (s := 1) (m := (dg b6 G).length) (xs := iv (dg b6 G)) (.o 100 X (dg b6 n).length capX) (.o 101 Y (dg b6 d).length capY) (p1 := G = n) (p2 := G = d) (fun w' hh => ?_) ?_ ?_ ?_
  · rcases Nat.lt_or_ge n d with h | h
    · have h1 := rcommon_lt n d X Y capX capY w' (ro_of_ro hh (id := 100) rfl) (ro_of_ro hh (id := 101) rfl) hxl hyl hcX hcY h
      rw [← hG] at h1
      exact h1.mono fun e w'' hp => hp.elim (fun a => .inr (.inl a)) (fun b => b.elim (fun c => .inl c) (fun c => .inr (.inr c)))
    · have h1 := rcommon_ge n d X Y capX capY w' (ro_of_ro hh (id := 100) rfl) (ro_of_ro hh (id := 101) rfl) hxl hyl hcX hcY h hd0
      rw [← hG] at h1
      exact h1
  · intro e
    subst e
    repeat' ((conv => whnf); first | refine walk (Try.ok ..) ?_ | fail)
    refine called_row2 310 311 (m1 := (dg b6 (G / G)).length) (m2 := (dg b6 (G % G)).length) (xs1 := iv (dg b6 (G / G))) (xs2 := iv (dg b6 (G % G))) (fun v u => .tuple #[v, u]) (fun A c A' c' => .t [.o 310 A (dg b6 (G / G)).length c, .o 311 A' (dg b6 (G % G)).length c']) (fun _ _ _ _ => rfl) (fun w' hh => rdiv_any G G X X capX capX w' hGn hG0 (ro_of_ro hh (id := 100) rfl) (ro_of_ro hh (id := 100) rfl) (by omega) hcX) ?_
    intro A2 cap2 A3 cap3
    repeat' ((conv => whnf); first | refine walk (Try.ok ..) ?_ | fail)
    refine called_row2 312 313 (m1 := (dg b6 (d / G)).length) (m2 := (dg b6 (d % G)).length) (xs1 := iv (dg b6 (d / G))) (xs2 := iv (dg b6 (d % G))) (fun v u => .tuple #[v, u]) (fun A c A' c' => .t [.o 312 A (dg b6 (d / G)).length c, .o 313 A' (dg b6 (d % G)).length c']) (fun _ _ _ _ => rfl) (fun w' hh => rdiv_any d G Y X capY capX w' hGd hG0 (ro_of_ro hh (id := 101) rfl) (ro_of_ro hh (id := 100) rfl) (by omega) hcY) ?_
    intro A4 cap4 A5 cap5
    repeat' ((conv => whnf); first | refine walk (Try.ok ..) ?_ | fail)
    refine called_at (.t [.a (uc (lim (if G / G < big then G / G else 0))), .v (.bool (decide (G / G < big)))]) rfl (fun w' hh => rlimbs_any (G / G) A2 cap2 w' (ro_of_row hh (id := 310) rfl) (by omega)) ?_
    have u1 : (uc (lim (if G / G < big then G / G else 0))).length = 8 := by rw [uc_len, lim_len]
    have u2 : (uc (lim (if d / G < big then d / G else 0))).length = 8 := by rw [uc_len, lim_len]
    skip
    intro g13 hg13
    repeat' ((conv => whnf); first | refine walk (Try.ok ..) ?_ | refine side2 ?_ | fail)
    refine called_at (.t [.a (uc (lim (if d / G < big then d / G else 0))), .v (.bool (decide (d / G < big)))]) rfl (fun w' hh => rlimbs_any (d / G) A4 cap4 w' (ro_of_row hh (id := 312) rfl) (by omega)) ?_
    skip
    intro g15 hg15
    by_cases h1 : G / G < big
    case neg =>
      rw [if_neg fun h => h1 h.1] at er
      rw [decide_eq_false h1, er]
      repeat' ((conv => whnf); first | refine walk (Try.ok ..) ?_ | (refine Cnd.mk (fun h => ?_) (fun h => ?_) <;> (first | exact cndT h (by (try dsimp only); omega) | exact cndF h (by (try dsimp only); omega) | (exfalso; simp at h; omega) | simp at h | skip)) | refine side2 ?_ | fail)
      exact done_pure rfl rfl rfl
    by_cases h2 : d / G < big
    case neg =>
      rw [if_neg fun h => h2 h.2] at er
      rw [decide_eq_true h1, decide_eq_false h2, er]
      repeat' ((conv => whnf); first | refine walk (Try.ok ..) ?_ | (refine Cnd.mk (fun h => ?_) (fun h => ?_) <;> (first | exact cndT h (by (try dsimp only); omega) | exact cndF h (by (try dsimp only); omega) | (exfalso; simp at h; omega) | simp at h | skip)) | refine side2 ?_ | fail)
      exact done_pure rfl rfl rfl
    rw [if_pos ⟨h1, h2⟩] at er
    rw [if_pos h1] at u1 ⊢
    rw [if_pos h2] at u2 ⊢
    rw [decide_eq_true h1, decide_eq_true h2, er]
    have hnp : (dg b6 (G / G)).length ≠ 0 := by
      have := (lt_len (s := G / G) (i := 0) b6_2).2 (by rw [Nat.pow_zero, Nat.div_one]; exact Nat.div_pos hGn hG0)
      omega
    repeat' ((conv => whnf); first | refine walk (Try.ok ..) ?_ | (refine Cnd.mk (fun h => ?_) (fun h => ?_) <;> (first | exact cndT h (by (try dsimp only); omega) | exact cndF h (by (try dsimp only); omega) | (exfalso; simp at h; omega) | simp at h | skip)) | refine side2 ?_ | fail)
    refine done_pure rfl rfl (congrArg (fun l => (SV.t [.a l, .v (.int .i64 0)]).real) ((build_cells _ _ _ rfl u1 u2).trans ?_))
    have hb1 : decide ((0 : Int) < ((dg b6 (G / G)).length : Int)) = true := decide_eq_true (by omega)
    show [SV.v (.bool (neg && decide ((0 : Int) < ((dg b6 (G / G)).length : Int))))] ++ _ ++ _ = _
    rw [hb1, ← decide_eq_true (show G ≠ 0 by omega)]
    rfl
  · intro e
    subst e
    repeat' ((conv => whnf); first | refine walk (Try.ok ..) ?_ | fail)
    refine called_row2 310 311 (m1 := (dg b6 (n / G)).length) (m2 := (dg b6 (n % G)).length) (xs1 := iv (dg b6 (n / G))) (xs2 := iv (dg b6 (n % G))) (fun v u => .tuple #[v, u]) (fun A c A' c' => .t [.o 310 A (dg b6 (n / G)).length c, .o 311 A' (dg b6 (n % G)).length c']) (fun _ _ _ _ => rfl) (fun w' hh => rdiv_any n G X Y capX capY w' hGn hG0 (ro_of_ro hh (id := 100) rfl) (ro_of_ro hh (id := 101) rfl) (by omega) hcX) ?_
    intro A2 cap2 A3 cap3
    repeat' ((conv => whnf); first | refine walk (Try.ok ..) ?_ | fail)
    refine called_row2 312 313 (m1 := (dg b6 (G / G)).length) (m2 := (dg b6 (G % G)).length) (xs1 := iv (dg b6 (G / G))) (xs2 := iv (dg b6 (G % G))) (fun v u => .tuple #[v, u]) (fun A c A' c' => .t [.o 312 A (dg b6 (G / G)).length c, .o 313 A' (dg b6 (G % G)).length c']) (fun _ _ _ _ => rfl) (fun w' hh => rdiv_any G G Y Y capY capY w' hGd hG0 (ro_of_ro hh (id := 101) rfl) (ro_of_ro hh (id := 101) rfl) (by omega) hcY) ?_
    intro A4 cap4 A5 cap5
    repeat' ((conv => whnf); first | refine walk (Try.ok ..) ?_ | fail)
    refine called_at (.t [.a (uc (lim (if n / G < big then n / G else 0))), .v (.bool (decide (n / G < big)))]) rfl (fun w' hh => rlimbs_any (n / G) A2 cap2 w' (ro_of_row hh (id := 310) rfl) (by omega)) ?_
    have u1 : (uc (lim (if n / G < big then n / G else 0))).length = 8 := by rw [uc_len, lim_len]
    have u2 : (uc (lim (if G / G < big then G / G else 0))).length = 8 := by rw [uc_len, lim_len]
    skip
    intro g13 hg13
    repeat' ((conv => whnf); first | refine walk (Try.ok ..) ?_ | refine side2 ?_ | fail)
    refine called_at (.t [.a (uc (lim (if G / G < big then G / G else 0))), .v (.bool (decide (G / G < big)))]) rfl (fun w' hh => rlimbs_any (G / G) A4 cap4 w' (ro_of_row hh (id := 312) rfl) (by omega)) ?_
    skip
    intro g15 hg15
    by_cases h1 : n / G < big
    case neg =>
      rw [if_neg fun h => h1 h.1] at er
      rw [decide_eq_false h1, er]
      repeat' ((conv => whnf); first | refine walk (Try.ok ..) ?_ | (refine Cnd.mk (fun h => ?_) (fun h => ?_) <;> (first | exact cndT h (by (try dsimp only); omega) | exact cndF h (by (try dsimp only); omega) | (exfalso; simp at h; omega) | simp at h | skip)) | refine side2 ?_ | fail)
      exact done_pure rfl rfl rfl
    by_cases h2 : G / G < big
    case neg =>
      rw [if_neg fun h => h2 h.2] at er
      rw [decide_eq_true h1, decide_eq_false h2, er]
      repeat' ((conv => whnf); first | refine walk (Try.ok ..) ?_ | (refine Cnd.mk (fun h => ?_) (fun h => ?_) <;> (first | exact cndT h (by (try dsimp only); omega) | exact cndF h (by (try dsimp only); omega) | (exfalso; simp at h; omega) | simp at h | skip)) | refine side2 ?_ | fail)
      exact done_pure rfl rfl rfl
    rw [if_pos ⟨h1, h2⟩] at er
    rw [if_pos h1] at u1 ⊢
    rw [if_pos h2] at u2 ⊢
    rw [decide_eq_true h1, decide_eq_true h2, er]
    have hnp : (dg b6 (n / G)).length ≠ 0 := by
      have := (lt_len (s := n / G) (i := 0) b6_2).2 (by rw [Nat.pow_zero, Nat.div_one]; exact Nat.div_pos hGn hG0)
      omega
    repeat' ((conv => whnf); first | refine walk (Try.ok ..) ?_ | (refine Cnd.mk (fun h => ?_) (fun h => ?_) <;> (first | exact cndT h (by (try dsimp only); omega) | exact cndF h (by (try dsimp only); omega) | (exfalso; simp at h; omega) | simp at h | skip)) | refine side2 ?_ | fail)
    refine done_pure rfl rfl (congrArg (fun l => (SV.t [.a l, .v (.int .i64 0)]).real) ((build_cells _ _ _ rfl u1 u2).trans ?_))
    have hb1 : decide ((0 : Int) < ((dg b6 (n / G)).length : Int)) = true := decide_eq_true (by omega)
    show [SV.v (.bool (neg && decide ((0 : Int) < ((dg b6 (n / G)).length : Int))))] ++ _ ++ _ = _
    rw [hb1, ← decide_eq_true (show n ≠ 0 by omega)]
    rfl
  · intro A1 cap1
    repeat' ((conv => whnf); first | refine walk (Try.ok ..) ?_ | fail)
    refine called_row2 310 311 (m1 := (dg b6 (n / G)).length) (m2 := (dg b6 (n % G)).length) (xs1 := iv (dg b6 (n / G))) (xs2 := iv (dg b6 (n % G))) (fun v u => .tuple #[v, u]) (fun A c A' c' => .t [.o 310 A (dg b6 (n / G)).length c, .o 311 A' (dg b6 (n % G)).length c']) (fun _ _ _ _ => rfl) (fun w' hh => rdiv_any n G X A1 capX cap1 w' hGn hG0 (ro_of_ro hh (id := 100) rfl) (ro_of_row hh (id := 19) rfl) (by omega) hcX) ?_
    intro A2 cap2 A3 cap3
    repeat' ((conv => whnf); first | refine walk (Try.ok ..) ?_ | fail)
    refine called_row2 312 313 (m1 := (dg b6 (d / G)).length) (m2 := (dg b6 (d % G)).length) (xs1 := iv (dg b6 (d / G))) (xs2 := iv (dg b6 (d % G))) (fun v u => .tuple #[v, u]) (fun A c A' c' => .t [.o 312 A (dg b6 (d / G)).length c, .o 313 A' (dg b6 (d % G)).length c']) (fun _ _ _ _ => rfl) (fun w' hh => rdiv_any d G Y A1 capY cap1 w' hGd hG0 (ro_of_ro hh (id := 101) rfl) (ro_of_row hh (id := 19) rfl) (by omega) hcY) ?_
    intro A4 cap4 A5 cap5
    repeat' ((conv => whnf); first | refine walk (Try.ok ..) ?_ | fail)
    refine called_at (.t [.a (uc (lim (if n / G < big then n / G else 0))), .v (.bool (decide (n / G < big)))]) rfl (fun w' hh => rlimbs_any (n / G) A2 cap2 w' (ro_of_row hh (id := 310) rfl) (by omega)) ?_
    have u1 : (uc (lim (if n / G < big then n / G else 0))).length = 8 := by rw [uc_len, lim_len]
    have u2 : (uc (lim (if d / G < big then d / G else 0))).length = 8 := by rw [uc_len, lim_len]
    skip
    intro g13 hg13
    repeat' ((conv => whnf); first | refine walk (Try.ok ..) ?_ | refine side2 ?_ | fail)
    refine called_at (.t [.a (uc (lim (if d / G < big then d / G else 0))), .v (.bool (decide (d / G < big)))]) rfl (fun w' hh => rlimbs_any (d / G) A4 cap4 w' (ro_of_row hh (id := 312) rfl) (by omega)) ?_
    skip
    intro g15 hg15
    by_cases h1 : n / G < big
    case neg =>
      rw [if_neg fun h => h1 h.1] at er
      rw [decide_eq_false h1, er]
      repeat' ((conv => whnf); first | refine walk (Try.ok ..) ?_ | (refine Cnd.mk (fun h => ?_) (fun h => ?_) <;> (first | exact cndT h (by (try dsimp only); omega) | exact cndF h (by (try dsimp only); omega) | (exfalso; simp at h; omega) | simp at h | skip)) | refine side2 ?_ | fail)
      exact done_pure rfl rfl rfl
    by_cases h2 : d / G < big
    case neg =>
      rw [if_neg fun h => h2 h.2] at er
      rw [decide_eq_true h1, decide_eq_false h2, er]
      repeat' ((conv => whnf); first | refine walk (Try.ok ..) ?_ | (refine Cnd.mk (fun h => ?_) (fun h => ?_) <;> (first | exact cndT h (by (try dsimp only); omega) | exact cndF h (by (try dsimp only); omega) | (exfalso; simp at h; omega) | simp at h | skip)) | refine side2 ?_ | fail)
      exact done_pure rfl rfl rfl
    rw [if_pos ⟨h1, h2⟩] at er
    rw [if_pos h1] at u1 ⊢
    rw [if_pos h2] at u2 ⊢
    rw [decide_eq_true h1, decide_eq_true h2, er]
    have hnp : (dg b6 (n / G)).length ≠ 0 := by
      have := (lt_len (s := n / G) (i := 0) b6_2).2 (by rw [Nat.pow_zero, Nat.div_one]; exact Nat.div_pos hGn hG0)
      omega
    repeat' ((conv => whnf); first | refine walk (Try.ok ..) ?_ | (refine Cnd.mk (fun h => ?_) (fun h => ?_) <;> (first | exact cndT h (by (try dsimp only); omega) | exact cndF h (by (try dsimp only); omega) | (exfalso; simp at h; omega) | simp at h | skip)) | refine side2 ?_ | fail)
    refine done_pure rfl rfl (congrArg (fun l => (SV.t [.a l, .v (.int .i64 0)]).real) ((build_cells _ _ _ rfl u1 u2).trans ?_))
    have hb1 : decide ((0 : Int) < ((dg b6 (n / G)).length : Int)) = true := decide_eq_true (by omega)
    show [SV.v (.bool (neg && decide ((0 : Int) < ((dg b6 (n / G)).length : Int))))] ++ _ ++ _ = _
    rw [hb1, ← decide_eq_true (show n ≠ 0 by omega)]
    rfl
set_option maxRecDepth 100000 in
set_option maxHeartbeats 8000000 in
theorem rmake_zero (neg : Bool) (d : Nat) (X Y : Option (Nat × Nat)) (capX capY : Nat) (w : World) (hx : Ro w X (dg b6 0).length 1 (iv (dg b6 0))) (hy : Ro w Y (dg b6 d).length 1 (iv (dg b6 d))) (hyl : (dg b6 d).length ≤ 100000) (hcX : (dg b6 0).length ≤ capX) (hcY : (dg b6 d).length ≤ capY) (hd0 : 0 < d) :
    Calls Try.prog 89 #[.bool neg, .slice (adr X) (dg b6 0).length capX, .slice (adr Y) (dg b6 d).length capY] w fun e w' => e = .returned (.tuple #[frV (fitF neg 0 d).1, .int .i64 (fitF neg 0 d).2]) ∧ Below w.heap.size w w' := by
  obtain ⟨r, er⟩ : ∃ r, r = fitF neg 0 d := ⟨_, rfl⟩
  rw [← er]
  have hd1 : d / d < big := by rw [Nat.div_self hd0]; decide
  have z0 : (dg b6 0).length = 0 := rfl
  rw [fitF_eq, Nat.gcd_zero_left, Nat.zero_div, if_pos ⟨by decide, hd1⟩] at er
  have ll2 : (dg b6 (d / d)).length ≤ 100000 := Nat.le_trans (len_le b6_2 (Nat.div_le_self _ _)) hyl
  refine calls_sat (cx := Try.cx 58 [] [] [] w) (Try.ok ..) Try.func89 rfl [.v (.bool neg), .o 100 X (dg b6 0).length capX, .o 101 Y (dg b6 d).length capY] rfl (by show 3 ≤ 58; omega) [(100, .ro X (dg b6 0).length 1 (iv (dg b6 0))), (101, .ro Y (dg b6 d).length 1 (iv (dg b6 d)))] (holds_ros rfl rfl ⟨hx, hy, trivial⟩) ?_
  repeat' ((conv => whnf); first | refine walk (Try.ok ..) ?_ | fail)
  intro g6 hg6
  repeat' ((conv => whnf); first | refine walk (Try.ok ..) ?_ | fail)
  refine called_alt 19 (e := 3) (s := 1) (m := (dg b6 d).length) (xs := iv (dg b6 d)) (.o 101 Y (dg b6 d).length capY) (p := True) (fun w' hh => ?_) ?_ ?_
  · have h1 := rcommon_lt 0 d X Y capX capY w' (ro_of_ro hh (id := 100) rfl) (ro_of_ro hh (id := 101) rfl) (by omega) hyl hcX hcY hd0
    rw [Nat.gcd_zero_left] at h1
    exact h1.mono fun e w'' hp => hp.elim (fun a => .inl ⟨a.1, trivial, a.2.2⟩) (fun b => b.elim (fun c => absurd c.2.1 (by omega)) (fun c => .inr c))
  · intro _
    repeat' ((conv => whnf); first | refine walk (Try.ok ..) ?_ | fail)
    refine called_at (.t [.v (.slice none 0 0), .o 100 X (dg b6 0).length capX]) rfl (fun w' hh => by exact rdiv_less 0 d X Y capX capY w' hd0 (ro_of_ro hh (id := 100) rfl) (ro_of_ro hh (id := 101) rfl) (by omega) (by omega)) ?_
    repeat' ((conv => whnf); first | refine walk (Try.ok ..) ?_ | fail)
    refine called_row2 312 313 (m1 := (dg b6 (d / d)).length) (m2 := (dg b6 (d % d)).length) (xs1 := iv (dg b6 (d / d))) (xs2 := iv (dg b6 (d % d))) (fun v u => .tuple #[v, u]) (fun A c A' c' => .t [.o 312 A (dg b6 (d / d)).length c, .o 313 A' (dg b6 (d % d)).length c']) (fun _ _ _ _ => rfl) (fun w' hh => rdiv_any d d Y Y capY capY w' (Nat.le_refl _) hd0 (ro_of_ro hh (id := 101) rfl) (ro_of_ro hh (id := 101) rfl) (by omega) hcY) ?_
    intro A4 cap4 A5 cap5
    repeat' ((conv => whnf); first | refine walk (Try.ok ..) ?_ | fail)
    refine called_at (.t [.a (uc (lim 0)), .v (.bool true)]) rfl (fun w' hh => by have h := rlimbs_any 0 none 0 w' (Ro.nil_ _ _ _) (by decide); rw [if_pos (by decide), decide_eq_true (by decide)] at h; exact h) ?_
    have u1 : (uc (lim 0)).length = 8 := by rw [uc_len, lim_len]
    have u2 : (uc (lim (d / d))).length = 8 := by rw [uc_len, lim_len]
    skip
    intro g13 hg13
    repeat' ((conv => whnf); first | refine walk (Try.ok ..) ?_ | refine side2 ?_ | fail)
    refine called_at (.t [.a (uc (lim (d / d))), .v (.bool true)]) rfl (fun w' hh => by have h := rlimbs_any (d / d) A4 cap4 w' (ro_of_row hh (id := 312) rfl) (by omega); rw [if_pos hd1, decide_eq_true hd1] at h; exact h) ?_
    skip
    intro g15 hg15
    rw [er]
    repeat' ((conv => whnf); first | refine walk (Try.ok ..) ?_ | (refine Cnd.mk (fun h => ?_) (fun h => ?_) <;> (first | exact cndT h (by (try dsimp only); omega) | exact cndF h (by (try dsimp only); omega) | (exfalso; simp at h; omega) | simp at h | skip)) | refine side2 ?_ | fail)
    refine done_pure rfl rfl (congrArg (fun l => (SV.t [.a l, .v (.int .i64 0)]).real) ((build_cells _ _ _ rfl u1 u2).trans ?_))
    show [SV.v (.bool (neg && false))] ++ _ ++ _ = _
    rw [Nat.div_self hd0]
    rfl
  · intro A1 cap1
    repeat' ((conv => whnf); first | refine walk (Try.ok ..) ?_ | fail)
    refine called_at (.t [.v (.slice none 0 0), .o 100 X (dg b6 0).length capX]) rfl (fun w' hh => by exact rdiv_less 0 d X A1 capX cap1 w' hd0 (ro_of_ro hh (id := 100) rfl) (ro_of_row hh (id := 19) rfl) (by omega) (by omega)) ?_
    repeat' ((conv => whnf); first | refine walk (Try.ok ..) ?_ | fail)
    refine called_row2 312 313 (m1 := (dg b6 (d / d)).length) (m2 := (dg b6 (d % d)).length) (xs1 := iv (dg b6 (d / d))) (xs2 := iv (dg b6 (d % d))) (fun v u => .tuple #[v, u]) (fun A c A' c' => .t [.o 312 A (dg b6 (d / d)).length c, .o 313 A' (dg b6 (d % d)).length c']) (fun _ _ _ _ => rfl) (fun w' hh => rdiv_any d d Y A1 capY cap1 w' (Nat.le_refl _) hd0 (ro_of_ro hh (id := 101) rfl) (ro_of_row hh (id := 19) rfl) (by omega) hcY) ?_
    intro A4 cap4 A5 cap5
    repeat' ((conv => whnf); first | refine walk (Try.ok ..) ?_ | fail)
    refine called_at (.t [.a (uc (lim 0)), .v (.bool true)]) rfl (fun w' hh => by have h := rlimbs_any 0 none 0 w' (Ro.nil_ _ _ _) (by decide); rw [if_pos (by decide), decide_eq_true (by decide)] at h; exact h) ?_
    have u1 : (uc (lim 0)).length = 8 := by rw [uc_len, lim_len]
    have u2 : (uc (lim (d / d))).length = 8 := by rw [uc_len, lim_len]
    skip
    intro g13 hg13
    repeat' ((conv => whnf); first | refine walk (Try.ok ..) ?_ | refine side2 ?_ | fail)
    refine called_at (.t [.a (uc (lim (d / d))), .v (.bool true)]) rfl (fun w' hh => by have h := rlimbs_any (d / d) A4 cap4 w' (ro_of_row hh (id := 312) rfl) (by omega); rw [if_pos hd1, decide_eq_true hd1] at h; exact h) ?_
    skip
    intro g15 hg15
    rw [er]
    repeat' ((conv => whnf); first | refine walk (Try.ok ..) ?_ | (refine Cnd.mk (fun h => ?_) (fun h => ?_) <;> (first | exact cndT h (by (try dsimp only); omega) | exact cndF h (by (try dsimp only); omega) | (exfalso; simp at h; omega) | simp at h | skip)) | refine side2 ?_ | fail)
    refine done_pure rfl rfl (congrArg (fun l => (SV.t [.a l, .v (.int .i64 0)]).real) ((build_cells _ _ _ rfl u1 u2).trans ?_))
    show [SV.v (.bool (neg && false))] ++ _ ++ _ = _
    rw [Nat.div_self hd0]
    rfl
end
section
open Go Sat Go.RowKit Go.PlainAid
set_option linter.unusedSimpArgs false
set_option linter.unusedVariables false
set_option maxRecDepth 100000 in
set_option maxHeartbeats 8000000 in
theorem rsize_any (n : Int) (w : World) (hn : I64 n) :
    Calls Try.prog 90 #[.int .i64 n] w fun e w' => ∃ v, e = .returned v ∧ w'.ownsRow w.heap.size 3 1 v (dg b6 n.natAbs).length (iv (dg b6 n.natAbs)) ∧ Below w.heap.size w w' := by
  have h1 := hn.lo
  have h2 := hn.hi
  refine calls_sat (cx := Try.cx 14 [] [] [] w) (Try.ok ..) Try.func90 rfl [.v (.int .i64 n)] rfl (by show 1 ≤ 14; omega) [] (holds_nil (Nat.le_refl _)) ?_
  by_cases h0 : n < 0
  · repeat' ((conv => whnf); first | refine walk (Try.ok ..) ?_ | (refine Cnd.mk (fun h => ?_) (fun h => ?_) <;> (first | exact cndT h (by (try dsimp only); omega) | exact cndF h (by (try dsimp only); omega) | (exfalso; simp at h; omega) | simp at h | skip)) | refine sideL2 ?_ | fail)
    refine called_row 10 (xs := iv (dg b6 n.natAbs)) (m := (dg b6 n.natAbs).length) (fun v => v) (fun A cap => .o 10 A (dg b6 n.natAbs).length cap) (fun A cap => rfl) (fun w' hh => by
      have h3 := whole_any n.natAbs w' (by omega)
      rw [show ((n.natAbs : Nat) : Int) = 0 - (n + 1) + 1 by omega] at h3
      exact h3) ?_
    intro A1 c1
    repeat' ((conv => whnf); first | refine walk (Try.ok ..) ?_ | fail)
    exact done_row (mk := fun v => v) rfl rfl 10 A1 c1 rfl rfl
  · repeat' ((conv => whnf); first | refine walk (Try.ok ..) ?_ | (refine Cnd.mk (fun h => ?_) (fun h => ?_) <;> (first | exact cndT h (by (try dsimp only); omega) | exact cndF h (by (try dsimp only); omega) | (exfalso; simp at h; omega) | simp at h | skip)) | refine sideL2 ?_ | fail)
    refine called_row 13 (xs := iv (dg b6 n.natAbs)) (m := (dg b6 n.natAbs).length) (fun v => v) (fun A cap => .o 13 A (dg b6 n.natAbs).length cap) (fun A cap => rfl) (fun w' hh => by
      have h3 := whole_any n.natAbs w' (by omega)
      rw [show ((n.natAbs : Nat) : Int) = n by omega] at h3
      exact h3) ?_
    intro A1 c1
    repeat' ((conv => whnf); first | refine walk (Try.ok ..) ?_ | fail)
    exact done_row (mk := fun v => v) rfl rfl 13 A1 c1 rfl rfl
theorem rneg_eq {a b : Int} (hb : b ≠ 0) (ha : a ≠ 0) : ((decide (a < 0) && decide (0 < b)) || (decide (0 < a) && decide (b < 0))) = (decide (a < 0) != decide (b < 0)) := by
  rcases (by omega : a < 0 ∨ 0 < a) with h1 | h1 <;> rcases (by omega : b < 0 ∨ 0 < b) with h2 | h2
  · rw [decide_eq_true h1, decide_eq_true h2, decide_eq_false (show ¬ 0 < b by omega), decide_eq_false (show ¬ 0 < a by omega)]; rfl
  · rw [decide_eq_true h1, decide_eq_true h2, decide_eq_false (show ¬ b < 0 by omega), decide_eq_false (show ¬ 0 < a by omega)]; rfl
  · rw [decide_eq_true h1, decide_eq_true h2, decide_eq_false (show ¬ 0 < b by omega), decide_eq_false (show ¬ a < 0 by omega)]; rfl
  · rw [decide_eq_true h1, decide_eq_true h2, decide_eq_false (show ¬ b < 0 by omega), decide_eq_false (show ¬ a < 0 by omega)]; rfl
theorem fit_neg {n1 n2 : Bool} {a b : Nat} (h : a ≠ 0 → n1 = n2) : fitF n1 a b = fitF n2 a b := by
  by_cases h0 : a = 0
  · subst h0
    unfold fitF
    simp
  · rw [h h0]
theorem ratioE_ref {a b : Int} (hb : b ≠ 0) : fitF ((decide (a < 0) && decide (0 < b)) || (decide (0 < a) && decide (b < 0))) a.natAbs b.natAbs = ratioE a b := by
  unfold ratioE
  rw [if_neg hb]
  exact fit_neg fun h => rneg_eq hb (by omega)
theorem rmake_any (neg : Bool) (n d : Nat) (X Y : Option (Nat × Nat)) (capX capY : Nat) (w : World) (hx : Ro w X (dg b6 n).length 1 (iv (dg b6 n))) (hy : Ro w Y (dg b6 d).length 1 (iv (dg b6 d))) (hxl : (dg b6 n).length ≤ 100000) (hyl : (dg b6 d).length ≤ 100000) (hcX : (dg b6 n).length ≤ capX) (hcY : (dg b6 d).length ≤ capY) (hd0 : 0 < d) :
    Calls Try.prog 89 #[.bool neg, .slice (adr X) (dg b6 n).length capX, .slice (adr Y) (dg b6 d).length capY] w fun e w' => e = .returned (.tuple #[frV (fitF neg n d).1, .int .i64 (fitF neg n d).2]) ∧ Below w.heap.size w w' := by
  rcases Nat.eq_zero_or_pos n with h | h
  · subst h
    exact rmake_zero neg d X Y capX capY w hx hy hyl hcX hcY hd0
  · exact rmake_pos neg n d X Y capX capY w hx hy hxl hyl hcX hcY hd0 h
theorem abs_len6 {n : Int} (hn : I64 n) : (dg b6 n.natAbs).length ≤ 4 := by
  have h1 := hn.lo
  have h2 := hn.hi
  rw [dg_len b6_2]
  show _ < 18446744073709551616
  omega
set_option maxRecDepth 100000 in
set_option maxHeartbeats 8000000 in
theorem rratio_any (a b : Int) (w : World) (ha : I64 a) (hb : I64 b) :
    Calls Try.prog 78 #[.int .i64 a, .int .i64 b] w fun e w' => e = .returned (.tuple #[frV (ratioE a b).1, .int .i64 (ratioE a b).2]) ∧ Below w.heap.size w w' := by
  obtain ⟨r, er⟩ : ∃ r, r = ratioE a b := ⟨_, rfl⟩
  rw [← er]
  have hal := abs_len6 ha
  have hbl := abs_len6 hb
  have h17 := frC_len r.1
  refine calls_sat (cx := Try.cx 30 [] [] [] w) (Try.ok ..) Try.func78 rfl [.v (.int .i64 a), .v (.int .i64 b)] rfl (by show 2 ≤ 30; omega) [] (holds_nil (Nat.le_refl _)) ?_
  by_cases h0 : b = 0
  · subst h0
    rw [show ratioE a 0 = (zeroF, 2) from rfl] at er
    rw [er]
    repeat' ((conv => whnf); first | refine walk (Try.ok ..) ?_ | fail)
    intro g4 hg4
    repeat' ((conv => whnf); first | refine walk (Try.ok ..) ?_ | (refine Cnd.mk (fun h => ?_) (fun h => ?_) <;> (first | exact cndT h (by (try dsimp only); omega) | exact cndF h (by (try dsimp only); omega) | (exfalso; simp at h; omega) | simp at h | skip)) | refine side2 ?_ | fail)
    exact done_pure rfl rfl rfl
  have hrr := ratioE_ref (a := a) h0
  rw [← er] at hrr
  repeat' ((conv => whnf); first | refine walk (Try.ok ..) ?_ | fail)
  intro g4 hg4
  repeat' ((conv => whnf); first | refine walk (Try.ok ..) ?_ | (refine Cnd.mk (fun h => ?_) (fun h => ?_) <;> (first | exact cndT h (by (try dsimp only); omega) | exact cndF h (by (try dsimp only); omega) | (exfalso; simp at h; omega) | simp at h | skip)) | refine side2 ?_ | fail)
  refine called_row 24 (xs := iv (dg b6 a.natAbs)) (m := (dg b6 a.natAbs).length) (fun v => v) (fun A cap => .o 24 A (dg b6 a.natAbs).length cap) (fun A cap => rfl) (fun w' hh => rsize_any a w' ha) ?_
  intro A1 c1
  skip
  refine called_row 26 (xs := iv (dg b6 b.natAbs)) (m := (dg b6 b.natAbs).length) (fun v => v) (fun A cap => .o 26 A (dg b6 b.natAbs).length cap) (fun A cap => rfl) (fun w' hh => rsize_any b w' hb) ?_
  intro A2 c2
  skip
  refine called_at (.t [.a (frC r.1), .v (.int .i64 r.2)]) rfl (fun w' hh => by
    have h := rmake_any ((decide (a < 0) && decide (0 < b)) || (decide (0 < a) && decide (b < 0))) a.natAbs b.natAbs A1 A2 c1 c2 w' (ro_of_row hh (id := 24) rfl) (ro_of_row hh (id := 26) rfl) (by omega) (by omega) (row_cap6 hh (id := 24) rfl) (row_cap6 hh (id := 26) rfl) (by omega)
    rw [hrr] at h
    exact h) ?_
  repeat' ((conv => whnf); first | refine walk (Try.ok ..) ?_ | refine side2 ?_ | fail)
  exact done_pure rfl rfl (congrArg (fun l => (SV.t [.a l, .v (.int .i64 r.2)]).real) (tk2 r.1))
set_option maxRecDepth 100000 in
set_option maxHeartbeats 8000000 in
theorem rof_any (n : Int) (w : World) (hn : I64 n) :
    Calls Try.prog 57 #[.int .i64 n] w fun e w' => e = .returned (frV (ratioE n 1).1) ∧ Below w.heap.size w w' := by
  obtain ⟨r, er⟩ : ∃ r, r = ratioE n 1 := ⟨_, rfl⟩
  rw [← er]
  have h17 := frC_len r.1
  refine calls_sat (cx := Try.cx 11 [] [] [] w) (Try.ok ..) Try.func57 rfl [.v (.int .i64 n)] rfl (by show 1 ≤ 11; omega) [] (holds_nil (Nat.le_refl _)) ?_
  repeat' ((conv => whnf); first | refine walk (Try.ok ..) ?_ | fail)
  intro g2 hg2
  repeat' ((conv => whnf); first | refine walk (Try.ok ..) ?_ | fail)
  refine called_pure (.t [.a (frC r.1), .v (.int .i64 r.2)]) rfl (fun w' => by rw [er]; exact rratio_any n 1 w' hn ⟨by decide, by decide⟩) ?_
  skip
  intro g3 hg3
  repeat' ((conv => whnf); first | refine walk (Try.ok ..) ?_ | refine side2 ?_ | fail)
  exact done_pure rfl rfl (congrArg (fun l => (SV.a l).real) (tk2 r.1))
theorem ratioE_one (n : Int) : (ratioE n 1).1 = ofF n := by
  unfold ratioE ofF
  rw [if_neg (by decide)]
  cases decide (n < 0) <;> rfl
end
end Go.Proofs.Ytomhfakkebaciaa
