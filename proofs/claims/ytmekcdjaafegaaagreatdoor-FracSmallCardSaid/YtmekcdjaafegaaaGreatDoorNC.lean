/-
  The walks of the frac package: quotients of numbers. The walks of the frac package: common divisors, the parts of a fraction, which fractions are right.
-/
import Derived.Test.YtmekcdjaafegaaaGreatDoorFK
set_option linter.unusedSimpArgs false
set_option linter.unusedVariables false
namespace Go.Proofs.YtmekcdjaafegaaaGreatDoor
section
open Go Sat Go.RowKit Go.PlainAid
set_option linter.unusedSimpArgs false
set_option linter.unusedVariables false
theorem cmp_ge {x y : Nat} (h : ¬ x < y) : 0 ≤ cmpN x y := by
  unfold cmpN
  rw [if_neg h]
  split <;> omega
theorem dg_two {n : Nat} (h : (dg bb n).length ≤ 2) : n < 18446744073709551616 := by
  have := (dg_len (B := bb) (by decide) 2 n).1 h
  exact this
theorem dg_one {n : Nat} (h0 : 0 < n) (h : n < bb) : dg bb n = [n] := by
  rw [dg_pos (by decide) h0, Nat.mod_eq_of_lt h, Nat.div_eq_of_lt h, dg_zero]
theorem called_args {cx : Cx} {n : Nat} {args : List SV} {H : Heap} {K : SV → Heap → Prop} (args' : List SV) (h : args.map SV.real = args'.map SV.real) (k : Called cx n args' H K) : Called cx n args H K := by
  refine ⟨fun w hw => ?_⟩
  rw [h]
  exact k.out w hw
theorem us_cut (u : List Nat) (j k : Nat) (tail : List Value) : us u ++ tail = us (u.take j) ++ us ((u.drop j).take k) ++ (us (u.drop (j + k)) ++ tail) := by
  rw [← List.append_assoc, ← us_app, ← us_app, List.append_assoc (u.take j), ← List.drop_drop, List.take_append_drop, List.take_append_drop]
theorem us_upd (u l : List Nat) (j : Nat) (tail : List Value) : us (u.take j) ++ us l ++ (us (u.drop (j + l.length)) ++ tail) = us (upd j u l) ++ tail := by
  unfold upd
  rw [← List.append_assoc, ← us_app, ← us_app]
theorem ap_eq {K : SV → Prop} {s s' : SV} (h : s' = s) (k : K s') : K s := h ▸ k
theorem s_eq {i g b off off' n n' c c' : Nat} (h1 : off = off') (h2 : n = n') (h3 : c = c') : SV.s i g b off n c = SV.s i g b off' n' c' := by subst h1; subst h2; subst h3; rfl
theorem if_at {p : Prop} [Decidable p] {j m : Nat} (h : ¬ p) (hm : m = j) : j = (if p then 0 else mulS m 1) := by
  rw [if_neg h, mulS_eq, hm, Nat.mul_one]
set_option maxRecDepth 100000 in
set_option maxHeartbeats 16000000 in
theorem divide_any (x y : Nat) (X Y : Option (Nat × Nat)) (capX capY : Nat) (w : World) (hx : Ro w X (dg bb x).length 1 (us (dg bb x))) (hy : Ro w Y (dg bb y).length 1 (us (dg bb y))) (hxl : (dg bb x).length ≤ 100000) (hyl : (dg bb y).length ≤ 100000) (hy0 : 0 < y) :
    Calls Tryz.prog 53 #[.slice (adr X) (dg bb x).length capX, .slice (adr Y) (dg bb y).length capY] w fun e w' => ∃ v u, e = .returned (.tuple #[v, u]) ∧ Rows2 w' w.heap.size 25 1 v u (dg bb (x / y)).length (us (dg bb (x / y))) (dg bb (x % y)).length (us (dg bb (x % y))) ∧ Below w.heap.size w w' := by
  obtain ⟨la, hla⟩ : ∃ n, n = (dg bb x).length := ⟨_, rfl⟩
  obtain ⟨n, hn⟩ : ∃ n, n = (dg bb y).length := ⟨_, rfl⟩
  rw [← hla] at hx hxl ⊢
  rw [← hn] at hy hyl ⊢
  have hbb : bb = 4294967296 := rfl
  have hb2 : (2 : Nat) ≤ bb := by decide
  have hn1 : 1 ≤ n := by
    rcases Nat.eq_zero_or_pos n with h | h
    · have := (dg_len hb2 0 y).1 (by omega)
      rw [Nat.pow_zero] at this
      omega
    · exact h
  refine calls_sat (cx := Tryz.cx 161 [11, 19] [] [] w) (Tryz.ok ..) Tryz.func53 rfl [.o 100 X la capX, .o 101 Y n capY] rfl (by show 2 ≤ 161; omega) [(100, .ro X la 1 (us (dg bb x))), (101, .ro Y n 1 (us (dg bb y)))] (holds_ros rfl rfl ⟨hx, hy, trivial⟩) ?_
  repeat' ((conv => whnf); first | refine walk (Tryz.ok ..) ?_ | fail)
  refine called_at (.v (.int .i64 (cmpN x y))) rfl (fun w' hh => by
    have h1 := cmp_any x y X Y capX capY w' (by rw [← hla]; exact ro_of_ro hh (id := 100) rfl) (by rw [← hn]; exact ro_of_ro hh (id := 101) rfl) (by omega) (by omega)
    rw [← hla, ← hn] at h1
    exact h1) ?_
  by_cases hlt : x < y
  · rw [cmp_lt hlt, Nat.mod_eq_of_lt hlt, Nat.div_eq_of_lt hlt, ← hla]
    repeat' ((conv => whnf); first | refine walk (Tryz.ok ..) ?_ | (refine Cnd.mk (fun h => ?_) (fun h => ?_) <;> (first | exact cndT h (by (try dsimp only); omega) | exact cndF h (by (try dsimp only); omega) | (exfalso; simp at h; omega) | simp at h | skip)) | fail)
    refine called_row 24 (xs := us (dg bb x)) (m := la) (fun v => v) (fun A cap => .o 24 A la cap) (fun A cap => rfl) (fun w' hh => by
      have h1 := clone_any (dg bb x) X capX w' (by rw [← hla]; exact ro_of_ro hh (id := 100) rfl) (by omega)
      rw [← hla] at h1
      exact h1) ?_
    intro A1 cap1
    repeat' ((conv => whnf); first | refine walk (Tryz.ok ..) ?_ | fail)
    exact done_nil2 (mk := fun v u => .tuple #[v, u]) rfl rfl 24 A1 cap1 rfl (Nat.le_refl _) (by rw [Nat.mul_one, List.take_of_length_le (by rw [us_len]; omega)]) rfl
  have hcg := cmp_ge hlt
  have hnla : n ≤ la := by rw [hn, hla]; exact len_le hb2 (by omega)
  have lowX : ∀ {cx : Cx} {H : Heap} {w' : World}, la ≤ 2 → Holds cx H w' → hfind H 100 = some (.ro X la 1 (us (dg bb x))) → Calls Tryz.prog 56 #[.slice (adr X) la capX] w' fun e w2 => e = .returned (.int .u64 x) ∧ Below w'.heap.size w' w2 := fun h2 hh hf => by
    have h1 := low_any x X capX _ (by rw [← hla]; exact ro_of_ro hh hf) (by omega)
    rw [← hla, Nat.mod_eq_of_lt (dg_two (by omega))] at h1
    exact h1
  have lowY : ∀ {cx : Cx} {H : Heap} {w' : World}, n ≤ 2 → Holds cx H w' → hfind H 101 = some (.ro Y n 1 (us (dg bb y))) → Calls Tryz.prog 56 #[.slice (adr Y) n capY] w' fun e w2 => e = .returned (.int .u64 y) ∧ Below w'.heap.size w' w2 := fun h2 hh hf => by
    have h1 := low_any y Y capY _ (by rw [← hn]; exact ro_of_ro hh hf) (by omega)
    rw [← hn, Nat.mod_eq_of_lt (dg_two (by omega))] at h1
    exact h1
  obtain ⟨bt, ebt⟩ : ∃ v, v = y / bb ^ (n - 1) := ⟨_, rfl⟩
  have htop : (dg bb y)[n - 1]? = some bt := by
    have h1 := dg_get hb2 (n - 1) y (by omega)
    have h2 : y / bb ^ (n - 1) < bb := by
      rw [Nat.div_lt_iff_lt_mul (Nat.pow_pos (by decide)), ← Nat.pow_succ', show (n - 1).succ = n by omega, hn]
      exact dg_upper hb2 y
    rw [Nat.mod_eq_of_lt h2] at h1
    rw [h1, ebt]
  have hbt : bt < bb := dg_lt hb2 y bt (List.mem_of_getElem? htop)
  rw [hbb] at hbt
  repeat' ((conv => whnf); first | refine walk (Tryz.ok ..) ?_ | (refine Cnd.mk (fun h => ?_) (fun h => ?_) <;> (first | exact cndT h (by (try dsimp only); omega) | exact cndF h (by (try dsimp only); omega) | (exfalso; simp at h; omega) | simp at h | skip)) | refine side2 ?_ | refine sideL2 ?_ | refine Or.inr ?_ | refine xi _ (u_at htop (by omega)) ?_ | fail)
  · have hx64 := dg_two (n := x) (by omega)
    have hy64 := dg_two (n := y) (by omega)
    refine called_at (.v (.int .u64 x)) rfl (fun w' hh => lowX (by omega) hh rfl) ?_
    skip
    refine called_at (.v (.int .u64 y)) rfl (fun w' hh => lowY (by omega) hh rfl) ?_
    repeat' ((conv => whnf); first | refine sideL2 ?_ | fail)
    refine called_row 34 (xs := us (dg bb (x / y))) (m := (dg bb (x / y)).length) (fun v => v) (fun A cap => .o 34 A (dg bb (x / y)).length cap) (fun A cap => rfl) (fun w' hh => of_any (x / y) w' (Nat.lt_of_le_of_lt (Nat.div_le_self _ _) hx64)) ?_
    intro A1 cap1
    skip
    refine called_at (.v (.int .u64 x)) rfl (fun w' hh => lowX (by omega) hh rfl) ?_
    skip
    refine called_at (.v (.int .u64 y)) rfl (fun w' hh => lowY (by omega) hh rfl) ?_
    repeat' ((conv => whnf); first | refine sideL2 ?_ | fail)
    refine called_row 40 (xs := us (dg bb (x % y))) (m := (dg bb (x % y)).length) (fun v => v) (fun A cap => .o 40 A (dg bb (x % y)).length cap) (fun A cap => rfl) (fun w' hh => of_any (x % y) w' (Nat.lt_of_le_of_lt (Nat.mod_le _ _) hx64)) ?_
    intro A2 cap2
    repeat' ((conv => whnf); first | refine walk (Tryz.ok ..) ?_ | fail)
    exact done_two (mk := fun v u => .tuple #[v, u]) rfl rfl 34 40 (by omega) A1 cap1 A2 cap2 rfl rfl (Nat.le_refl _) (Nat.le_refl _) (by rw [Nat.mul_one, List.take_of_length_le (by rw [us_len]; omega)]) (by rw [Nat.mul_one, List.take_of_length_le (by rw [us_len]; omega)]) rfl
  · have hn1 : n = 1 := by omega
    have hyb : y < bb := by
      have := dg_upper hb2 y
      rw [← hn, hn1, Nat.pow_one] at this
      exact this
    have hdy := dg_one hy0 hyb
    have hlt2 := Nat.mod_lt x hy0
    refine called_row 46 (xs := us (dg bb x)) (m := la) (fun v => v) (fun A cap => .o 46 A la cap) (fun A cap => rfl) (fun w' hh => by
      have h1 := clone_any (dg bb x) X capX w' (by rw [← hla]; exact ro_of_ro hh (id := 100) rfl) (by omega)
      rw [← hla] at h1
      exact h1) ?_
    intro A1 cap1
    repeat' ((conv => whnf); first | refine walk (Tryz.ok ..) ?_ | refine side2 ?_ | refine xi _ (u_at (l := dg bb y) (k := 0) (a := y) (by rw [hdy]; rfl) rfl) ?_ | fail)
    have hdl : (dgs la (x / y)).length = la := dgs_len _ _
    have hnvx : nv bb (dg bb x) = x := nv_dg hb2 x
    refine called_modA 46 (us (dgs la (x / y))) (.v (.int .u32 ((x % y : Nat) : Int))) rfl (by omega) (by rw [us_len, us_len, hdl, hla]) (fun w' tail g hA hh hg => by
      subst hA
      have h1 := small_any (dg bb x) [] tail g 25 cap1 y w' (by rw [List.nil_append]; exact hg) (by omega) (dg_lt hb2 x) hy0 hyb
      rw [hnvx, ← hla, List.nil_append] at h1
      exact h1) ?_
    have hnq : nv bb (dgs la (x / y)) = x / y := by
      rw [nv_dgs]
      refine Nat.mod_eq_of_lt (Nat.lt_of_le_of_lt (Nat.div_le_self _ _) ?_)
      rw [hla]
      exact dg_upper hb2 x
    have htr := trim_nil (B := bb) hb2 (dgs_lt la (x / y))
    rw [hnq] at htr
    rw [hbb] at hyb
    repeat' ((conv => whnf); first | refine walk (Tryz.ok ..) ?_ | fail)
    refine called_trim 46 (dg bb (x / y)).length rfl (by rw [htr]; have h9 := trim_len (dgs la (x / y)); rw [hdl] at h9; exact h9) (fun w' hh => by
      have h1 := trim_any (dgs la (x / y)) A1 cap1 w' (by rw [hdl]; exact ro_of_row hh (id := 46) rfl) (by rw [hdl]; omega) (by rw [hdl]; exact row_cap hh (id := 46) rfl)
      rw [← htr, hdl] at h1
      exact h1) ?_
    repeat' ((conv => whnf); first | refine sideL2 ?_ | fail)
    refine called_row 56 (xs := us (dg bb (x % y))) (m := (dg bb (x % y)).length) (fun v => v) (fun A cap => .o 56 A (dg bb (x % y)).length cap) (fun A cap => rfl) (fun w' hh => of_any (x % y) w' (by omega)) ?_
    intro A2 cap2
    repeat' ((conv => whnf); first | refine walk (Tryz.ok ..) ?_ | fail)
    exact done_two (mk := fun v u => .tuple #[v, u]) rfl rfl 46 56 (by omega) A1 cap1 A2 cap2 rfl rfl (Nat.le_refl _) (Nat.le_refl _) (by
      rw [List.take_take, Nat.min_self, Nat.mul_one, us_take, htr, ← trim_take]) (by rw [Nat.mul_one, List.take_of_length_le (by rw [us_len]; omega)]) rfl
  obtain ⟨by', eby⟩ : ∃ v, v = bb / (bt + 1) := ⟨_, rfl⟩
  have hby : IntKind.u32.wrap (4294967296 / ((bt : Int) + 1)) = (by' : Int) := by
    rw [show ((4294967296 : Int) / ((bt : Int) + 1)) = ((bb / (bt + 1) : Nat) : Int) from rfl, ← eby, wrap_u32]
    have h1 : by' ≤ bb / 2 := by
      rw [eby]
      refine Nat.div_le_div_left ?_ (by omega)
      have h2 : 0 < bt := by
        rw [ebt]
        exact Nat.div_pos (dg_lower hb2 (by omega)) (Nat.pow_pos (by decide))
      omega
    rw [hbb] at h1
    omega
  obtain ⟨hV, hb0, hb1, hxb, hD⟩ := div_begin (x := x) (y := y) (la := la) (n := n) (by' := by') hla.symm hn.symm (by omega) hnla (by rw [eby, ebt])
  have hdby := dg_one hb0 hb1
  have hVl := hV.len
  obtain ⟨V, eV⟩ : ∃ V, V = y * by' := ⟨_, rfl⟩
  rw [← eV] at hV hD hVl
  have en : ((la : Int) + 1).toNat = la + 1 := by omega
  refine sat_join0 (α := Nat × Option (Nat × Nat) × Nat) (fun s => ([(0, .yes, .o 100 X la capX), (8, .yes, .v (.int .i64 n)), (9, .yes, .v (.int .u32 by')), (10, .yes, .o 71 (some (s.1, 0)) (la + 1) (la + 1)), (11, .yes, .o 75 s.2.1 n s.2.2)], [(71, .row (some (s.1, 0)) 25 1 (la + 1) (la + 1) (us (List.replicate (la + 1) 0))), (75, .row s.2.1 25 1 n s.2.2 (us (dg bb V))), (100, .ro X la 1 (us (dg bb x)))])) (fun _ => True) (fun _ => rfl) ?_ ?_
  · repeat' ((conv => whnf); first | refine tw ?_ ?_ | refine side2 ?_ | refine sideL2 ?_ | refine sat_drawH (Tryz.ok ..) (by kernel_rfl) ?_ | fail)
    all_goals (conv => whnf)
    · intro g hg
      rw [en]
      repeat' ((conv => whnf); first | refine kp ?_ ?_ | exact trivial | refine side2 ?_ | fail)
      all_goals (conv => whnf)
      intro g2 hg2
      repeat' ((conv => whnf); first | refine kp ?_ ?_ | exact trivial | refine side2 ?_ | fail)
      refine called_row 75 (xs := us (dg bb V)) (m := n) (fun v => v) (fun A cap => .o 75 A n cap) (fun A cap => rfl) (fun w' hh => by
        have h0 : Ro w' (some (g2, 0)) 1 1 [Value.int .u32 (IntKind.u32.wrap (4294967296 / ((bt : Int) + 1)))] := ro_of_blk hh (id := 74) rfl 0 1 1 (by show 1 ≤ 1; omega)
        rw [hby] at h0
        have h1 := times_any y by' Y (some (g2, 0)) capY 1 w' (by rw [← hn]; exact ro_of_ro hh (id := 101) rfl) (by rw [hdby]; exact h0) (by omega) (by rw [hdby]; show 1 ≤ _; omega)
        rw [← hn, hdby, ← eV, hVl] at h1
        exact h1) ?_
      intro A1 cap1
      repeat' ((conv => whnf); first | refine kp ?_ ?_ | exact trivial | refine side2 ?_ | fail)
      refine ⟨(g, A1, cap1), trivial, ?_, ?_, rfl⟩
      · dsimp only
        rw [← hby]
        ((repeat' (first | exact trivial | exact rfl | refine And.intro ?_ ?_)) <;> (try (conv => whnf)) <;> (try simp only [SV.real, SV.r2, SV.r1]))
      · dsimp only
        rw [← made_us]
        ((repeat' (first | exact trivial | exact rfl | refine And.intro ?_ ?_)) <;> (try (conv => whnf)) <;> (try simp only [SV.real, SV.r2, SV.r1]))
    · intro g2 hg2
      repeat' ((conv => whnf); first | refine kp ?_ ?_ | refine tw ?_ ?_ | exact trivial | refine side2 ?_ | fail)
      all_goals (conv => whnf)
      · intro g hg
        rw [en]
        repeat' ((conv => whnf); first | refine kp ?_ ?_ | exact trivial | refine side2 ?_ | fail)
        refine called_row 75 (xs := us (dg bb V)) (m := n) (fun v => v) (fun A cap => .o 75 A n cap) (fun A cap => rfl) (fun w' hh => by
          have h0 : Ro w' (some (g2, 0)) 1 1 [Value.int .u32 (IntKind.u32.wrap (4294967296 / ((bt : Int) + 1)))] := ro_of_blk hh (id := 74) rfl 0 1 1 (by show 1 ≤ 1; omega)
          rw [hby] at h0
          have h1 := times_any y by' Y (some (g2, 0)) capY 1 w' (by rw [← hn]; exact ro_of_ro hh (id := 101) rfl) (by rw [hdby]; exact h0) (by omega) (by rw [hdby]; show 1 ≤ _; omega)
          rw [← hn, hdby, ← eV, hVl] at h1
          exact h1) ?_
        intro A1 cap1
        repeat' ((conv => whnf); first | refine kp ?_ ?_ | exact trivial | refine side2 ?_ | fail)
        refine ⟨(g, A1, cap1), trivial, ?_, ?_, rfl⟩
        · dsimp only
          rw [← hby]
          ((repeat' (first | exact trivial | exact rfl | refine And.intro ?_ ?_)) <;> (try (conv => whnf)) <;> (try simp only [SV.real, SV.r2, SV.r1]))
        · dsimp only
          rw [← made_us]
          ((repeat' (first | exact trivial | exact rfl | refine And.intro ?_ ?_)) <;> (try (conv => whnf)) <;> (try simp only [SV.real, SV.r2, SV.r1]))
      · refine called_row 75 (xs := us (dg bb V)) (m := n) (fun v => v) (fun A cap => .o 75 A n cap) (fun A cap => rfl) (fun w' hh => by
          have h0 : Ro w' (some (g2, 0)) 1 1 [Value.int .u32 (IntKind.u32.wrap (4294967296 / ((bt : Int) + 1)))] := ro_of_blk hh (id := 74) rfl 0 1 1 (by show 1 ≤ 1; omega)
          rw [hby] at h0
          have h1 := times_any y by' Y (some (g2, 0)) capY 1 w' (by rw [← hn]; exact ro_of_ro hh (id := 101) rfl) (by rw [hdby]; exact h0) (by omega) (by rw [hdby]; show 1 ≤ _; omega)
          rw [← hn, hdby, ← eV, hVl] at h1
          exact h1) ?_
        intro A1 cap1
        repeat' ((conv => whnf); first | refine kp ?_ ?_ | exact trivial | refine side2 ?_ | fail)
        all_goals (conv => whnf)
        intro g hg
        rw [en]
        repeat' ((conv => whnf); first | refine kp ?_ ?_ | exact trivial | refine side2 ?_ | fail)
        refine ⟨(g, A1, cap1), trivial, ?_, ?_, rfl⟩
        · dsimp only
          rw [← hby]
          ((repeat' (first | exact trivial | exact rfl | refine And.intro ?_ ?_)) <;> (try (conv => whnf)) <;> (try simp only [SV.real, SV.r2, SV.r1]))
        · dsimp only
          rw [← made_us]
          ((repeat' (first | exact trivial | exact rfl | refine And.intro ?_ ?_)) <;> (try (conv => whnf)) <;> (try simp only [SV.real, SV.r2, SV.r1]))
  rintro ⟨gu, A1, cap1⟩ _
  repeat' ((conv => whnf); first | refine walk (Tryz.ok ..) ?_ | fail)
  intro g2 hg2
  skip
  obtain ⟨lz, elz⟩ : ∃ v, v = (dg bb (x * by')).length := ⟨_, rfl⟩
  refine called_row 80 (xs := us (dg bb (x * by'))) (m := lz) (fun v => v) (fun A cap => .o 80 A lz cap) (fun A cap => rfl) (fun w' hh => by
    have h0 : Ro w' (some (g2, 0)) 1 1 [Value.int .u32 (by' : Int)] := ro_of_blk hh (id := 79) rfl 0 1 1 (by show 1 ≤ 1; omega)
    have h1 := times_any x by' X (some (g2, 0)) capX 1 w' (by rw [← hla]; exact ro_of_ro hh (id := 100) rfl) (by rw [hdby]; exact h0) (by omega) (by rw [hdby]; show 1 ≤ _; omega)
    rw [← hla, hdby, ← elz] at h1
    exact h1) ?_
  intro A2 cap2
  skip
  have hle2 : lz * 1 ≤ (us (dg bb (x * by'))).length := by rw [us_len]; omega
  refine other_copy_row (Tryz.ok 161 [11, 19] [] [] w.heap.size [] w).T (i := _) (j := _) (elem := 25) rfl rfl rfl rfl 71 (n := la + 1) rfl rfl (m := lz) (news := (us (dg bb (x * by'))).take (lz * 1)) ⟨rfl, hle2, rfl, rfl⟩ (by omega) (by omega) (by rw [us_take]; exact us_all _) ?_
  have e71 : (us (dg bb (x * by'))).take (lz * 1) ++ (us (List.replicate (la + 1) 0)).drop lz = us (dg bb (x * by') ++ List.replicate (la + 1 - lz) 0) := by
    rw [Nat.mul_one, List.take_of_length_le (by rw [us_len]; omega), us_drop, us_app]
    simp
  rw [e71]
  rw [← elz] at hD
  obtain ⟨u0, eu0⟩ : ∃ u, u = dg bb (x * by') ++ List.replicate (la + 1 - lz) 0 := ⟨_, rfl⟩
  rw [← eu0] at hD ⊢
  repeat' ((conv => whnf); first | refine walk (Tryz.ok ..) ?_ | refine side2 ?_ | refine sideL2 ?_ | fail)
  intro gq hgq
  have en3 : ((la : Int) - (n : Int) + 1).toNat = la - n + 1 := by omega
  rw [en3]
  repeat' ((conv => whnf); first | refine walk (Tryz.ok ..) ?_ | refine sideL2 ?_ | fail)
  refine sat_loop (Tryz.ok ..) (α := Nat × List Nat × List Nat) (fun s => ([(8, .yes, .v (.int .i64 n)), (9, .yes, .v (.int .u32 by')), (10, .yes, .o 71 (some (gu, 0)) (la + 1) (la + 1)), (11, .yes, .o 75 A1 n cap1), (12, .yes, .o 87 (some (gq, 0)) (la - n + 1) (la - n + 1)), (13, .yes, .v (.int .i64 ((s.1 : Int) - 1)))],
      [(71, .row (some (gu, 0)) 25 1 (la + 1) (la + 1) (us s.2.1)), (75, .row A1 25 1 n cap1 (us (dg bb V))), (87, .row (some (gq, 0)) 25 1 (la - n + 1) (la - n + 1) (us s.2.2))]))
    (fun s => s.1 ≤ la - n + 1 ∧ DivAt x by' V la n s.1 s.2.1 s.2.2) (fun s => s.1) (fun _ => rfl) ?_ ?_
  · refine ⟨(la - n + 1, u0, List.replicate (la - n + 1) 0), ⟨Nat.le_refl _, hD⟩, ?_, ?_, rfl⟩
    · dsimp only
      rw [show (((la - n + 1 : Nat) : Int) - 1) = (la : Int) - (n : Int) by omega]
      ((repeat' (first | exact trivial | exact rfl | refine And.intro ?_ ?_)) <;> (try (conv => whnf)) <;> (try simp only [SV.real, SV.r2, SV.r1]))
    · dsimp only
      ((repeat' (first | exact trivial | exact rfl | refine And.intro ?_ ?_)) <;> (try (conv => whnf)) <;> (try simp only [SV.real, SV.r2, SV.r1]))
      all_goals exact made_us _
  rintro ⟨t, u, q⟩ ⟨ht, hA⟩
  dsimp only at ht hA
  have hlu := hA.lu
  have hlq := hA.lq
  by_cases ht0 : t = 0
  · subst ht0
    rw [eV] at hV hA
    obtain ⟨d1, d2, d3⟩ := div_end hV hb0 hA hnla
    have htn : (u.take n).length = n := by rw [List.length_take]; omega
    have hdl : (dgs n (x % y)).length = n := dgs_len _ _
    rw [hbb] at hb1
    repeat' ((conv => whnf); first | refine walk (Tryz.ok ..) ?_ | (refine Cnd.mk (fun h => ?_) (fun h => ?_) <;> (first | exact cndT h (by (try dsimp only); omega) | exact cndF h (by (try dsimp only); omega) | (exfalso; simp at h; omega) | simp at h | skip)) | refine side2 ?_ | fail)
    refine called_modA 71 (us (dgs n (x % y) ++ u.drop n)) (.v (.int .u32 ((nv bb (u.take n) % by' : Nat) : Int))) rfl (by omega) (by rw [us_len, us_len, List.length_append, hdl, List.length_drop]; show n + (u.length - n) = u.length; omega) (fun w' tail g hAg hh hg => by
      have hgg : gu = g := by injection hAg with h9; injection h9
      subst hgg
      have e9 : us u ++ tail = [] ++ us (u.take n) ++ (us (u.drop n) ++ tail) := by
        rw [List.nil_append, ← List.append_assoc, ← us_app, List.take_append_drop]
      rw [e9] at hg
      have h1 := small_any (u.take n) [] (us (u.drop n) ++ tail) gu 25 (la + 1) by' w' hg (by omega) (fun z hz => hA.bu z (List.mem_of_mem_take hz)) hb0 hb1
      rw [htn, d2, List.nil_append, ← List.append_assoc, ← us_app] at h1
      exact h1) ?_
    have htr := trim_nil (B := bb) hb2 hA.bq
    rw [d1] at htr
    repeat' ((conv => whnf); first | refine walk (Tryz.ok ..) ?_ | fail)
    refine called_trim 87 (dg bb (x / y)).length rfl (by rw [htr, ← hlq]; exact trim_len _) (fun w' hh => by
      have h1 := trim_any q (some (gq, 0)) (la - n + 1) w' (by rw [hlq]; exact ro_of_row hh (id := 87) rfl) (by omega) (by rw [hlq]; exact Nat.le_refl _)
      rw [← htr, hlq] at h1
      exact h1) ?_
    skip
    refine called_row 159 (xs := us (dgs n (x % y))) (m := n) (fun v => v) (fun A cap => .o 159 A n cap) (fun A cap => rfl) (fun w' hh => by
      have h0 := (ro_of_row hh (id := 71) rfl).take_ (m := n) (by omega)
      rw [Nat.mul_one, us_take, List.take_append_of_le_length (by rw [hdl]; exact Nat.le_refl _), List.take_of_length_le (by rw [hdl]; exact Nat.le_refl _)] at h0
      have h1 := clone_any (dgs n (x % y)) (some (gu, 0)) (la + 1) w' (by rw [hdl]; exact h0) (by omega)
      rw [hdl] at h1
      exact h1) ?_
    intro A2 cap2
    have hnr : nv bb (dgs n (x % y)) = x % y := by
      rw [nv_dgs]
      exact Nat.mod_eq_of_lt ((dg_len hb2 n _).1 d3)
    have htr2 := trim_nil (B := bb) hb2 (dgs_lt n (x % y))
    rw [hnr] at htr2
    skip
    refine called_trim 159 (dg bb (x % y)).length rfl d3 (fun w' hh => by
      have h1 := trim_any (dgs n (x % y)) A2 cap2 w' (by rw [hdl]; exact ro_of_row hh (id := 159) rfl) (by omega) (by rw [hdl]; exact row_cap hh (id := 159) rfl)
      rw [← htr2, hdl] at h1
      exact h1) ?_
    repeat' ((conv => whnf); first | refine walk (Tryz.ok ..) ?_ | fail)
    exact done_two (mk := fun v u => .tuple #[v, u]) rfl rfl 87 159 (by omega) (some (gq, 0)) (la - n + 1) A2 cap2 rfl rfl (Nat.le_refl _) (Nat.le_refl _) (by
      rw [List.take_take, Nat.min_self, Nat.mul_one, us_take, htr, ← trim_take]) (by
      rw [List.take_take, Nat.min_self, Nat.mul_one, us_take, htr2, ← trim_take]) rfl
  obtain ⟨j, rfl⟩ : ∃ j, t = j + 1 := ⟨t - 1, by omega⟩
  obtain ⟨W, eW⟩ : ∃ W, W = nv bb u / bb ^ j := ⟨_, rfl⟩
  have hw := div_win hV hA (by omega)
  have hstep := div_step hV hA (by omega)
  rw [← eW] at hw hstep
  have hgs := div_guess hV hw
  obtain ⟨hvt, hv0, hvb⟩ := hV.top
  have hhi := hw.hi
  have hlo := hw.lo
  have htp := hw.top
  have hhb := hw.hib
  have hlb : W / bb ^ (n - 1) % bb < bb := Nat.mod_lt _ (by decide)
  obtain ⟨vt, evt⟩ : ∃ v, v = V / bb ^ (n - 1) := ⟨_, rfl⟩
  obtain ⟨hw1, ehw1⟩ : ∃ v, v = W / bb ^ n := ⟨_, rfl⟩
  obtain ⟨lw1, elw1⟩ : ∃ v, v = W / bb ^ (n - 1) % bb := ⟨_, rfl⟩
  obtain ⟨T, eT⟩ : ∃ v, v = W / bb ^ (n - 1) := ⟨_, rfl⟩
  rw [← evt] at hvt hv0 hvb hgs
  rw [← ehw1] at hhi hhb
  rw [← elw1] at hlo hlb
  rw [← ehw1, ← elw1, ← eT] at htp
  rw [← eT] at hgs
  rw [hbb] at hvb hhb hlb htp
  have hor : bits .or .u64 (IntKind.u64.wrap ((hw1 : Int) * 2 ^ Int.toNat 32)) (lw1 : Int) = (T : Int) := by
    rw [IntKind.wrap_u64, pow32, Int.emod_eq_of_lt (by omega) (by omega), or_u64 (by omega) (by omega)]
    omega
  have hTb : T ≤ 18446744073709551615 := by omega
  have hsl : 0 ≤ (j : Int) ∧ (j : Int) ≤ (j : Int) + (n : Int) + 1 ∧ (j : Int) + (n : Int) + 1 ≤ ((la + 1 : Nat) : Int) ∧ (some ((gu, 0) : Nat × Nat)).isSome = true := ⟨by omega, by omega, by omega, rfl⟩
  obtain ⟨g0, eg0⟩ : ∃ v, v = min (T / vt) 4294967295 := ⟨_, rfl⟩
  rw [← eg0] at hgs
  repeat' ((conv => whnf); first | refine walk (Tryz.ok ..) ?_ | (refine Cnd.mk (fun h => ?_) (fun h => ?_) <;> (first | exact cndT h (by (try dsimp only); omega) | exact cndF h (by (try dsimp only); omega) | (exfalso; simp at h; omega) | simp at h | skip)) | refine side2 ?_ | refine sideL2 ?_ | refine Or.inr ?_ | refine xi _ (u_at hhi (by omega)) ?_ | refine xi _ (u_at hlo (by omega)) ?_ | refine xi _ (u_at hvt (by omega)) ?_ | fail)
  refine sat_to ([(8, .yes, .v (.int .i64 n)), (9, .yes, .v (.int .u32 by')), (10, .yes, .o 71 (some (gu, 0)) (la + 1) (la + 1)), (11, .yes, .o 75 A1 n cap1), (12, .yes, .o 87 (some (gq, 0)) (la - n + 1) (la - n + 1)), (13, .yes, .v (.int .i64 j)), (15, .yes, .v (.int .u64 g0))],
      [(71, .row (some (gu, 0)) 25 1 (la + 1) (la + 1) (us u)), (75, .row A1 25 1 n cap1 (us (dg bb V))), (87, .row (some (gq, 0)) 25 1 (la - n + 1) (la - n + 1) (us q))]) rfl ?_ ?_ rfl ?_
  · rw [show ((g0 : Nat) : Int) = min (bits .or .u64 (IntKind.u64.wrap ((hw1 : Int) * 2 ^ Int.toNat 32)) (lw1 : Int) / (vt : Int)) 4294967295 by
      rw [hor, eg0, show ((T : Int) / (vt : Int)) = ((T / vt : Nat) : Int) from rfl]
      generalize T / vt = r
      omega, show (j : Int) = ((j + 1 : Nat) : Int) - 1 by omega]
    ((repeat' (first | exact trivial | exact rfl | refine And.intro ?_ ?_)) <;> (try (conv => whnf)) <;> (try simp only [SV.real, SV.r2, SV.r1]))
  · ((repeat' (first | exact trivial | exact rfl | refine And.intro ?_ ?_)) <;> (try (conv => whnf)) <;> (try simp only [SV.real, SV.r2, SV.r1]))
  refine sat_ops (Tryz.ok ..) ?_
  repeat' ((conv => whnf); first | refine side2 ?_ | refine sideL2 ?_ | refine Or.inr ?_ | fail)
  refine called_args [.s 71 gu 0 j (n + 1) (la + 1 - j), .o 75 A1 n cap1, .v (.int .u64 g0)] (congrArg (fun s : SV => [s.real, (SV.o 75 A1 n cap1).real, (SV.v (.int .u64 g0)).real]) (s_eq (if_at (by omega) (by omega)) (by omega) (by omega)).symm) ?_
  have hwl := hw.len
  have hwv := hw.win
  have htl : (us (u.take j)).length = j := by rw [us_len, List.length_take]; omega
  have hdl : ∀ z, (dgs (n + 1) z).length = n + 1 := fun z => dgs_len _ _
  refine called_modA 71 (us (upd j u (dgs (n + 1) (W + bb ^ (n + 1) - g0 * V)))) (.v (.bool (decide (W < g0 * V)))) rfl (by omega) (by rw [us_len, us_len, upd_len (by rw [hdl]; omega)]) (fun w' tail g hAg hh hg => by
    have hgg : gu = g := by injection hAg with h9; injection h9
    subst hgg
    rw [us_cut u j (n + 1)] at hg
    have h1 := take_any ((u.drop j).take (n + 1)) (us (u.take j)) (us (u.drop (j + (n + 1))) ++ tail) gu 25 (la + 1 - j) V g0 A1 cap1 w' hg (by rw [hVl]; exact ro_of_row hh (id := 75) rfl) (fun p hp => Ne.symm (rows_ne hh (i := 71) (j := 75) rfl rfl (by omega) (gu, 0) p rfl hp)) (by rw [hwl]; omega) (fun z hz => hA.bu z (List.mem_of_mem_drop (List.mem_of_mem_take hz))) (by rw [hbb]; omega) (by rw [hVl, hwl]; omega)
    rw [hwl, hwv, htl, hVl] at h1
    have h2 := us_upd u (dgs (n + 1) (W + bb ^ (n + 1) - g0 * V)) j tail
    rw [hdl] at h2
    rw [h2] at h1
    exact h1) ?_
  repeat' ((conv => whnf); first | refine walk (Tryz.ok ..) ?_ | fail)
  refine sat_loop (Tryz.ok ..) (α := Nat) (fun gs => ([(8, .yes, .v (.int .i64 n)), (9, .yes, .v (.int .u32 by')), (10, .yes, .o 71 (some (gu, 0)) (la + 1) (la + 1)), (11, .yes, .o 75 A1 n cap1), (12, .yes, .o 87 (some (gq, 0)) (la - n + 1) (la - n + 1)), (13, .yes, .v (.int .i64 j)), (15, .yes, .v (.int .u64 gs)), (16, .yes, .v (.bool (decide (W < gs * V))))],
      [(71, .row (some (gu, 0)) 25 1 (la + 1) (la + 1) (us (upd j u (dgs (n + 1) (W + bb ^ (n + 1) - gs * V))))), (75, .row A1 25 1 n cap1 (us (dg bb V))), (87, .row (some (gq, 0)) 25 1 (la - n + 1) (la - n + 1) (us q))])) (fun gs => W / V ≤ gs ∧ gs ≤ 4294967295) (fun gs => gs) (fun _ => rfl) ?_ ?_
  · refine ⟨g0, ⟨hgs, by omega⟩, ?_, ?_, rfl⟩
    all_goals ((repeat' (first | exact trivial | exact rfl | refine And.intro ?_ ?_)) <;> (try (conv => whnf)) <;> (try simp only [SV.real, SV.r2, SV.r1]))
  rintro gs ⟨hg1, hg2⟩
  have hV0 : 0 < V := by
    rcases Nat.eq_zero_or_pos V with h0 | h0
    · have := hw.lt
      rw [h0] at this
      omega
    · exact h0
  have hgV : gs * V < bb ^ (n + 1) := by
    have h1 : gs * V ≤ gs * bb ^ n := Nat.mul_le_mul_left _ (Nat.le_of_lt hV.lt)
    have h2 : gs * bb ^ n < bb * bb ^ n := Nat.mul_lt_mul_of_pos_right (by rw [hbb]; omega) (Nat.pow_pos (by decide))
    rw [← Nat.pow_succ'] at h2
    exact Nat.lt_of_le_of_lt h1 h2
  by_cases how : W < gs * V
  · obtain ⟨k, rfl⟩ : ∃ k, gs = k + 1 := ⟨gs - 1, by
      have h9 : gs ≠ 0 := fun e => by rw [e, Nat.zero_mul] at how; omega
      omega⟩
    rw [Nat.add_mul, Nat.one_mul] at how hgV
    obtain ⟨Z, eZ⟩ : ∃ Z, Z = W + bb ^ (n + 1) - (k + 1) * V := ⟨_, rfl⟩
    have eZ2 : Z + V = W + bb ^ (n + 1) - k * V := by rw [eZ, Nat.add_mul, Nat.one_mul]; omega
    have hZ : Z < bb ^ (n + 1) := by rw [eZ, Nat.add_mul, Nat.one_mul]; omega
    have hnZ : nv bb (dgs (n + 1) Z) = Z := by rw [nv_dgs, Nat.mod_eq_of_lt hZ]
    have hkk : W / V ≤ k := by
      have h8 : W / V < k + 1 := by
        rw [Nat.div_lt_iff_lt_mul hV0, Nat.add_mul, Nat.one_mul]
        exact how
      omega
    have hbo : (!decide (bb ^ (n + 1) ≤ Z + V)) = decide (W < k * V) := by
      by_cases h8 : W < k * V
      · rw [decide_eq_true h8, decide_eq_false (by omega)]; rfl
      · rw [decide_eq_false h8, decide_eq_true (by omega)]; rfl
    have hjl : j + (dgs (n + 1) Z).length ≤ u.length := by rw [hdl]; omega
    rw [← eZ, show decide (W < (k + 1) * V) = true by rw [decide_eq_true_eq, Nat.add_mul, Nat.one_mul]; exact how]
    repeat' ((conv => whnf); first | refine walk (Tryz.ok ..) ?_ | (refine Cnd.mk (fun h => ?_) (fun h => ?_) <;> (first | exact cndT h (by (try dsimp only); omega) | exact cndF h (by (try dsimp only); omega) | (exfalso; simp at h; omega) | simp at h | skip)) | refine side2 ?_ | refine sideL2 ?_ | refine Or.inr ?_ | fail)
    refine called_args [.s 71 gu 0 j (n + 1) (la + 1 - j), .o 75 A1 n cap1] (congrArg (fun s : SV => [s.real, (SV.o 75 A1 n cap1).real]) (s_eq (if_at (by omega) (by omega)) (by omega) (by omega)).symm) ?_
    refine called_modA 71 (us (upd j u (dgs (n + 1) (W + bb ^ (n + 1) - k * V)))) (.v (.bool (decide (bb ^ (n + 1) ≤ Z + V)))) rfl (by omega) (by rw [us_len, us_len, upd_len (by rw [hdl]; omega), upd_len hjl]) (fun w' tail g hAg hh hg => by
      have hgg : gu = g := by injection hAg with h9; injection h9
      subst hgg
      rw [us_cut (upd j u (dgs (n + 1) Z)) j (n + 1)] at hg
      have e1 := upd_win hjl
      have e2 := upd_take hjl
      rw [hdl] at e1
      rw [e1, e2] at hg
      have h1 := give_any (dgs (n + 1) Z) (us (u.take j)) (us ((upd j u (dgs (n + 1) Z)).drop (j + (n + 1))) ++ tail) gu 25 (la + 1 - j) V A1 cap1 w' hg (by rw [hVl]; exact ro_of_row hh (id := 75) rfl) (fun p hp => Ne.symm (rows_ne hh (i := 71) (j := 75) rfl rfl (by omega) (gu, 0) p rfl hp)) (by rw [hdl]; omega) (dgs_lt _ _) (by rw [hVl, hdl]; omega)
      rw [hdl, hnZ, htl, hVl, eZ2, ← eZ2] at h1
      have h2 := us_upd (upd j u (dgs (n + 1) Z)) (dgs (n + 1) (Z + V)) j tail
      rw [hdl, e2, upd_upd hjl (by rw [hdl, hdl])] at h2
      rw [h2, eZ2] at h1
      rw [eZ2]
      exact h1) ?_
    repeat' ((conv => whnf); first | refine walk (Tryz.ok ..) ?_ | refine sideL2 ?_ | fail)
    refine ⟨k, ⟨⟨hkk, by omega⟩, by omega⟩, ?_, ?_, rfl⟩
    · dsimp only
      rw [← hbo, show (k : Int) = ((k + 1 : Nat) : Int) - 1 by omega]
      ((repeat' (first | exact trivial | exact rfl | refine And.intro ?_ ?_)) <;> (try (conv => whnf)) <;> (try simp only [SV.real, SV.r2, SV.r1]))
    · ((repeat' (first | exact trivial | exact rfl | refine And.intro ?_ ?_)) <;> (try (conv => whnf)) <;> (try simp only [SV.real, SV.r2, SV.r1]))
  · have hge := win_eq (n := n) hg1 how hV0
    have hwm := win_mod (n := n) (W := W) hV0
    rw [← hge] at hwm
    rw [← hge] at hstep
    rw [hwm, show decide (W < gs * V) = false from decide_eq_false how]
    have hlo2 : mulS ((j : Int)).toNat 1 < (us q).length := by rw [mulS_eq, us_len]; omega
    have hset : (us q).set (mulS ((j : Int)).toNat 1) (.int .u32 (gs : Int)) = us (q.set j gs) := u_set rfl rfl
    repeat' ((conv => whnf); first | refine walk (Tryz.ok ..) ?_ | (refine Cnd.mk (fun h => ?_) (fun h => ?_) <;> (first | exact cndT h (by (try dsimp only); omega) | exact cndF h (by (try dsimp only); omega) | (exfalso; simp at h; omega) | simp at h | skip)) | refine side2 ?_ | refine sideL2 ?_ | fail)
    refine ⟨(j, upd j u (dgs (n + 1) (W % V)), q.set j gs), ⟨⟨by omega, hstep⟩, by dsimp only; omega⟩, ?_, ?_, rfl⟩
    · ((repeat' (first | exact trivial | exact rfl | refine And.intro ?_ ?_)) <;> (try (conv => whnf)) <;> (try simp only [SV.real, SV.r2, SV.r1]))
    · dsimp only
      rw [← hset]
      ((repeat' (first | exact trivial | exact rfl | refine And.intro ?_ ?_)) <;> (try (conv => whnf)) <;> (try simp only [SV.real, SV.r2, SV.r1]))
end
section
open Go Sat Go.RowKit Go.PlainAid
set_option linter.unusedSimpArgs false
set_option linter.unusedVariables false
set_option maxRecDepth 100000 in
set_option maxHeartbeats 8000000 in
theorem one_any (x : Nat) (X : Option (Nat × Nat)) (capX : Nat) (w : World) (hx : Ro w X (dg bb x).length 1 (us (dg bb x))) (hxl : (dg bb x).length ≤ 100000) :
    Calls Tryz.prog 52 #[.slice (adr X) (dg bb x).length capX] w fun e w' => e = .returned (.bool (decide (x = 1))) ∧ Below w.heap.size w w' := by
  have hone := len_one (B := bb) (by decide) x
  obtain ⟨l, el⟩ : ∃ l, l = dg bb x := ⟨_, rfl⟩
  rw [← el] at hx hxl hone ⊢
  refine calls_sat (cx := Tryz.cx 12 [] [] [] w) (Tryz.ok ..) Tryz.func52 rfl [.o 100 X l.length capX] rfl (by show 1 ≤ 12; omega) [(100, .ro X l.length 1 (us l))] (holds_ros rfl rfl ⟨hx, trivial⟩) ?_
  by_cases h1 : l.length = 1
  · obtain ⟨a, ha⟩ := us_at (l := l) (k := 0) (by omega)
    have hu : decide (x = 1) = decide ((a : Int) = 1) := by
      have : x = 1 ↔ (a : Int) = 1 := by
        rw [← hone, ha]
        simp only [Option.some.injEq]
        omega
      simp only [this]
    rw [hu, h1]
    rw [h1] at hx
    repeat' ((conv => whnf); first | refine walk (Tryz.ok ..) ?_ | refine side2 ?_ | refine xi _ (fun _ => u_at ha rfl) ?_ | fail)
    exact done_pure rfl rfl (congrArg Value.bool (by rw [Bool.eq_iff_iff]; simp))
  · have hu : decide (x = 1) = false := decide_eq_false fun h => h1 (hone.2 h).1
    rw [hu]
    repeat' ((conv => whnf); first | refine walk (Tryz.ok ..) ?_ | refine side2 ?_ | refine xi _ (no_u (by simp; omega)) ?_ | fail)
    exact done_pure rfl rfl (congrArg Value.bool (by rw [Bool.and_eq_false_iff]; left; simpa using (by omega : (l.length : Int) ≠ 1)))
inductive K4 where
  | a | b | c | d
structure CS where
  k : K4
  x : Nat
  y : Nat
  A : Option (Nat × Nat)
  cA : Nat
  B : Option (Nat × Nat)
  cB : Nat
theorem gcd_step (x y : Nat) : Nat.gcd y (x % y) = Nat.gcd x y := by
  rw [Nat.gcd_comm x y, Nat.gcd_rec y x, Nat.gcd_comm]
set_option maxRecDepth 100000 in
set_option maxHeartbeats 8000000 in
theorem common_any (x0 y0 : Nat) (X Y : Option (Nat × Nat)) (capX capY : Nat) (w : World) (hx : Ro w X (dg bb x0).length 1 (us (dg bb x0))) (hy : Ro w Y (dg bb y0).length 1 (us (dg bb y0))) (hxl : (dg bb x0).length ≤ 100000) (hyl : (dg bb y0).length ≤ 100000) (hy0 : 0 < y0) :
    Calls Tryz.prog 69 #[.slice (adr X) (dg bb x0).length capX, .slice (adr Y) (dg bb y0).length capY] w fun e w' => (e = .returned (.slice (adr Y) (dg bb y0).length capY) ∧ Nat.gcd x0 y0 = y0 ∧ Below w.heap.size w w') ∨ (∃ v, e = .returned v ∧ w'.ownsRow w.heap.size 25 1 v (dg bb (Nat.gcd x0 y0)).length (us (dg bb (Nat.gcd x0 y0))) ∧ Below w.heap.size w w') := by
  have hb2 : (2 : Nat) ≤ bb := by decide
  obtain ⟨G, hG⟩ : ∃ G, G = Nat.gcd x0 y0 := ⟨_, rfl⟩
  rw [← hG]
  refine calls_sat (cx := Tryz.cx 19 [] [] [] w) (Tryz.ok ..) Tryz.func69 rfl [.o 100 X (dg bb x0).length capX, .o 101 Y (dg bb y0).length capY] rfl (by show 2 ≤ 19; omega) [(100, .ro X (dg bb x0).length 1 (us (dg bb x0))), (101, .ro Y (dg bb y0).length 1 (us (dg bb y0)))] (holds_ros rfl rfl ⟨hx, hy, trivial⟩) ?_
  repeat' ((conv => whnf); first | refine walk (Tryz.ok ..) ?_ | fail)
  refine sat_loop (Tryz.ok ..) (α := CS) (fun s => match s.k with
    | .a => ([(0, .yes, .o 100 X (dg bb x0).length capX), (1, .yes, .o 101 Y (dg bb y0).length capY)], [(100, .ro X (dg bb x0).length 1 (us (dg bb x0))), (101, .ro Y (dg bb y0).length 1 (us (dg bb y0)))])
    | .b => ([(0, .yes, .o 101 Y (dg bb y0).length capY), (1, .yes, .o 200 s.B (dg bb s.y).length s.cB)], [(101, .ro Y (dg bb y0).length 1 (us (dg bb y0))), (200, .row s.B 25 1 (dg bb s.y).length s.cB (us (dg bb s.y)))])
    | .c => ([(0, .yes, .o 200 s.A (dg bb s.x).length s.cA), (1, .yes, .o 301 s.B (dg bb s.y).length s.cB)], [(200, .row s.A 25 1 (dg bb s.x).length s.cA (us (dg bb s.x))), (301, .row s.B 25 1 (dg bb s.y).length s.cB (us (dg bb s.y)))])
    | .d => ([(0, .yes, .o 301 s.A (dg bb s.x).length s.cA), (1, .yes, .o 200 s.B (dg bb s.y).length s.cB)], [(301, .row s.A 25 1 (dg bb s.x).length s.cA (us (dg bb s.x))), (200, .row s.B 25 1 (dg bb s.y).length s.cB (us (dg bb s.y)))]))
    (fun s => (dg bb s.x).length ≤ 100000 ∧ (dg bb s.y).length ≤ 100000 ∧ Nat.gcd s.x s.y = G ∧ (match s.k with | .a => s.x = x0 ∧ s.y = y0 | .b => s.x = y0 | _ => True)) (fun s => s.y) (fun s => by cases s with | mk k _ _ _ _ _ _ => cases k <;> rfl) ?_ ?_
  · refine ⟨⟨.a, x0, y0, none, 0, none, 0⟩, ⟨hxl, hyl, hG.symm, rfl, rfl⟩, ?_, ?_, rfl⟩
    all_goals ((repeat' (first | exact trivial | exact rfl | refine And.intro ?_ ?_)) <;> (try (conv => whnf)) <;> (try simp only [SV.real, SV.r2, SV.r1]))
  rintro ⟨k, x, y, A1, c1, A2, c2⟩ ⟨hl1, hl2, hgc, hk⟩
  dsimp only at hl1 hl2 hgc hk
  have hgc2 := (gcd_step x y).trans hgc
  have hlm : 0 < y → (dg bb (x % y)).length ≤ 100000 := fun h => Nat.le_trans (len_le hb2 (Nat.le_of_lt (Nat.mod_lt x h))) hl2
  rcases Nat.eq_zero_or_pos y with h0 | h0
  · subst h0
    rw [Nat.gcd_zero_right] at hgc
    cases k
    · dsimp only at hk
      omega
    · dsimp only at hk ⊢
      rw [dg_zero]
      repeat' ((conv => whnf); first | refine walk (Tryz.ok ..) ?_ | (refine Cnd.mk (fun h => ?_) (fun h => ?_) <;> (first | exact cndT h (by (try dsimp only); omega) | exact cndF h (by (try dsimp only); omega) | (exfalso; simp at h; omega) | simp at h | skip)) | fail)
      exact (done_pure (x := .slice (adr Y) (dg bb y0).length capY) rfl rfl rfl).mono fun e w' hp => .inl ⟨hp.1, by omega, hp.2⟩
    · dsimp only at hk ⊢
      rw [dg_zero]
      repeat' ((conv => whnf); first | refine walk (Tryz.ok ..) ?_ | (refine Cnd.mk (fun h => ?_) (fun h => ?_) <;> (first | exact cndT h (by (try dsimp only); omega) | exact cndF h (by (try dsimp only); omega) | (exfalso; simp at h; omega) | simp at h | skip)) | fail)
      subst hgc
      exact (done_row (mk := fun v => v) rfl rfl 200 A1 c1 rfl rfl).mono fun e w' hp => .inr hp
    · dsimp only at hk ⊢
      rw [dg_zero]
      repeat' ((conv => whnf); first | refine walk (Tryz.ok ..) ?_ | (refine Cnd.mk (fun h => ?_) (fun h => ?_) <;> (first | exact cndT h (by (try dsimp only); omega) | exact cndF h (by (try dsimp only); omega) | (exfalso; simp at h; omega) | simp at h | skip)) | fail)
      subst hgc
      exact (done_row (mk := fun v => v) rfl rfl 301 A1 c1 rfl rfl).mono fun e w' hp => .inr hp
  have hlm := hlm h0
  have hlt := Nat.mod_lt x h0
  have hyp : 0 < (dg bb y).length := by
    rcases Nat.eq_zero_or_pos (dg bb y).length with h9 | h9
    · rw [List.length_eq_zero_iff, dg_nil hb2] at h9
      omega
    · exact h9
  cases k
  · obtain ⟨rfl, rfl⟩ := hk
    repeat' ((conv => whnf); first | refine walk (Tryz.ok ..) ?_ | (refine Cnd.mk (fun h => ?_) (fun h => ?_) <;> (first | exact cndT h (by (try dsimp only); omega) | exact cndF h (by (try dsimp only); omega) | (exfalso; simp at h; omega) | simp at h | skip)) | fail)
    refine called_row2 310 200 (m1 := (dg bb (x / y)).length) (m2 := (dg bb (x % y)).length) (xs1 := us (dg bb (x / y))) (xs2 := us (dg bb (x % y))) (fun v u => .tuple #[v, u]) (fun A c A' c' => .t [.o 310 A (dg bb (x / y)).length c, .o 200 A' (dg bb (x % y)).length c']) (fun _ _ _ _ => rfl) (fun w' hh => divide_any x y X Y capX capY w' (ro_of_ro hh (id := 100) rfl) (ro_of_ro hh (id := 101) rfl) (by omega) (by omega) h0) ?_
    intro A3 cap3 A4 cap4
    repeat' ((conv => whnf); first | refine walk (Tryz.ok ..) ?_ | fail)
    refine ⟨⟨.b, y, x % y, none, 0, A4, cap4⟩, ⟨⟨by dsimp only; omega, by dsimp only; omega, hgc2, rfl⟩, hlt⟩, ?_, ?_, rfl⟩
    · ((repeat' (first | exact trivial | exact rfl | refine And.intro ?_ ?_)) <;> (try (conv => whnf)) <;> (try simp only [SV.real, SV.r2, SV.r1]))
    · ((repeat' (first | exact trivial | exact rfl | refine And.intro ?_ ?_)) <;> (try (conv => whnf)) <;> (try simp only [SV.real, SV.r2, SV.r1]))
  · dsimp only at hk
    subst hk
    repeat' ((conv => whnf); first | refine walk (Tryz.ok ..) ?_ | (refine Cnd.mk (fun h => ?_) (fun h => ?_) <;> (first | exact cndT h (by (try dsimp only); omega) | exact cndF h (by (try dsimp only); omega) | (exfalso; simp at h; omega) | simp at h | skip)) | fail)
    refine called_row2 310 301 (m1 := (dg bb (x / y)).length) (m2 := (dg bb (x % y)).length) (xs1 := us (dg bb (x / y))) (xs2 := us (dg bb (x % y))) (fun v u => .tuple #[v, u]) (fun A c A' c' => .t [.o 310 A (dg bb (x / y)).length c, .o 301 A' (dg bb (x % y)).length c']) (fun _ _ _ _ => rfl) (fun w' hh => divide_any x y Y A2 capY c2 w' (ro_of_ro hh (id := 101) rfl) (ro_of_row hh (id := 200) rfl) (by omega) (by omega) h0) ?_
    intro A3 cap3 A4 cap4
    repeat' ((conv => whnf); first | refine walk (Tryz.ok ..) ?_ | fail)
    refine ⟨⟨.c, y, x % y, A2, c2, A4, cap4⟩, ⟨⟨by dsimp only; omega, by dsimp only; omega, hgc2, trivial⟩, hlt⟩, ?_, ?_, rfl⟩
    · ((repeat' (first | exact trivial | exact rfl | refine And.intro ?_ ?_)) <;> (try (conv => whnf)) <;> (try simp only [SV.real, SV.r2, SV.r1]))
    · ((repeat' (first | exact trivial | exact rfl | refine And.intro ?_ ?_)) <;> (try (conv => whnf)) <;> (try simp only [SV.real, SV.r2, SV.r1]))
  · repeat' ((conv => whnf); first | refine walk (Tryz.ok ..) ?_ | (refine Cnd.mk (fun h => ?_) (fun h => ?_) <;> (first | exact cndT h (by (try dsimp only); omega) | exact cndF h (by (try dsimp only); omega) | (exfalso; simp at h; omega) | simp at h | skip)) | fail)
    refine called_row2 310 200 (m1 := (dg bb (x / y)).length) (m2 := (dg bb (x % y)).length) (xs1 := us (dg bb (x / y))) (xs2 := us (dg bb (x % y))) (fun v u => .tuple #[v, u]) (fun A c A' c' => .t [.o 310 A (dg bb (x / y)).length c, .o 200 A' (dg bb (x % y)).length c']) (fun _ _ _ _ => rfl) (fun w' hh => divide_any x y A1 A2 c1 c2 w' (ro_of_row hh (id := 200) rfl) (ro_of_row hh (id := 301) rfl) (by omega) (by omega) h0) ?_
    intro A3 cap3 A4 cap4
    repeat' ((conv => whnf); first | refine walk (Tryz.ok ..) ?_ | fail)
    refine ⟨⟨.d, y, x % y, A2, c2, A4, cap4⟩, ⟨⟨by dsimp only; omega, by dsimp only; omega, hgc2, trivial⟩, hlt⟩, ?_, ?_, rfl⟩
    · ((repeat' (first | exact trivial | exact rfl | refine And.intro ?_ ?_)) <;> (try (conv => whnf)) <;> (try simp only [SV.real, SV.r2, SV.r1]))
    · ((repeat' (first | exact trivial | exact rfl | refine And.intro ?_ ?_)) <;> (try (conv => whnf)) <;> (try simp only [SV.real, SV.r2, SV.r1]))
  · repeat' ((conv => whnf); first | refine walk (Tryz.ok ..) ?_ | (refine Cnd.mk (fun h => ?_) (fun h => ?_) <;> (first | exact cndT h (by (try dsimp only); omega) | exact cndF h (by (try dsimp only); omega) | (exfalso; simp at h; omega) | simp at h | skip)) | fail)
    refine called_row2 310 301 (m1 := (dg bb (x / y)).length) (m2 := (dg bb (x % y)).length) (xs1 := us (dg bb (x / y))) (xs2 := us (dg bb (x % y))) (fun v u => .tuple #[v, u]) (fun A c A' c' => .t [.o 310 A (dg bb (x / y)).length c, .o 301 A' (dg bb (x % y)).length c']) (fun _ _ _ _ => rfl) (fun w' hh => divide_any x y A1 A2 c1 c2 w' (ro_of_row hh (id := 301) rfl) (ro_of_row hh (id := 200) rfl) (by omega) (by omega) h0) ?_
    intro A3 cap3 A4 cap4
    repeat' ((conv => whnf); first | refine walk (Tryz.ok ..) ?_ | fail)
    refine ⟨⟨.c, y, x % y, A2, c2, A4, cap4⟩, ⟨⟨by dsimp only; omega, by dsimp only; omega, hgc2, trivial⟩, hlt⟩, ?_, ?_, rfl⟩
    · ((repeat' (first | exact trivial | exact rfl | refine And.intro ?_ ?_)) <;> (try (conv => whnf)) <;> (try simp only [SV.real, SV.r2, SV.r1]))
    · ((repeat' (first | exact trivial | exact rfl | refine And.intro ?_ ?_)) <;> (try (conv => whnf)) <;> (try simp only [SV.real, SV.r2, SV.r1]))
/-! fractions as values -/
def frC (f : Fr) : List SV := .v (.bool f.neg) :: ((us (lim f.num)).map .v ++ (us (lim f.den)).map .v)
def frV (f : Fr) : Value := (SV.a (frC f)).real
theorem frC_len (f : Fr) : (frC f).length = 17 := by
  simp [frC, us_len, lim_len]
theorem map_r1 (l : List Value) : (l.map SV.v).map SV.r1 = l := by
  rw [List.map_map]
  exact getElem?_map_v _
theorem frC_num (f : Fr) : (((frC f).drop 1).take (8 * 1)).map SV.r1 = us (lim f.num) := by
  have e : (frC f).drop 1 = (us (lim f.num)).map SV.v ++ (us (lim f.den)).map SV.v := rfl
  have l : ((us (lim f.num)).map SV.v).length = 8 * 1 := by rw [List.length_map, us_len, lim_len]
  rw [e, ← l, List.take_left, map_r1]
theorem frC_den (f : Fr) : (((frC f).drop 9).take (8 * 1)).map SV.r1 = us (lim f.den) := by
  have e : (frC f).drop 9 = ((us (lim f.num)).map SV.v ++ (us (lim f.den)).map SV.v).drop 8 := rfl
  have l : ((us (lim f.num)).map SV.v).length = 8 := by rw [List.length_map, us_len, lim_len]
  have l2 : ((us (lim f.den)).map SV.v).length = 8 * 1 := by rw [List.length_map, us_len, lim_len]
  have e2 : ((us (lim f.num)).map SV.v ++ (us (lim f.den)).map SV.v).drop 8 = (us (lim f.den)).map SV.v := by
    have := List.drop_left (l₁ := (us (lim f.num)).map SV.v) (l₂ := (us (lim f.den)).map SV.v)
    rw [l] at this
    exact this
  rw [e, e2, List.take_of_length_le (by rw [l2]; exact Nat.le_refl _), map_r1]
theorem ro_lnum {cx : Cx} {H : Heap} {w : World} (hw : Holds cx H w) {id g ty : Nat} {f : Fr} (h : hfind H id = some (.blk g ty (frC f))) : Ro w (some (g, 1)) 8 1 (us (lim f.num)) := by
  have := ro_of_blk hw h 1 8 1 (by rw [frC_len]; omega)
  rw [frC_num] at this
  exact this
theorem ro_lden {cx : Cx} {H : Heap} {w : World} (hw : Holds cx H w) {id g ty : Nat} {f : Fr} (h : hfind H id = some (.blk g ty (frC f))) : Ro w (some (g, 9)) 8 1 (us (lim f.den)) := by
  have := ro_of_blk hw h 9 8 1 (by rw [frC_len]; omega)
  rw [frC_den] at this
  exact this
structure Big (f : Fr) : Prop where
  num : f.num < big
  den : f.den < big
theorem dg_big {n : Nat} (h : n < big) : (dg bb n).length ≤ 8 := (dg_len (by decide) 8 n).2 (by rw [← big_pow]; exact h)
theorem ro_dg {w : World} {A : Option (Nat × Nat)} {n : Nat} (hn : n < big) (h : Ro w A 8 1 (us (lim n))) : Ro w A (dg bb n).length 1 (us (dg bb n)) := by
  have h8 := dg_big hn
  have := h.take_ (m := (dg bb n).length) h8
  rw [Nat.mul_one, us_take, ← lim_dg hn, ← trim_take, lim_dg hn] at this
  exact this
theorem ro_num {cx : Cx} {H : Heap} {w : World} (hw : Holds cx H w) {id g ty : Nat} {f : Fr} (hb : Big f) (h : hfind H id = some (.blk g ty (frC f))) : Ro w (some (g, 1)) (dg bb f.num).length 1 (us (dg bb f.num)) := ro_dg hb.num (ro_lnum hw h)
theorem ro_den {cx : Cx} {H : Heap} {w : World} (hw : Holds cx H w) {id g ty : Nat} {f : Fr} (hb : Big f) (h : hfind H id = some (.blk g ty (frC f))) : Ro w (some (g, 9)) (dg bb f.den).length 1 (us (dg bb f.den)) := ro_dg hb.den (ro_lden hw h)
set_option maxRecDepth 100000 in
set_option maxHeartbeats 8000000 in
theorem parts_any (f : Fr) (w : World) (hb : Big f) :
    Calls Tryz.prog 49 #[frV f] w fun e w' => ∃ g, e = .returned (.tuple #[.slice (some ⟨g, 1, none⟩) (dg bb f.num).length 8, .slice (some ⟨g, 9, none⟩) (dg bb f.den).length 8]) ∧ w.heap.size ≤ g ∧ w'.heap[g]? = some (.cells ((frC f).map SV.r1).toArray 28 (0, 0)) ∧ Below w.heap.size w w' := by
  refine calls_sat (cx := Tryz.cx 10 [] [] [] w) (Tryz.ok ..) Tryz.func49 rfl [.a (frC f)] rfl (by show 1 ≤ 10; omega) [] (holds_nil (Nat.le_refl _)) ?_
  repeat' ((conv => whnf); first | refine walk (Tryz.ok ..) ?_ | fail)
  intro g hg
  repeat' ((conv => whnf); first | refine walk (Tryz.ok ..) ?_ | refine side2 ?_ | refine sideL2 ?_ | fail)
  refine calledQ_at (.s 1 g 0 1 (dg bb f.num).length 8) rfl (fun _ w' hh => by
    have h1 := trim_any (lim f.num) (some (g, 1)) 8 w' (by rw [lim_len]; exact ro_lnum hh (id := 1) rfl) (by rw [lim_len]; omega) (by rw [lim_len]; omega)
    rw [lim_dg hb.num, lim_len] at h1
    exact h1) ?_
  repeat' ((conv => whnf); first | refine side2 ?_ | fail)
  refine calledQ_at (.s 1 g 0 9 (dg bb f.den).length 8) rfl (fun _ w' hh => by
    have h1 := trim_any (lim f.den) (some (g, 9)) 8 w' (by rw [lim_len]; exact ro_lden hh (id := 1) rfl) (by rw [lim_len]; omega) (by rw [lim_len]; omega)
    rw [lim_dg hb.den, lim_len] at h1
    exact h1) ?_
  repeat' ((conv => whnf); first | refine walk (Tryz.ok ..) ?_ | fail)
  exact done_newblk (r := fun g => .tuple #[.slice (some ⟨g, 1, none⟩) (dg bb f.num).length 8, .slice (some ⟨g, 9, none⟩) (dg bb f.den).length 8]) rfl rfl 1 g rfl rfl
set_option maxRecDepth 100000 in
set_option maxHeartbeats 8000000 in
theorem right_any (f : Fr) (w : World) (hb : Big f) :
    Calls Tryz.prog 25 #[frV f] w fun e w' => e = .returned (.bool (rightF f)) ∧ Below w.heap.size w w' := by
  have h8n := dg_big hb.num
  have h8d := dg_big hb.den
  refine calls_sat (cx := Tryz.cx 29 [] [] [] w) (Tryz.ok ..) Tryz.func25 rfl [.a (frC f)] rfl (by show 1 ≤ 29; omega) [] (holds_nil (Nat.le_refl _)) ?_
  repeat' ((conv => whnf); first | refine walk (Tryz.ok ..) ?_ | fail)
  intro g1 hg1
  repeat' ((conv => whnf); first | refine walk (Tryz.ok ..) ?_ | refine side2 ?_ | fail)
  refine called_newblk 7 (ty := 28) (cs := frC f) (fun g => .t [.s 7 g 0 1 (dg bb f.num).length 8, .s 7 g 0 9 (dg bb f.den).length 8]) (fun w' hh => parts_any f w' hb) ?_
  intro g hg
  rcases Nat.eq_zero_or_pos f.den with hd | hd
  · have hr : rightF f = false := by unfold rightF; rw [hd]; rfl
    have hl0 : (dg bb f.den).length = 0 := by rw [hd]; rfl
    rw [hr, hl0]
    repeat' ((conv => whnf); first | refine walk (Tryz.ok ..) ?_ | refine side2 ?_ | refine sideL2 ?_ | fail)
    refine calledQ_pure (v := .bool false) (.v (.bool false)) rfl (fun h => absurd h (by simp [Grd.holds])) ?_
    repeat' ((conv => whnf); first | refine sideL2 ?_ | fail)
    refine calledQ_pure (v := .bool false) (.v (.bool false)) rfl (fun h => absurd h (by simp [Grd.holds])) ?_
    repeat' ((conv => whnf); first | refine walk (Tryz.ok ..) ?_ | refine side2 ?_ | refine xi _ (fun _ => And.intro rfl rfl) ?_ | fail)
    exact done_pure rfl rfl rfl
  have hlp : 0 < (dg bb f.den).length := by
    rcases Nat.eq_zero_or_pos (dg bb f.den).length with h9 | h9
    · rw [List.length_eq_zero_iff, dg_nil (by decide)] at h9
      omega
    · exact h9
  obtain ⟨G, hG⟩ : ∃ G, G = Nat.gcd f.num f.den := ⟨_, rfl⟩
  have hfin : (decide ((0 : Int) < ((dg bb f.den).length : Int)) && decide (G = 1) && !(f.neg && (((dg bb f.num).length : Int) == 0))) = rightF f := by
    unfold rightF
    have e1 : decide ((0 : Int) < ((dg bb f.den).length : Int)) = decide (f.den ≠ 0) := by rw [decide_eq_true (by omega), decide_eq_true (by omega)]
    have e2 : (((dg bb f.num).length : Int) == 0) = decide (f.num = 0) := by
      rw [Bool.eq_iff_iff, beq_iff_eq, decide_eq_true_eq, ← dg_nil (B := bb) (by decide), ← List.length_eq_zero_iff]
      omega
    have e3 : decide (G = 1) = decide (Nat.gcd f.num f.den = 1) := decide_eq_decide.2 (by rw [hG])
    rw [e1, e2, e3]
  repeat' ((conv => whnf); first | refine walk (Tryz.ok ..) ?_ | refine side2 ?_ | (with_reducible refine Or.inr (Cnd.mk (fun _ => ?_) (fun h => absurd (of_decide_eq_false h) (by omega)))) | fail)
  refine called_alt 16 (e := 25) (s := 1) (m := (dg bb G).length) (xs := us (dg bb G)) (p := G = f.den) (.s 7 g 0 9 (dg bb f.den).length 8) (fun w' hh => by rw [hG]; exact common_any f.num f.den (some (g, 1)) (some (g, 9)) 8 8 w' (ro_num hh hb (id := 7) rfl) (ro_den hh hb (id := 7) rfl) (by omega) (by omega) hd) ?_ ?_
  · intro hgd
    repeat' ((conv => whnf); first | (refine Cnd.mk (fun h => ?_) (fun h => ?_) <;> (first | exact cndT h (by (try dsimp only); omega) | exact cndF h (by (try dsimp only); omega) | (exfalso; simp at h; omega) | simp at h | skip)) | refine Or.inr ?_ | fail)
    refine called_at (.v (.bool (decide (G = 1)))) rfl (fun w' hh => by
      rw [hgd]
      exact one_any f.den (some (g, 9)) 8 w' (ro_den hh hb (id := 7) rfl) (by omega)) ?_
    repeat' ((conv => whnf); first | refine walk (Tryz.ok ..) ?_ | refine side2 ?_ | refine xi _ (fun _ => And.intro rfl rfl) ?_ | fail)
    exact done_pure rfl rfl (congrArg Value.bool hfin)
  · intro A1 c1
    repeat' ((conv => whnf); first | (refine Cnd.mk (fun h => ?_) (fun h => ?_) <;> (first | exact cndT h (by (try dsimp only); omega) | exact cndF h (by (try dsimp only); omega) | (exfalso; simp at h; omega) | simp at h | skip)) | refine Or.inr ?_ | fail)
    refine called_at (.v (.bool (decide (G = 1)))) rfl (fun w' hh => one_any G A1 c1 w' (ro_of_row hh (id := 16) rfl) (Nat.le_trans (len_le (by decide) (by rw [hG]; exact Nat.gcd_le_right f.num hd)) (show (dg bb f.den).length ≤ 100000 by omega))) ?_
    repeat' ((conv => whnf); first | refine walk (Tryz.ok ..) ?_ | refine side2 ?_ | refine xi _ (fun _ => And.intro rfl rfl) ?_ | fail)
    exact done_pure rfl rfl (congrArg Value.bool hfin)
end
end Go.Proofs.YtmekcdjaafegaaaGreatDoor
