/-
  The walks of the frac package: quotients of numbers.
-/
import Derived.Test.YtomhfakkebaciaaFK
namespace Go.Proofs.Ytomhfakkebaciaa
open Go Sat Go.RowKit Go.PlainAid
set_option linter.unusedSimpArgs false
set_option linter.unusedVariables false
theorem cmp_ge {x y : Nat} (h : ¬ x < y) : 0 ≤ cmpN x y := by
  unfold cmpN
  rw [if_neg h]
  split <;> omega
theorem dg_two {n : Nat} (h : (dg bb n).length ≤ 2) : n < 18446744073709551616 := by
  have := (dg_len (B := bb) (by decide) 2 n).1 h
  exact this
theorem dg_one {n : Nat} (h0 : 0 < n) (h : n < bb) : dg bb n = [n] := by
  rw [dg_pos (by decide) h0, Nat.mod_eq_of_lt h, Nat.div_eq_of_lt h, dg_zero]
theorem called_args {cx : Cx} {n : Nat} {args : List SV} {H : Heap} {K : SV → Heap → Prop} (args' : List SV) (h : args.map SV.real = args'.map SV.real) (k : Called cx n args' H K) : Called cx n args H K := by
  refine ⟨fun w hw => ?_⟩
  rw [h]
  exact k.out w hw
theorem us_cut (u : List Nat) (j k : Nat) (tail : List Value) : us u ++ tail = us (u.take j) ++ us ((u.drop j).take k) ++ (us (u.drop (j + k)) ++ tail) := by
  rw [← List.append_assoc, ← us_app, ← us_app, List.append_assoc (u.take j), ← List.drop_drop, List.take_append_drop, List.take_append_drop]
theorem us_upd (u l : List Nat) (j : Nat) (tail : List Value) : us (u.take j) ++ us l ++ (us (u.drop (j + l.length)) ++ tail) = us (upd j u l) ++ tail := by
  unfold upd
  rw [← List.append_assoc, ← us_app, ← us_app]
theorem ap_eq {K : SV → Prop} {s s' : SV} (h : s' = s) (k : K s') : K s := h ▸ k
theorem s_eq {i g b off off' n n' c c' : Nat} (h1 : off = off') (h2 : n = n') (h3 : c = c') : SV.s i g b off n c = SV.s i g b off' n' c' := by subst h1; subst h2; subst h3; rfl
theorem off_at {j m : Nat} (hm : m = j) : j = mulS m 1 := by
  rw [mulS_eq, hm, Nat.mul_one]
theorem if_at {p : Prop} [Decidable p] {j m : Nat} (h : ¬ p) (hm : m = j) : j = (if p then 0 else mulS m 1) := by
  rw [if_neg h, mulS_eq, hm, Nat.mul_one]
set_option maxRecDepth 100000 in
set_option maxHeartbeats 16000000 in
theorem divide_any (x y : Nat) (X Y : Option (Nat × Nat)) (capX capY : Nat) (w : World) (hx : Ro w X (dg bb x).length 1 (us (dg bb x))) (hy : Ro w Y (dg bb y).length 1 (us (dg bb y))) (hxl : (dg bb x).length ≤ 100000) (hyl : (dg bb y).length ≤ 100000) (hy0 : 0 < y) :
    Calls Try.prog 53 #[.slice (adr X) (dg bb x).length capX, .slice (adr Y) (dg bb y).length capY] w fun e w' => ∃ v u, e = .returned (.tuple #[v, u]) ∧ Rows2 w' w.heap.size 23 1 v u (dg bb (x / y)).length (us (dg bb (x / y))) (dg bb (x % y)).length (us (dg bb (x % y))) ∧ Below w.heap.size w w' := by
  obtain ⟨la, hla⟩ : ∃ n, n = (dg bb x).length := ⟨_, rfl⟩
  obtain ⟨n, hn⟩ : ∃ n, n = (dg bb y).length := ⟨_, rfl⟩
  rw [← hla] at hx hxl ⊢
  rw [← hn] at hy hyl ⊢
  have hbb : bb = 4294967296 := rfl
  have hb2 : (2 : Nat) ≤ bb := by decide
  have hn1 : 1 ≤ n := by
    rcases Nat.eq_zero_or_pos n with h | h
    · have := (dg_len hb2 0 y).1 (by omega)
      rw [Nat.pow_zero] at this
      omega
    · exact h
  refine calls_sat (cx := Try.cx 161 [11, 19] [] [] w) (Try.ok ..) Try.func53 rfl [.o 100 X la capX, .o 101 Y n capY] rfl (by show 2 ≤ 161; omega) [(100, .ro X la 1 (us (dg bb x))), (101, .ro Y n 1 (us (dg bb y)))] (holds_ros rfl rfl ⟨hx, hy, trivial⟩) ?_
  repeat' ((conv => whnf); first | refine walk (Try.ok ..) ?_ | (refine Cnd.mk (fun h => ?_) (fun h => ?_) <;> (first | exact cndT h (by (try dsimp only); omega) | exact cndF h (by (try dsimp only); omega) | (exfalso; simp at h; omega) | simp at h | skip)) | refine kp ?_ ?_ | refine tw ?_ ?_ | exact trivial | refine side2 ?_ | refine sideL2 ?_ | refine Or.inr ?_ | refine sat_drawH (Try.ok ..) (by kernel_rfl) ?_ | refine xi _ (And.intro rfl rfl) ?_ | refine xi _ (fun _ => And.intro rfl rfl) ?_ | refine xi _ rfl ?_)
  refine called_at (.v (.int .i64 (cmpN x y))) rfl (fun w' hh => by
    have h1 := cmp_any x y X Y capX capY w' (by rw [← hla]; exact ro_of_ro hh (id := 100) rfl) (by rw [← hn]; exact ro_of_ro hh (id := 101) rfl) (by omega) (by omega)
    rw [← hla, ← hn] at h1
    exact h1) ?_
  by_cases hlt : x < y
  · rw [cmp_lt hlt, Nat.mod_eq_of_lt hlt, Nat.div_eq_of_lt hlt, ← hla]
    repeat' ((conv => whnf); first | refine walk (Try.ok ..) ?_ | (refine Cnd.mk (fun h => ?_) (fun h => ?_) <;> (first | exact cndT h (by (try dsimp only); omega) | exact cndF h (by (try dsimp only); omega) | (exfalso; simp at h; omega) | simp at h | skip)) | refine kp ?_ ?_ | refine tw ?_ ?_ | exact trivial | refine side2 ?_ | refine sideL2 ?_ | refine Or.inr ?_ | refine sat_drawH (Try.ok ..) (by kernel_rfl) ?_ | refine xi _ (And.intro rfl rfl) ?_ | refine xi _ (fun _ => And.intro rfl rfl) ?_ | refine xi _ rfl ?_)
    refine called_row 24 (xs := us (dg bb x)) (m := la) (fun v => v) (fun A cap => .o 24 A la cap) (fun A cap => rfl) (fun w' hh => by
      have h1 := clone_any (dg bb x) X capX w' (by rw [← hla]; exact ro_of_ro hh (id := 100) rfl) (by omega)
      rw [← hla] at h1
      exact h1) ?_
    intro A1 cap1
    repeat' ((conv => whnf); first | refine walk (Try.ok ..) ?_ | (refine Cnd.mk (fun h => ?_) (fun h => ?_) <;> (first | exact cndT h (by (try dsimp only); omega) | exact cndF h (by (try dsimp only); omega) | (exfalso; simp at h; omega) | simp at h | skip)) | refine kp ?_ ?_ | refine tw ?_ ?_ | exact trivial | refine side2 ?_ | refine sideL2 ?_ | refine Or.inr ?_ | refine sat_drawH (Try.ok ..) (by kernel_rfl) ?_ | refine xi _ (And.intro rfl rfl) ?_ | refine xi _ (fun _ => And.intro rfl rfl) ?_ | refine xi _ rfl ?_)
    exact done_nil2 (mk := fun v u => .tuple #[v, u]) rfl rfl 24 A1 cap1 rfl (Nat.le_refl _) (by rw [Nat.mul_one, List.take_of_length_le (by rw [us_len]; omega)]) rfl
  have hcg := cmp_ge hlt
  have hnla : n ≤ la := by rw [hn, hla]; exact len_le hb2 (by omega)
  have lowX : ∀ {cx : Cx} {H : Heap} {w' : World}, la ≤ 2 → Holds cx H w' → hfind H 100 = some (.ro X la 1 (us (dg bb x))) → Calls Try.prog 55 #[.slice (adr X) la capX] w' fun e w2 => e = .returned (.int .u64 x) ∧ Below w'.heap.size w' w2 := fun h2 hh hf => by
    have h1 := low_any x X capX _ (by rw [← hla]; exact ro_of_ro hh hf) (by omega)
    rw [← hla, Nat.mod_eq_of_lt (dg_two (by omega))] at h1
    exact h1
  have lowY : ∀ {cx : Cx} {H : Heap} {w' : World}, n ≤ 2 → Holds cx H w' → hfind H 101 = some (.ro Y n 1 (us (dg bb y))) → Calls Try.prog 55 #[.slice (adr Y) n capY] w' fun e w2 => e = .returned (.int .u64 y) ∧ Below w'.heap.size w' w2 := fun h2 hh hf => by
    have h1 := low_any y Y capY _ (by rw [← hn]; exact ro_of_ro hh hf) (by omega)
    rw [← hn, Nat.mod_eq_of_lt (dg_two (by omega))] at h1
    exact h1
  obtain ⟨bt, ebt⟩ : ∃ v, v = y / bb ^ (n - 1) := ⟨_, rfl⟩
  have htop : (dg bb y)[n - 1]? = some bt := by
    have h1 := dg_get hb2 (n - 1) y (by omega)
    have h2 : y / bb ^ (n - 1) < bb := by
      rw [Nat.div_lt_iff_lt_mul (Nat.pow_pos (by decide)), ← Nat.pow_succ', show (n - 1).succ = n by omega, hn]
      exact dg_upper hb2 y
    rw [Nat.mod_eq_of_lt h2] at h1
    rw [h1, ebt]
  have hbt : bt < bb := dg_lt hb2 y bt (List.mem_of_getElem? htop)
  rw [hbb] at hbt
  repeat' ((conv => whnf); first | refine walk (Try.ok ..) ?_ | (refine Cnd.mk (fun h => ?_) (fun h => ?_) <;> (first | exact cndT h (by (try dsimp only); omega) | exact cndF h (by (try dsimp only); omega) | (exfalso; simp at h; omega) | simp at h | skip)) | refine kp ?_ ?_ | refine tw ?_ ?_ | exact trivial | refine side2 ?_ | refine sideL2 ?_ | refine Or.inr ?_ | refine xi _ (And.intro rfl rfl) ?_ | refine xi _ (fun _ => And.intro rfl rfl) ?_ | refine xi _ rfl ?_ | refine xi _ (fun _ => (u_at htop (by omega))) ?_ | refine xi _ (u_at htop (by omega)) ?_)
  · have hx64 := dg_two (n := x) (by omega)
    have hy64 := dg_two (n := y) (by omega)
    refine called_at (.v (.int .u64 x)) rfl (fun w' hh => lowX (by omega) hh rfl) ?_
    repeat' ((conv => whnf); first | refine walk (Try.ok ..) ?_ | (refine Cnd.mk (fun h => ?_) (fun h => ?_) <;> (first | exact cndT h (by (try dsimp only); omega) | exact cndF h (by (try dsimp only); omega) | (exfalso; simp at h; omega) | simp at h | skip)) | refine kp ?_ ?_ | refine tw ?_ ?_ | exact trivial | refine side2 ?_ | refine sideL2 ?_ | refine Or.inr ?_ | refine sat_drawH (Try.ok ..) (by kernel_rfl) ?_ | refine xi _ (And.intro rfl rfl) ?_ | refine xi _ (fun _ => And.intro rfl rfl) ?_ | refine xi _ rfl ?_)
    refine called_at (.v (.int .u64 y)) rfl (fun w' hh => lowY (by omega) hh rfl) ?_
    repeat' ((conv => whnf); first | refine walk (Try.ok ..) ?_ | (refine Cnd.mk (fun h => ?_) (fun h => ?_) <;> (first | exact cndT h (by (try dsimp only); omega) | exact cndF h (by (try dsimp only); omega) | (exfalso; simp at h; omega) | simp at h | skip)) | refine kp ?_ ?_ | refine tw ?_ ?_ | exact trivial | refine side2 ?_ | refine sideL2 ?_ | refine Or.inr ?_ | refine sat_drawH (Try.ok ..) (by kernel_rfl) ?_ | refine xi _ (And.intro rfl rfl) ?_ | refine xi _ (fun _ => And.intro rfl rfl) ?_ | refine xi _ rfl ?_)
    refine called_row 34 (xs := us (dg bb (x / y))) (m := (dg bb (x / y)).length) (fun v => v) (fun A cap => .o 34 A (dg bb (x / y)).length cap) (fun A cap => rfl) (fun w' hh => of_any (x / y) w' (Nat.lt_of_le_of_lt (Nat.div_le_self _ _) hx64)) ?_
    intro A1 cap1
    repeat' ((conv => whnf); first | refine walk (Try.ok ..) ?_ | (refine Cnd.mk (fun h => ?_) (fun h => ?_) <;> (first | exact cndT h (by (try dsimp only); omega) | exact cndF h (by (try dsimp only); omega) | (exfalso; simp at h; omega) | simp at h | skip)) | refine kp ?_ ?_ | refine tw ?_ ?_ | exact trivial | refine side2 ?_ | refine sideL2 ?_ | refine Or.inr ?_ | refine sat_drawH (Try.ok ..) (by kernel_rfl) ?_ | refine xi _ (And.intro rfl rfl) ?_ | refine xi _ (fun _ => And.intro rfl rfl) ?_ | refine xi _ rfl ?_)
    refine called_at (.v (.int .u64 x)) rfl (fun w' hh => lowX (by omega) hh rfl) ?_
    repeat' ((conv => whnf); first | refine walk (Try.ok ..) ?_ | (refine Cnd.mk (fun h => ?_) (fun h => ?_) <;> (first | exact cndT h (by (try dsimp only); omega) | exact cndF h (by (try dsimp only); omega) | (exfalso; simp at h; omega) | simp at h | skip)) | refine kp ?_ ?_ | refine tw ?_ ?_ | exact trivial | refine side2 ?_ | refine sideL2 ?_ | refine Or.inr ?_ | refine sat_drawH (Try.ok ..) (by kernel_rfl) ?_ | refine xi _ (And.intro rfl rfl) ?_ | refine xi _ (fun _ => And.intro rfl rfl) ?_ | refine xi _ rfl ?_)
    refine called_at (.v (.int .u64 y)) rfl (fun w' hh => lowY (by omega) hh rfl) ?_
    repeat' ((conv => whnf); first | refine walk (Try.ok ..) ?_ | (refine Cnd.mk (fun h => ?_) (fun h => ?_) <;> (first | exact cndT h (by (try dsimp only); omega) | exact cndF h (by (try dsimp only); omega) | (exfalso; simp at h; omega) | simp at h | skip)) | refine kp ?_ ?_ | refine tw ?_ ?_ | exact trivial | refine side2 ?_ | refine sideL2 ?_ | refine Or.inr ?_ | refine sat_drawH (Try.ok ..) (by kernel_rfl) ?_ | refine xi _ (And.intro rfl rfl) ?_ | refine xi _ (fun _ => And.intro rfl rfl) ?_ | refine xi _ rfl ?_)
    refine called_row 40 (xs := us (dg bb (x % y))) (m := (dg bb (x % y)).length) (fun v => v) (fun A cap => .o 40 A (dg bb (x % y)).length cap) (fun A cap => rfl) (fun w' hh => of_any (x % y) w' (Nat.lt_of_le_of_lt (Nat.mod_le _ _) hx64)) ?_
    intro A2 cap2
    repeat' ((conv => whnf); first | refine walk (Try.ok ..) ?_ | (refine Cnd.mk (fun h => ?_) (fun h => ?_) <;> (first | exact cndT h (by (try dsimp only); omega) | exact cndF h (by (try dsimp only); omega) | (exfalso; simp at h; omega) | simp at h | skip)) | refine kp ?_ ?_ | refine tw ?_ ?_ | exact trivial | refine side2 ?_ | refine sideL2 ?_ | refine Or.inr ?_ | refine sat_drawH (Try.ok ..) (by kernel_rfl) ?_ | refine xi _ (And.intro rfl rfl) ?_ | refine xi _ (fun _ => And.intro rfl rfl) ?_ | refine xi _ rfl ?_)
    exact done_two (mk := fun v u => .tuple #[v, u]) rfl rfl 34 40 (by omega) A1 cap1 A2 cap2 rfl rfl (Nat.le_refl _) (Nat.le_refl _) (by rw [Nat.mul_one, List.take_of_length_le (by rw [us_len]; omega)]) (by rw [Nat.mul_one, List.take_of_length_le (by rw [us_len]; omega)]) rfl
  · have hn1 : n = 1 := by omega
    have hyb : y < bb := by
      have := dg_upper hb2 y
      rw [← hn, hn1, Nat.pow_one] at this
      exact this
    have hdy := dg_one hy0 hyb
    have hlt2 := Nat.mod_lt x hy0
    refine called_row 46 (xs := us (dg bb x)) (m := la) (fun v => v) (fun A cap => .o 46 A la cap) (fun A cap => rfl) (fun w' hh => by
      have h1 := clone_any (dg bb x) X capX w' (by rw [← hla]; exact ro_of_ro hh (id := 100) rfl) (by omega)
      rw [← hla] at h1
      exact h1) ?_
    intro A1 cap1
    repeat' ((conv => whnf); first | refine walk (Try.ok ..) ?_ | (refine Cnd.mk (fun h => ?_) (fun h => ?_) <;> (first | exact cndT h (by (try dsimp only); omega) | exact cndF h (by (try dsimp only); omega) | (exfalso; simp at h; omega) | simp at h | skip)) | refine kp ?_ ?_ | refine tw ?_ ?_ | exact trivial | refine side2 ?_ | refine sideL2 ?_ | refine Or.inr ?_ | refine sat_drawH (Try.ok ..) (by kernel_rfl) ?_ | refine xi _ (And.intro rfl rfl) ?_ | refine xi _ (fun _ => And.intro rfl rfl) ?_ | refine xi _ rfl ?_ | refine xi _ (fun _ => (u_at (l := dg bb y) (k := 0) (a := y) (by rw [hdy]; rfl) rfl)) ?_ | refine xi _ (u_at (l := dg bb y) (k := 0) (a := y) (by rw [hdy]; rfl) rfl) ?_)
    have hdl : (dgs la (x / y)).length = la := dgs_len _ _
    have hnvx : nv bb (dg bb x) = x := nv_dg hb2 x
    refine called_modA 46 (us (dgs la (x / y))) (.v (.int .u32 ((x % y : Nat) : Int))) rfl (by omega) (by rw [us_len, us_len, hdl, hla]) (fun w' tail g hA hh hg => by
      subst hA
      have h1 := small_any (dg bb x) [] tail g 23 cap1 y w' (by rw [List.nil_append]; exact hg) (by omega) (dg_lt hb2 x) hy0 hyb
      rw [hnvx, ← hla, List.nil_append] at h1
      exact h1) ?_
    have hnq : nv bb (dgs la (x / y)) = x / y := by
      rw [nv_dgs]
      refine Nat.mod_eq_of_lt (Nat.lt_of_le_of_lt (Nat.div_le_self _ _) ?_)
      rw [hla]
      exact dg_upper hb2 x
    have htr := trim_nil (B := bb) hb2 (dgs_lt la (x / y))
    rw [hnq] at htr
    rw [hbb] at hyb
    repeat' ((conv => whnf); first | refine walk (Try.ok ..) ?_ | (refine Cnd.mk (fun h => ?_) (fun h => ?_) <;> (first | exact cndT h (by (try dsimp only); omega) | exact cndF h (by (try dsimp only); omega) | (exfalso; simp at h; omega) | simp at h | skip)) | refine kp ?_ ?_ | refine tw ?_ ?_ | exact trivial | refine side2 ?_ | refine sideL2 ?_ | refine Or.inr ?_ | refine sat_drawH (Try.ok ..) (by kernel_rfl) ?_ | refine xi _ (And.intro rfl rfl) ?_ | refine xi _ (fun _ => And.intro rfl rfl) ?_ | refine xi _ rfl ?_)
    refine called_trim 46 (dg bb (x / y)).length rfl (by rw [htr]; have h9 := trim_len (dgs la (x / y)); rw [hdl] at h9; exact h9) (fun w' hh => by
      have h1 := trim_any (dgs la (x / y)) A1 cap1 w' (by rw [hdl]; exact ro_of_row hh (id := 46) rfl) (by rw [hdl]; omega) (by rw [hdl]; exact row_cap hh (id := 46) rfl)
      rw [← htr, hdl] at h1
      exact h1) ?_
    repeat' ((conv => whnf); first | refine walk (Try.ok ..) ?_ | (refine Cnd.mk (fun h => ?_) (fun h => ?_) <;> (first | exact cndT h (by (try dsimp only); omega) | exact cndF h (by (try dsimp only); omega) | (exfalso; simp at h; omega) | simp at h | skip)) | refine kp ?_ ?_ | refine tw ?_ ?_ | exact trivial | refine side2 ?_ | refine sideL2 ?_ | refine Or.inr ?_ | refine sat_drawH (Try.ok ..) (by kernel_rfl) ?_ | refine xi _ (And.intro rfl rfl) ?_ | refine xi _ (fun _ => And.intro rfl rfl) ?_ | refine xi _ rfl ?_)
    refine called_row 56 (xs := us (dg bb (x % y))) (m := (dg bb (x % y)).length) (fun v => v) (fun A cap => .o 56 A (dg bb (x % y)).length cap) (fun A cap => rfl) (fun w' hh => of_any (x % y) w' (by omega)) ?_
    intro A2 cap2
    repeat' ((conv => whnf); first | refine walk (Try.ok ..) ?_ | (refine Cnd.mk (fun h => ?_) (fun h => ?_) <;> (first | exact cndT h (by (try dsimp only); omega) | exact cndF h (by (try dsimp only); omega) | (exfalso; simp at h; omega) | simp at h | skip)) | refine kp ?_ ?_ | refine tw ?_ ?_ | exact trivial | refine side2 ?_ | refine sideL2 ?_ | refine Or.inr ?_ | refine sat_drawH (Try.ok ..) (by kernel_rfl) ?_ | refine xi _ (And.intro rfl rfl) ?_ | refine xi _ (fun _ => And.intro rfl rfl) ?_ | refine xi _ rfl ?_)
    exact done_two (mk := fun v u => .tuple #[v, u]) rfl rfl 46 56 (by omega) A1 cap1 A2 cap2 rfl rfl (Nat.le_refl _) (Nat.le_refl _) (by
      rw [List.take_take, Nat.min_self, Nat.mul_one, us_take, htr, ← trim_take]) (by rw [Nat.mul_one, List.take_of_length_le (by rw [us_len]; omega)]) rfl
  obtain ⟨by', eby⟩ : ∃ v, v = bb / (bt + 1) := ⟨_, rfl⟩
  have hby : IntKind.u32.wrap (4294967296 / ((bt : Int) + 1)) = (by' : Int) := by
    rw [show ((4294967296 : Int) / ((bt : Int) + 1)) = ((bb / (bt + 1) : Nat) : Int) from rfl, ← eby, wrap_u32]
    have h1 : by' ≤ bb / 2 := by
      rw [eby]
      refine Nat.div_le_div_left ?_ (by omega)
      have h2 : 0 < bt := by
        rw [ebt]
        exact Nat.div_pos (dg_lower hb2 (by omega)) (Nat.pow_pos (by decide))
      omega
    rw [hbb] at h1
    omega
  obtain ⟨hV, hb0, hb1, hxb, hD⟩ := div_begin (x := x) (y := y) (la := la) (n := n) (by' := by') hla.symm hn.symm (by omega) hnla (by rw [eby, ebt])
  have hdby := dg_one hb0 hb1
  have hVl := hV.len
  obtain ⟨V, eV⟩ : ∃ V, V = y * by' := ⟨_, rfl⟩
  rw [← eV] at hV hD hVl
  have en : ((la : Int) + 1).toNat = la + 1 := by omega
  refine sat_join0 (α := Nat × Option (Nat × Nat) × Nat) (fun s => ([(0, .yes, .o 100 X la capX), (8, .yes, .v (.int .i64 n)), (9, .yes, .v (.int .u32 by')), (10, .yes, .o 71 (some (s.1, 0)) (la + 1) (la + 1)), (11, .yes, .o 75 s.2.1 n s.2.2)], [(71, .row (some (s.1, 0)) 23 1 (la + 1) (la + 1) (us (List.replicate (la + 1) 0))), (75, .row s.2.1 23 1 n s.2.2 (us (dg bb V))), (100, .ro X la 1 (us (dg bb x)))])) (fun _ => True) (fun _ => rfl) ?_ ?_
  · repeat' ((conv => whnf); first | refine walk (Try.ok ..) ?_ | (refine Cnd.mk (fun h => ?_) (fun h => ?_) <;> (first | exact cndT h (by (try dsimp only); omega) | exact cndF h (by (try dsimp only); omega) | (exfalso; simp at h; omega) | simp at h | skip)) | refine kp ?_ ?_ | refine tw ?_ ?_ | exact trivial | refine side2 ?_ | refine sideL2 ?_ | refine Or.inr ?_ | refine sat_drawH (Try.ok ..) (by kernel_rfl) ?_ | refine xi _ (And.intro rfl rfl) ?_ | refine xi _ (fun _ => And.intro rfl rfl) ?_ | refine xi _ rfl ?_)
    all_goals (conv => whnf)
    · intro g hg
      rw [en]
      repeat' ((conv => whnf); first | refine walk (Try.ok ..) ?_ | (refine Cnd.mk (fun h => ?_) (fun h => ?_) <;> (first | exact cndT h (by (try dsimp only); omega) | exact cndF h (by (try dsimp only); omega) | (exfalso; simp at h; omega) | simp at h | skip)) | refine kp ?_ ?_ | refine tw ?_ ?_ | exact trivial | refine side2 ?_ | refine sideL2 ?_ | refine Or.inr ?_ | refine sat_drawH (Try.ok ..) (by kernel_rfl) ?_ | refine xi _ (And.intro rfl rfl) ?_ | refine xi _ (fun _ => And.intro rfl rfl) ?_ | refine xi _ rfl ?_)
      all_goals (conv => whnf)
      intro g2 hg2
      repeat' ((conv => whnf); first | refine walk (Try.ok ..) ?_ | (refine Cnd.mk (fun h => ?_) (fun h => ?_) <;> (first | exact cndT h (by (try dsimp only); omega) | exact cndF h (by (try dsimp only); omega) | (exfalso; simp at h; omega) | simp at h | skip)) | refine kp ?_ ?_ | refine tw ?_ ?_ | exact trivial | refine side2 ?_ | refine sideL2 ?_ | refine Or.inr ?_ | refine sat_drawH (Try.ok ..) (by kernel_rfl) ?_ | refine xi _ (And.intro rfl rfl) ?_ | refine xi _ (fun _ => And.intro rfl rfl) ?_ | refine xi _ rfl ?_)
      refine called_row 75 (xs := us (dg bb V)) (m := n) (fun v => v) (fun A cap => .o 75 A n cap) (fun A cap => rfl) (fun w' hh => by
        have h0 : Ro w' (some (g2, 0)) 1 1 [Value.int .u32 (IntKind.u32.wrap (4294967296 / ((bt : Int) + 1)))] := ro_of_blk hh (id := 74) rfl 0 1 1 (by show 1 ≤ 1; omega)
        rw [hby] at h0
        have h1 := times_any y by' Y (some (g2, 0)) capY 1 w' (by rw [← hn]; exact ro_of_ro hh (id := 101) rfl) (by rw [hdby]; exact h0) (by omega) (by rw [hdby]; show 1 ≤ _; omega)
        rw [← hn, hdby, ← eV, hVl] at h1
        exact h1) ?_
      intro A1 cap1
      repeat' ((conv => whnf); first | refine walk (Try.ok ..) ?_ | (refine Cnd.mk (fun h => ?_) (fun h => ?_) <;> (first | exact cndT h (by (try dsimp only); omega) | exact cndF h (by (try dsimp only); omega) | (exfalso; simp at h; omega) | simp at h | skip)) | refine kp ?_ ?_ | refine tw ?_ ?_ | exact trivial | refine side2 ?_ | refine sideL2 ?_ | refine Or.inr ?_ | refine sat_drawH (Try.ok ..) (by kernel_rfl) ?_ | refine xi _ (And.intro rfl rfl) ?_ | refine xi _ (fun _ => And.intro rfl rfl) ?_ | refine xi _ rfl ?_)
      refine ⟨(g, A1, cap1), trivial, ?_, ?_, rfl⟩
      · dsimp only
        rw [← hby]
        ((repeat' (first | exact trivial | exact rfl | refine And.intro ?_ ?_)) <;> (try (conv => whnf)) <;> (try simp only [SV.real, SV.r2, SV.r1]))
      · dsimp only
        rw [← made_us]
        ((repeat' (first | exact trivial | exact rfl | refine And.intro ?_ ?_)) <;> (try (conv => whnf)) <;> (try simp only [SV.real, SV.r2, SV.r1]))
    · intro g2 hg2
      repeat' ((conv => whnf); first | refine walk (Try.ok ..) ?_ | (refine Cnd.mk (fun h => ?_) (fun h => ?_) <;> (first | exact cndT h (by (try dsimp only); omega) | exact cndF h (by (try dsimp only); omega) | (exfalso; simp at h; omega) | simp at h | skip)) | refine kp ?_ ?_ | refine tw ?_ ?_ | exact trivial | refine side2 ?_ | refine sideL2 ?_ | refine Or.inr ?_ | refine sat_drawH (Try.ok ..) (by kernel_rfl) ?_ | refine xi _ (And.intro rfl rfl) ?_ | refine xi _ (fun _ => And.intro rfl rfl) ?_ | refine xi _ rfl ?_)
      all_goals (conv => whnf)
      · intro g hg
        rw [en]
        repeat' ((conv => whnf); first | refine walk (Try.ok ..) ?_ | (refine Cnd.mk (fun h => ?_) (fun h => ?_) <;> (first | exact cndT h (by (try dsimp only); omega) | exact cndF h (by (try dsimp only); omega) | (exfalso; simp at h; omega) | simp at h | skip)) | refine kp ?_ ?_ | refine tw ?_ ?_ | exact trivial | refine side2 ?_ | refine sideL2 ?_ | refine Or.inr ?_ | refine sat_drawH (Try.ok ..) (by kernel_rfl) ?_ | refine xi _ (And.intro rfl rfl) ?_ | refine xi _ (fun _ => And.intro rfl rfl) ?_ | refine xi _ rfl ?_)
        refine called_row 75 (xs := us (dg bb V)) (m := n) (fun v => v) (fun A cap => .o 75 A n cap) (fun A cap => rfl) (fun w' hh => by
          have h0 : Ro w' (some (g2, 0)) 1 1 [Value.int .u32 (IntKind.u32.wrap (4294967296 / ((bt : Int) + 1)))] := ro_of_blk hh (id := 74) rfl 0 1 1 (by show 1 ≤ 1; omega)
          rw [hby] at h0
          have h1 := times_any y by' Y (some (g2, 0)) capY 1 w' (by rw [← hn]; exact ro_of_ro hh (id := 101) rfl) (by rw [hdby]; exact h0) (by omega) (by rw [hdby]; show 1 ≤ _; omega)
          rw [← hn, hdby, ← eV, hVl] at h1
          exact h1) ?_
        intro A1 cap1
        repeat' ((conv => whnf); first | refine walk (Try.ok ..) ?_ | (refine Cnd.mk (fun h => ?_) (fun h => ?_) <;> (first | exact cndT h (by (try dsimp only); omega) | exact cndF h (by (try dsimp only); omega) | (exfalso; simp at h; omega) | simp at h | skip)) | refine kp ?_ ?_ | refine tw ?_ ?_ | exact trivial | refine side2 ?_ | refine sideL2 ?_ | refine Or.inr ?_ | refine sat_drawH (Try.ok ..) (by kernel_rfl) ?_ | refine xi _ (And.intro rfl rfl) ?_ | refine xi _ (fun _ => And.intro rfl rfl) ?_ | refine xi _ rfl ?_)
        refine ⟨(g, A1, cap1), trivial, ?_, ?_, rfl⟩
        · dsimp only
          rw [← hby]
          ((repeat' (first | exact trivial | exact rfl | refine And.intro ?_ ?_)) <;> (try (conv => whnf)) <;> (try simp only [SV.real, SV.r2, SV.r1]))
        · dsimp only
          rw [← made_us]
          ((repeat' (first | exact trivial | exact rfl | refine And.intro ?_ ?_)) <;> (try (conv => whnf)) <;> (try simp only [SV.real, SV.r2, SV.r1]))
      · refine called_row 75 (xs := us (dg bb V)) (m := n) (fun v => v) (fun A cap => .o 75 A n cap) (fun A cap => rfl) (fun w' hh => by
          have h0 : Ro w' (some (g2, 0)) 1 1 [Value.int .u32 (IntKind.u32.wrap (4294967296 / ((bt : Int) + 1)))] := ro_of_blk hh (id := 74) rfl 0 1 1 (by show 1 ≤ 1; omega)
          rw [hby] at h0
          have h1 := times_any y by' Y (some (g2, 0)) capY 1 w' (by rw [← hn]; exact ro_of_ro hh (id := 101) rfl) (by rw [hdby]; exact h0) (by omega) (by rw [hdby]; show 1 ≤ _; omega)
          rw [← hn, hdby, ← eV, hVl] at h1
          exact h1) ?_
        intro A1 cap1
        repeat' ((conv => whnf); first | refine walk (Try.ok ..) ?_ | (refine Cnd.mk (fun h => ?_) (fun h => ?_) <;> (first | exact cndT h (by (try dsimp only); omega) | exact cndF h (by (try dsimp only); omega) | (exfalso; simp at h; omega) | simp at h | skip)) | refine kp ?_ ?_ | refine tw ?_ ?_ | exact trivial | refine side2 ?_ | refine sideL2 ?_ | refine Or.inr ?_ | refine sat_drawH (Try.ok ..) (by kernel_rfl) ?_ | refine xi _ (And.intro rfl rfl) ?_ | refine xi _ (fun _ => And.intro rfl rfl) ?_ | refine xi _ rfl ?_)
        all_goals (conv => whnf)
        intro g hg
        rw [en]
        repeat' ((conv => whnf); first | refine walk (Try.ok ..) ?_ | (refine Cnd.mk (fun h => ?_) (fun h => ?_) <;> (first | exact cndT h (by (try dsimp only); omega) | exact cndF h (by (try dsimp only); omega) | (exfalso; simp at h; omega) | simp at h | skip)) | refine kp ?_ ?_ | refine tw ?_ ?_ | exact trivial | refine side2 ?_ | refine sideL2 ?_ | refine Or.inr ?_ | refine sat_drawH (Try.ok ..) (by kernel_rfl) ?_ | refine xi _ (And.intro rfl rfl) ?_ | refine xi _ (fun _ => And.intro rfl rfl) ?_ | refine xi _ rfl ?_)
        refine ⟨(g, A1, cap1), trivial, ?_, ?_, rfl⟩
        · dsimp only
          rw [← hby]
          ((repeat' (first | exact trivial | exact rfl | refine And.intro ?_ ?_)) <;> (try (conv => whnf)) <;> (try simp only [SV.real, SV.r2, SV.r1]))
        · dsimp only
          rw [← made_us]
          ((repeat' (first | exact trivial | exact rfl | refine And.intro ?_ ?_)) <;> (try (conv => whnf)) <;> (try simp only [SV.real, SV.r2, SV.r1]))
  rintro ⟨gu, A1, cap1⟩ _
  repeat' ((conv => whnf); first | refine walk (Try.ok ..) ?_ | (refine Cnd.mk (fun h => ?_) (fun h => ?_) <;> (first | exact cndT h (by (try dsimp only); omega) | exact cndF h (by (try dsimp only); omega) | (exfalso; simp at h; omega) | simp at h | skip)) | refine kp ?_ ?_ | refine tw ?_ ?_ | exact trivial | refine side2 ?_ | refine sideL2 ?_ | refine Or.inr ?_ | refine sat_drawH (Try.ok ..) (by kernel_rfl) ?_ | refine xi _ (And.intro rfl rfl) ?_ | refine xi _ (fun _ => And.intro rfl rfl) ?_ | refine xi _ rfl ?_)
  intro g2 hg2
  repeat' ((conv => whnf); first | refine walk (Try.ok ..) ?_ | (refine Cnd.mk (fun h => ?_) (fun h => ?_) <;> (first | exact cndT h (by (try dsimp only); omega) | exact cndF h (by (try dsimp only); omega) | (exfalso; simp at h; omega) | simp at h | skip)) | refine kp ?_ ?_ | refine tw ?_ ?_ | exact trivial | refine side2 ?_ | refine sideL2 ?_ | refine Or.inr ?_ | refine sat_drawH (Try.ok ..) (by kernel_rfl) ?_ | refine xi _ (And.intro rfl rfl) ?_ | refine xi _ (fun _ => And.intro rfl rfl) ?_ | refine xi _ rfl ?_)
  obtain ⟨lz, elz⟩ : ∃ v, v = (dg bb (x * by')).length := ⟨_, rfl⟩
  refine called_row 80 (xs := us (dg bb (x * by'))) (m := lz) (fun v => v) (fun A cap => .o 80 A lz cap) (fun A cap => rfl) (fun w' hh => by
    have h0 : Ro w' (some (g2, 0)) 1 1 [Value.int .u32 (by' : Int)] := ro_of_blk hh (id := 79) rfl 0 1 1 (by show 1 ≤ 1; omega)
    have h1 := times_any x by' X (some (g2, 0)) capX 1 w' (by rw [← hla]; exact ro_of_ro hh (id := 100) rfl) (by rw [hdby]; exact h0) (by omega) (by rw [hdby]; show 1 ≤ _; omega)
    rw [← hla, hdby, ← elz] at h1
    exact h1) ?_
  intro A2 cap2
  repeat' ((conv => whnf); first | refine walk (Try.ok ..) ?_ | (refine Cnd.mk (fun h => ?_) (fun h => ?_) <;> (first | exact cndT h (by (try dsimp only); omega) | exact cndF h (by (try dsimp only); omega) | (exfalso; simp at h; omega) | simp at h | skip)) | refine kp ?_ ?_ | refine tw ?_ ?_ | exact trivial | refine side2 ?_ | refine sideL2 ?_ | refine Or.inr ?_ | refine sat_drawH (Try.ok ..) (by kernel_rfl) ?_ | refine xi _ (And.intro rfl rfl) ?_ | refine xi _ (fun _ => And.intro rfl rfl) ?_ | refine xi _ rfl ?_)
  have hle2 : lz * 1 ≤ (us (dg bb (x * by'))).length := by rw [us_len]; omega
  refine other_copy_row (Try.ok 161 [11, 19] [] [] w.heap.size [] w).T (i := _) (j := _) (elem := 23) rfl rfl rfl rfl 71 (n := la + 1) rfl rfl (m := lz) (news := (us (dg bb (x * by'))).take (lz * 1)) ⟨rfl, hle2, rfl, rfl⟩ (by omega) (by omega) (by rw [us_take]; exact us_all _) ?_
  have e71 : (us (dg bb (x * by'))).take (lz * 1) ++ (us (List.replicate (la + 1) 0)).drop lz = us (dg bb (x * by') ++ List.replicate (la + 1 - lz) 0) := by
    rw [Nat.mul_one, List.take_of_length_le (by rw [us_len]; omega), us_drop, us_app]
    simp
  rw [e71]
  rw [← elz] at hD
  obtain ⟨u0, eu0⟩ : ∃ u, u = dg bb (x * by') ++ List.replicate (la + 1 - lz) 0 := ⟨_, rfl⟩
  rw [← eu0] at hD ⊢
  repeat' ((conv => whnf); first | refine walk (Try.ok ..) ?_ | (refine Cnd.mk (fun h => ?_) (fun h => ?_) <;> (first | exact cndT h (by (try dsimp only); omega) | exact cndF h (by (try dsimp only); omega) | (exfalso; simp at h; omega) | simp at h | skip)) | refine kp ?_ ?_ | refine tw ?_ ?_ | exact trivial | refine side2 ?_ | refine sideL2 ?_ | refine Or.inr ?_ | refine sat_drawH (Try.ok ..) (by kernel_rfl) ?_ | refine xi _ (And.intro rfl rfl) ?_ | refine xi _ (fun _ => And.intro rfl rfl) ?_ | refine xi _ rfl ?_)
  intro gq hgq
  have en3 : ((la : Int) - (n : Int) + 1).toNat = la - n + 1 := by omega
  rw [en3]
  repeat' ((conv => whnf); first | refine walk (Try.ok ..) ?_ | (refine Cnd.mk (fun h => ?_) (fun h => ?_) <;> (first | exact cndT h (by (try dsimp only); omega) | exact cndF h (by (try dsimp only); omega) | (exfalso; simp at h; omega) | simp at h | skip)) | refine kp ?_ ?_ | refine tw ?_ ?_ | exact trivial | refine side2 ?_ | refine sideL2 ?_ | refine Or.inr ?_ | refine sat_drawH (Try.ok ..) (by kernel_rfl) ?_ | refine xi _ (And.intro rfl rfl) ?_ | refine xi _ (fun _ => And.intro rfl rfl) ?_ | refine xi _ rfl ?_)
  refine sat_loop (Try.ok ..) (α := Nat × List Nat × List Nat) (fun s => ([(8, .yes, .v (.int .i64 n)), (9, .yes, .v (.int .u32 by')), (10, .yes, .o 71 (some (gu, 0)) (la + 1) (la + 1)), (11, .yes, .o 75 A1 n cap1), (12, .yes, .o 87 (some (gq, 0)) (la - n + 1) (la - n + 1)), (13, .yes, .v (.int .i64 ((s.1 : Int) - 1)))],
      [(71, .row (some (gu, 0)) 23 1 (la + 1) (la + 1) (us s.2.1)), (75, .row A1 23 1 n cap1 (us (dg bb V))), (87, .row (some (gq, 0)) 23 1 (la - n + 1) (la - n + 1) (us s.2.2))]))
    (fun s => s.1 ≤ la - n + 1 ∧ DivAt x by' V la n s.1 s.2.1 s.2.2) (fun s => s.1) (fun _ => rfl) ?_ ?_
  · refine ⟨(la - n + 1, u0, List.replicate (la - n + 1) 0), ⟨Nat.le_refl _, hD⟩, ?_, ?_, rfl⟩
    · dsimp only
      rw [show (((la - n + 1 : Nat) : Int) - 1) = (la : Int) - (n : Int) by omega]
      ((repeat' (first | exact trivial | exact rfl | refine And.intro ?_ ?_)) <;> (try (conv => whnf)) <;> (try simp only [SV.real, SV.r2, SV.r1]))
    · dsimp only
      ((repeat' (first | exact trivial | exact rfl | refine And.intro ?_ ?_)) <;> (try (conv => whnf)) <;> (try simp only [SV.real, SV.r2, SV.r1]))
      all_goals exact made_us _
  rintro ⟨t, u, q⟩ ⟨ht, hA⟩
  dsimp only at ht hA
  have hlu := hA.lu
  have hlq := hA.lq
  by_cases ht0 : t = 0
  · subst ht0
    rw [eV] at hV hA
    obtain ⟨d1, d2, d3⟩ := div_end hV hb0 hA hnla
    have htn : (u.take n).length = n := by rw [List.length_take]; omega
    have hdl : (dgs n (x % y)).length = n := dgs_len _ _
    rw [hbb] at hb1
    repeat' ((conv => whnf); first | refine walk (Try.ok ..) ?_ | (refine Cnd.mk (fun h => ?_) (fun h => ?_) <;> (first | exact cndT h (by (try dsimp only); omega) | exact cndF h (by (try dsimp only); omega) | (exfalso; simp at h; omega) | simp at h | skip)) | refine kp ?_ ?_ | refine tw ?_ ?_ | exact trivial | refine side2 ?_ | refine sideL2 ?_ | refine Or.inr ?_ | refine sat_drawH (Try.ok ..) (by kernel_rfl) ?_ | refine xi _ (And.intro rfl rfl) ?_ | refine xi _ (fun _ => And.intro rfl rfl) ?_ | refine xi _ rfl ?_)
    refine called_modA 71 (us (dgs n (x % y) ++ u.drop n)) (.v (.int .u32 ((nv bb (u.take n) % by' : Nat) : Int))) rfl (by omega) (by rw [us_len, us_len, List.length_append, hdl, List.length_drop]; show n + (u.length - n) = u.length; omega) (fun w' tail g hAg hh hg => by
      have hgg : gu = g := by injection hAg with h9; injection h9
      subst hgg
      have e9 : us u ++ tail = [] ++ us (u.take n) ++ (us (u.drop n) ++ tail) := by
        rw [List.nil_append, ← List.append_assoc, ← us_app, List.take_append_drop]
      rw [e9] at hg
      have h1 := small_any (u.take n) [] (us (u.drop n) ++ tail) gu 23 (la + 1) by' w' hg (by omega) (fun z hz => hA.bu z (List.mem_of_mem_take hz)) hb0 hb1
      rw [htn, d2, List.nil_append, ← List.append_assoc, ← us_app] at h1
      exact h1) ?_
    have htr := trim_nil (B := bb) hb2 hA.bq
    rw [d1] at htr
    repeat' ((conv => whnf); first | refine walk (Try.ok ..) ?_ | (refine Cnd.mk (fun h => ?_) (fun h => ?_) <;> (first | exact cndT h (by (try dsimp only); omega) | exact cndF h (by (try dsimp only); omega) | (exfalso; simp at h; omega) | simp at h | skip)) | refine kp ?_ ?_ | refine tw ?_ ?_ | exact trivial | refine side2 ?_ | refine sideL2 ?_ | refine Or.inr ?_ | refine sat_drawH (Try.ok ..) (by kernel_rfl) ?_ | refine xi _ (And.intro rfl rfl) ?_ | refine xi _ (fun _ => And.intro rfl rfl) ?_ | refine xi _ rfl ?_)
    refine called_trim 87 (dg bb (x / y)).length rfl (by rw [htr, ← hlq]; exact trim_len _) (fun w' hh => by
      have h1 := trim_any q (some (gq, 0)) (la - n + 1) w' (by rw [hlq]; exact ro_of_row hh (id := 87) rfl) (by omega) (by rw [hlq]; exact Nat.le_refl _)
      rw [← htr, hlq] at h1
      exact h1) ?_
    repeat' ((conv => whnf); first | refine walk (Try.ok ..) ?_ | (refine Cnd.mk (fun h => ?_) (fun h => ?_) <;> (first | exact cndT h (by (try dsimp only); omega) | exact cndF h (by (try dsimp only); omega) | (exfalso; simp at h; omega) | simp at h | skip)) | refine kp ?_ ?_ | refine tw ?_ ?_ | exact trivial | refine side2 ?_ | refine sideL2 ?_ | refine Or.inr ?_ | refine sat_drawH (Try.ok ..) (by kernel_rfl) ?_ | refine xi _ (And.intro rfl rfl) ?_ | refine xi _ (fun _ => And.intro rfl rfl) ?_ | refine xi _ rfl ?_)
    refine called_row 159 (xs := us (dgs n (x % y))) (m := n) (fun v => v) (fun A cap => .o 159 A n cap) (fun A cap => rfl) (fun w' hh => by
      have h0 := (ro_of_row hh (id := 71) rfl).take_ (m := n) (by omega)
      rw [Nat.mul_one, us_take, List.take_append_of_le_length (by rw [hdl]; exact Nat.le_refl _), List.take_of_length_le (by rw [hdl]; exact Nat.le_refl _)] at h0
      have h1 := clone_any (dgs n (x % y)) (some (gu, 0)) (la + 1) w' (by rw [hdl]; exact h0) (by omega)
      rw [hdl] at h1
      exact h1) ?_
    intro A2 cap2
    have hnr : nv bb (dgs n (x % y)) = x % y := by
      rw [nv_dgs]
      exact Nat.mod_eq_of_lt ((dg_len hb2 n _).1 d3)
    have htr2 := trim_nil (B := bb) hb2 (dgs_lt n (x % y))
    rw [hnr] at htr2
    repeat' ((conv => whnf); first | refine walk (Try.ok ..) ?_ | (refine Cnd.mk (fun h => ?_) (fun h => ?_) <;> (first | exact cndT h (by (try dsimp only); omega) | exact cndF h (by (try dsimp only); omega) | (exfalso; simp at h; omega) | simp at h | skip)) | refine kp ?_ ?_ | refine tw ?_ ?_ | exact trivial | refine side2 ?_ | refine sideL2 ?_ | refine Or.inr ?_ | refine sat_drawH (Try.ok ..) (by kernel_rfl) ?_ | refine xi _ (And.intro rfl rfl) ?_ | refine xi _ (fun _ => And.intro rfl rfl) ?_ | refine xi _ rfl ?_)
    refine called_trim 159 (dg bb (x % y)).length rfl d3 (fun w' hh => by
      have h1 := trim_any (dgs n (x % y)) A2 cap2 w' (by rw [hdl]; exact ro_of_row hh (id := 159) rfl) (by omega) (by rw [hdl]; exact row_cap hh (id := 159) rfl)
      rw [← htr2, hdl] at h1
      exact h1) ?_
    repeat' ((conv => whnf); first | refine walk (Try.ok ..) ?_ | (refine Cnd.mk (fun h => ?_) (fun h => ?_) <;> (first | exact cndT h (by (try dsimp only); omega) | exact cndF h (by (try dsimp only); omega) | (exfalso; simp at h; omega) | simp at h | skip)) | refine kp ?_ ?_ | refine tw ?_ ?_ | exact trivial | refine side2 ?_ | refine sideL2 ?_ | refine Or.inr ?_ | refine sat_drawH (Try.ok ..) (by kernel_rfl) ?_ | refine xi _ (And.intro rfl rfl) ?_ | refine xi _ (fun _ => And.intro rfl rfl) ?_ | refine xi _ rfl ?_)
    exact done_two (mk := fun v u => .tuple #[v, u]) rfl rfl 87 159 (by omega) (some (gq, 0)) (la - n + 1) A2 cap2 rfl rfl (Nat.le_refl _) (Nat.le_refl _) (by
      rw [List.take_take, Nat.min_self, Nat.mul_one, us_take, htr, ← trim_take]) (by
      rw [List.take_take, Nat.min_self, Nat.mul_one, us_take, htr2, ← trim_take]) rfl
  obtain ⟨j, rfl⟩ : ∃ j, t = j + 1 := ⟨t - 1, by omega⟩
  obtain ⟨W, eW⟩ : ∃ W, W = nv bb u / bb ^ j := ⟨_, rfl⟩
  have hw := div_win hV hA (by omega)
  have hstep := div_step hV hA (by omega)
  rw [← eW] at hw hstep
  have hgs := div_guess hV hw
  obtain ⟨hvt, hv0, hvb⟩ := hV.top
  have hhi := hw.hi
  have hlo := hw.lo
  have htp := hw.top
  have hhb := hw.hib
  have hlb : W / bb ^ (n - 1) % bb < bb := Nat.mod_lt _ (by decide)
  obtain ⟨vt, evt⟩ : ∃ v, v = V / bb ^ (n - 1) := ⟨_, rfl⟩
  obtain ⟨hw1, ehw1⟩ : ∃ v, v = W / bb ^ n := ⟨_, rfl⟩
  obtain ⟨lw1, elw1⟩ : ∃ v, v = W / bb ^ (n - 1) % bb := ⟨_, rfl⟩
  obtain ⟨T, eT⟩ : ∃ v, v = W / bb ^ (n - 1) := ⟨_, rfl⟩
  rw [← evt] at hvt hv0 hvb hgs
  rw [← ehw1] at hhi hhb
  rw [← elw1] at hlo hlb
  rw [← ehw1, ← elw1, ← eT] at htp
  rw [← eT] at hgs
  rw [hbb] at hvb hhb hlb htp
  have hor : bits .or .u64 (IntKind.u64.wrap ((hw1 : Int) * 2 ^ Int.toNat 32)) (lw1 : Int) = (T : Int) := by
    rw [IntKind.wrap_u64, pow32, Int.emod_eq_of_lt (by omega) (by omega), or_u64 (by omega) (by omega)]
    omega
  have hTb : T ≤ 18446744073709551615 := by omega
  have hsl : 0 ≤ (j : Int) ∧ (j : Int) ≤ (j : Int) + (n : Int) + 1 ∧ (j : Int) + (n : Int) + 1 ≤ ((la + 1 : Nat) : Int) ∧ (some ((gu, 0) : Nat × Nat)).isSome = true := ⟨by omega, by omega, by omega, rfl⟩
  obtain ⟨g0, eg0⟩ : ∃ v, v = min (T / vt) 4294967295 := ⟨_, rfl⟩
  rw [← eg0] at hgs
  repeat' ((conv => whnf); first | refine walk (Try.ok ..) ?_ | (refine Cnd.mk (fun h => ?_) (fun h => ?_) <;> (first | exact cndT h (by (try dsimp only); omega) | exact cndF h (by (try dsimp only); omega) | (exfalso; simp at h; omega) | simp at h | skip)) | refine kp ?_ ?_ | refine tw ?_ ?_ | exact trivial | refine side2 ?_ | refine sideL2 ?_ | refine Or.inr ?_ | refine sat_drawH (Try.ok ..) (by kernel_rfl) ?_ | refine xi _ (And.intro rfl rfl) ?_ | refine xi _ (fun _ => And.intro rfl rfl) ?_ | refine xi _ rfl ?_ | refine xi _ (fun _ => (u_at hhi (by omega))) ?_ | refine xi _ (u_at hhi (by omega)) ?_ | refine xi _ (fun _ => (u_at hlo (by omega))) ?_ | refine xi _ (u_at hlo (by omega)) ?_ | refine xi _ (fun _ => (u_at hvt (by omega))) ?_ | refine xi _ (u_at hvt (by omega)) ?_)
  refine sat_to ([(8, .yes, .v (.int .i64 n)), (9, .yes, .v (.int .u32 by')), (10, .yes, .o 71 (some (gu, 0)) (la + 1) (la + 1)), (11, .yes, .o 75 A1 n cap1), (12, .yes, .o 87 (some (gq, 0)) (la - n + 1) (la - n + 1)), (13, .yes, .v (.int .i64 j)), (15, .yes, .v (.int .u64 g0))],
      [(71, .row (some (gu, 0)) 23 1 (la + 1) (la + 1) (us u)), (75, .row A1 23 1 n cap1 (us (dg bb V))), (87, .row (some (gq, 0)) 23 1 (la - n + 1) (la - n + 1) (us q))]) rfl ?_ ?_ rfl ?_
  · rw [show ((g0 : Nat) : Int) = min (bits .or .u64 (IntKind.u64.wrap ((hw1 : Int) * 2 ^ Int.toNat 32)) (lw1 : Int) / (vt : Int)) 4294967295 by
      rw [hor, eg0, show ((T : Int) / (vt : Int)) = ((T / vt : Nat) : Int) from rfl]
      generalize T / vt = r
      omega, show (j : Int) = ((j + 1 : Nat) : Int) - 1 by omega]
    ((repeat' (first | exact trivial | exact rfl | refine And.intro ?_ ?_)) <;> (try (conv => whnf)) <;> (try simp only [SV.real, SV.r2, SV.r1]))
  · ((repeat' (first | exact trivial | exact rfl | refine And.intro ?_ ?_)) <;> (try (conv => whnf)) <;> (try simp only [SV.real, SV.r2, SV.r1]))
  refine sat_ops (Try.ok ..) ?_
  repeat' ((conv => whnf); first | refine walk (Try.ok ..) ?_ | (refine Cnd.mk (fun h => ?_) (fun h => ?_) <;> (first | exact cndT h (by (try dsimp only); omega) | exact cndF h (by (try dsimp only); omega) | (exfalso; simp at h; omega) | simp at h | skip)) | refine kp ?_ ?_ | refine tw ?_ ?_ | exact trivial | refine side2 ?_ | refine sideL2 ?_ | refine Or.inr ?_ | refine sat_drawH (Try.ok ..) (by kernel_rfl) ?_ | refine xi _ (And.intro rfl rfl) ?_ | refine xi _ (fun _ => And.intro rfl rfl) ?_ | refine xi _ rfl ?_)
  refine called_args [.s 71 gu 0 j (n + 1) (la + 1 - j), .o 75 A1 n cap1, .v (.int .u64 g0)] (congrArg (fun s : SV => [s.real, (SV.o 75 A1 n cap1).real, (SV.v (.int .u64 g0)).real]) (by first | exact (s_eq (off_at (by omega)) (by omega) (by omega)).symm | exact (s_eq (if_at (by omega) (by omega)) (by omega) (by omega)).symm)) ?_
  have hwl := hw.len
  have hwv := hw.win
  have htl : (us (u.take j)).length = j := by rw [us_len, List.length_take]; omega
  have hdl : ∀ z, (dgs (n + 1) z).length = n + 1 := fun z => dgs_len _ _
  refine called_modA 71 (us (upd j u (dgs (n + 1) (W + bb ^ (n + 1) - g0 * V)))) (.v (.bool (decide (W < g0 * V)))) rfl (by omega) (by rw [us_len, us_len, upd_len (by rw [hdl]; omega)]) (fun w' tail g hAg hh hg => by
    have hgg : gu = g := by injection hAg with h9; injection h9
    subst hgg
    rw [us_cut u j (n + 1)] at hg
    have h1 := take_any ((u.drop j).take (n + 1)) (us (u.take j)) (us (u.drop (j + (n + 1))) ++ tail) gu 23 (la + 1 - j) V g0 A1 cap1 w' hg (by rw [hVl]; exact ro_of_row hh (id := 75) rfl) (fun p hp => Ne.symm (rows_ne hh (i := 71) (j := 75) rfl rfl (by omega) (gu, 0) p rfl hp)) (by rw [hwl]; omega) (fun z hz => hA.bu z (List.mem_of_mem_drop (List.mem_of_mem_take hz))) (by rw [hbb]; omega) (by rw [hVl, hwl]; omega)
    rw [hwl, hwv, htl, hVl] at h1
    have h2 := us_upd u (dgs (n + 1) (W + bb ^ (n + 1) - g0 * V)) j tail
    rw [hdl] at h2
    rw [h2] at h1
    exact h1) ?_
  repeat' ((conv => whnf); first | refine walk (Try.ok ..) ?_ | (refine Cnd.mk (fun h => ?_) (fun h => ?_) <;> (first | exact cndT h (by (try dsimp only); omega) | exact cndF h (by (try dsimp only); omega) | (exfalso; simp at h; omega) | simp at h | skip)) | refine kp ?_ ?_ | refine tw ?_ ?_ | exact trivial | refine side2 ?_ | refine sideL2 ?_ | refine Or.inr ?_ | refine sat_drawH (Try.ok ..) (by kernel_rfl) ?_ | refine xi _ (And.intro rfl rfl) ?_ | refine xi _ (fun _ => And.intro rfl rfl) ?_ | refine xi _ rfl ?_)
  refine sat_loop (Try.ok ..) (α := Nat) (fun gs => ([(8, .yes, .v (.int .i64 n)), (9, .yes, .v (.int .u32 by')), (10, .yes, .o 71 (some (gu, 0)) (la + 1) (la + 1)), (11, .yes, .o 75 A1 n cap1), (12, .yes, .o 87 (some (gq, 0)) (la - n + 1) (la - n + 1)), (13, .yes, .v (.int .i64 j)), (15, .yes, .v (.int .u64 gs)), (16, .yes, .v (.bool (decide (W < gs * V))))],
      [(71, .row (some (gu, 0)) 23 1 (la + 1) (la + 1) (us (upd j u (dgs (n + 1) (W + bb ^ (n + 1) - gs * V))))), (75, .row A1 23 1 n cap1 (us (dg bb V))), (87, .row (some (gq, 0)) 23 1 (la - n + 1) (la - n + 1) (us q))])) (fun gs => W / V ≤ gs ∧ gs ≤ 4294967295) (fun gs => gs) (fun _ => rfl) ?_ ?_
  · refine ⟨g0, ⟨hgs, by omega⟩, ?_, ?_, rfl⟩
    all_goals ((repeat' (first | exact trivial | exact rfl | refine And.intro ?_ ?_)) <;> (try (conv => whnf)) <;> (try simp only [SV.real, SV.r2, SV.r1]))
  rintro gs ⟨hg1, hg2⟩
  have hV0 : 0 < V := by
    rcases Nat.eq_zero_or_pos V with h0 | h0
    · have := hw.lt
      rw [h0] at this
      omega
    · exact h0
  have hgV : gs * V < bb ^ (n + 1) := by
    have h1 : gs * V ≤ gs * bb ^ n := Nat.mul_le_mul_left _ (Nat.le_of_lt hV.lt)
    have h2 : gs * bb ^ n < bb * bb ^ n := Nat.mul_lt_mul_of_pos_right (by rw [hbb]; omega) (Nat.pow_pos (by decide))
    rw [← Nat.pow_succ'] at h2
    exact Nat.lt_of_le_of_lt h1 h2
  by_cases how : W < gs * V
  · obtain ⟨k, rfl⟩ : ∃ k, gs = k + 1 := ⟨gs - 1, by
      have h9 : gs ≠ 0 := fun e => by rw [e, Nat.zero_mul] at how; omega
      omega⟩
    rw [Nat.add_mul, Nat.one_mul] at how hgV
    obtain ⟨Z, eZ⟩ : ∃ Z, Z = W + bb ^ (n + 1) - (k + 1) * V := ⟨_, rfl⟩
    have eZ2 : Z + V = W + bb ^ (n + 1) - k * V := by rw [eZ, Nat.add_mul, Nat.one_mul]; omega
    have hZ : Z < bb ^ (n + 1) := by rw [eZ, Nat.add_mul, Nat.one_mul]; omega
    have hnZ : nv bb (dgs (n + 1) Z) = Z := by rw [nv_dgs, Nat.mod_eq_of_lt hZ]
    have hkk : W / V ≤ k := by
      have h8 : W / V < k + 1 := by
        rw [Nat.div_lt_iff_lt_mul hV0, Nat.add_mul, Nat.one_mul]
        exact how
      omega
    have hbo : (!decide (bb ^ (n + 1) ≤ Z + V)) = decide (W < k * V) := by
      by_cases h8 : W < k * V
      · rw [decide_eq_true h8, decide_eq_false (by omega)]; rfl
      · rw [decide_eq_false h8, decide_eq_true (by omega)]; rfl
    have hjl : j + (dgs (n + 1) Z).length ≤ u.length := by rw [hdl]; omega
    rw [← eZ, show decide (W < (k + 1) * V) = true by rw [decide_eq_true_eq, Nat.add_mul, Nat.one_mul]; exact how]
    repeat' ((conv => whnf); first | refine walk (Try.ok ..) ?_ | (refine Cnd.mk (fun h => ?_) (fun h => ?_) <;> (first | exact cndT h (by (try dsimp only); omega) | exact cndF h (by (try dsimp only); omega) | (exfalso; simp at h; omega) | simp at h | skip)) | refine kp ?_ ?_ | refine tw ?_ ?_ | exact trivial | refine side2 ?_ | refine sideL2 ?_ | refine Or.inr ?_ | refine sat_drawH (Try.ok ..) (by kernel_rfl) ?_ | refine xi _ (And.intro rfl rfl) ?_ | refine xi _ (fun _ => And.intro rfl rfl) ?_ | refine xi _ rfl ?_)
    refine called_args [.s 71 gu 0 j (n + 1) (la + 1 - j), .o 75 A1 n cap1] (congrArg (fun s : SV => [s.real, (SV.o 75 A1 n cap1).real]) (by first | exact (s_eq (off_at (by omega)) (by omega) (by omega)).symm | exact (s_eq (if_at (by omega) (by omega)) (by omega) (by omega)).symm)) ?_
    refine called_modA 71 (us (upd j u (dgs (n + 1) (W + bb ^ (n + 1) - k * V)))) (.v (.bool (decide (bb ^ (n + 1) ≤ Z + V)))) rfl (by omega) (by rw [us_len, us_len, upd_len (by rw [hdl]; omega), upd_len hjl]) (fun w' tail g hAg hh hg => by
      have hgg : gu = g := by injection hAg with h9; injection h9
      subst hgg
      rw [us_cut (upd j u (dgs (n + 1) Z)) j (n + 1)] at hg
      have e1 := upd_win hjl
      have e2 := upd_take hjl
      rw [hdl] at e1
      rw [e1, e2] at hg
      have h1 := give_any (dgs (n + 1) Z) (us (u.take j)) (us ((upd j u (dgs (n + 1) Z)).drop (j + (n + 1))) ++ tail) gu 23 (la + 1 - j) V A1 cap1 w' hg (by rw [hVl]; exact ro_of_row hh (id := 75) rfl) (fun p hp => Ne.symm (rows_ne hh (i := 71) (j := 75) rfl rfl (by omega) (gu, 0) p rfl hp)) (by rw [hdl]; omega) (dgs_lt _ _) (by rw [hVl, hdl]; omega)
      rw [hdl, hnZ, htl, hVl, eZ2, ← eZ2] at h1
      have h2 := us_upd (upd j u (dgs (n + 1) Z)) (dgs (n + 1) (Z + V)) j tail
      rw [hdl, e2, upd_upd hjl (by rw [hdl, hdl])] at h2
      rw [h2, eZ2] at h1
      rw [eZ2]
      exact h1) ?_
    repeat' ((conv => whnf); first | refine walk (Try.ok ..) ?_ | (refine Cnd.mk (fun h => ?_) (fun h => ?_) <;> (first | exact cndT h (by (try dsimp only); omega) | exact cndF h (by (try dsimp only); omega) | (exfalso; simp at h; omega) | simp at h | skip)) | refine kp ?_ ?_ | refine tw ?_ ?_ | exact trivial | refine side2 ?_ | refine sideL2 ?_ | refine Or.inr ?_ | refine sat_drawH (Try.ok ..) (by kernel_rfl) ?_ | refine xi _ (And.intro rfl rfl) ?_ | refine xi _ (fun _ => And.intro rfl rfl) ?_ | refine xi _ rfl ?_)
    refine ⟨k, ⟨⟨hkk, by omega⟩, by omega⟩, ?_, ?_, rfl⟩
    · dsimp only
      rw [← hbo, show (k : Int) = ((k + 1 : Nat) : Int) - 1 by omega]
      ((repeat' (first | exact trivial | exact rfl | refine And.intro ?_ ?_)) <;> (try (conv => whnf)) <;> (try simp only [SV.real, SV.r2, SV.r1]))
    · ((repeat' (first | exact trivial | exact rfl | refine And.intro ?_ ?_)) <;> (try (conv => whnf)) <;> (try simp only [SV.real, SV.r2, SV.r1]))
  · have hge := win_eq (n := n) hg1 how hV0
    have hwm := win_mod (n := n) (W := W) hV0
    rw [← hge] at hwm
    rw [← hge] at hstep
    rw [hwm, show decide (W < gs * V) = false from decide_eq_false how]
    have hlo2 : mulS ((j : Int)).toNat 1 < (us q).length := by rw [mulS_eq, us_len]; omega
    have hset : (us q).set (mulS ((j : Int)).toNat 1) (.int .u32 (gs : Int)) = us (q.set j gs) := u_set rfl rfl
    repeat' ((conv => whnf); first | refine walk (Try.ok ..) ?_ | (refine Cnd.mk (fun h => ?_) (fun h => ?_) <;> (first | exact cndT h (by (try dsimp only); omega) | exact cndF h (by (try dsimp only); omega) | (exfalso; simp at h; omega) | simp at h | skip)) | refine kp ?_ ?_ | refine tw ?_ ?_ | exact trivial | refine side2 ?_ | refine sideL2 ?_ | refine Or.inr ?_ | refine sat_drawH (Try.ok ..) (by kernel_rfl) ?_ | refine xi _ (And.intro rfl rfl) ?_ | refine xi _ (fun _ => And.intro rfl rfl) ?_ | refine xi _ rfl ?_)
    refine ⟨(j, upd j u (dgs (n + 1) (W % V)), q.set j gs), ⟨⟨by omega, hstep⟩, by dsimp only; omega⟩, ?_, ?_, rfl⟩
    · ((repeat' (first | exact trivial | exact rfl | refine And.intro ?_ ?_)) <;> (try (conv => whnf)) <;> (try simp only [SV.real, SV.r2, SV.r1]))
    · dsimp only
      rw [← hset]
      ((repeat' (first | exact trivial | exact rfl | refine And.intro ?_ ?_)) <;> (try (conv => whnf)) <;> (try simp only [SV.real, SV.r2, SV.r1]))
end Go.Proofs.Ytomhfakkebaciaa
