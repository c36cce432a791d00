/-
  The walks of the frac package: numbers are compared, and divided by one limb.
-/
import Derived.Test.YtomhfakkebaciaaNA
namespace Go.Proofs.Ytomhfakkebaciaa
open Go Sat Go.RowKit Go.PlainAid
set_option linter.unusedSimpArgs false
set_option linter.unusedVariables false
theorem cmp_lt {a b : Nat} (h : a < b) : cmpN a b = -1 := by unfold cmpN; rw [if_pos h]
theorem cmp_gt {a b : Nat} (h : b < a) : cmpN a b = 1 := by unfold cmpN; rw [if_neg (by omega), if_pos h]
theorem cmp_eq (a : Nat) : cmpN a a = 0 := by unfold cmpN; rw [if_neg (by omega), if_neg (by omega)]
theorem digit_lt {x y k : Nat} (h : x / bb ^ (k + 1) = y / bb ^ (k + 1)) (hd : x / bb ^ k % bb < y / bb ^ k % bb) : x < y := by
  have h1 := div_split bb x k
  have h2 := div_split bb y k
  rw [h] at h1
  have h3 : x / bb ^ k < y / bb ^ k := by omega
  rcases Nat.lt_or_ge x y with h4 | h4
  · exact h4
  · have := Nat.div_le_div_right (c := bb ^ k) h4
    omega
set_option maxRecDepth 100000 in
set_option maxHeartbeats 8000000 in
theorem cmp_any (x y : Nat) (X Y : Option (Nat × Nat)) (capX capY : Nat) (w : World) (hx : Ro w X (dg bb x).length 1 (us (dg bb x))) (hy : Ro w Y (dg bb y).length 1 (us (dg bb y))) (hxl : (dg bb x).length ≤ 1000000) (hyl : (dg bb y).length ≤ 1000000) :
    Calls Try.prog 44 #[.slice (adr X) (dg bb x).length capX, .slice (adr Y) (dg bb y).length capY] w fun e w' => e = .returned (.int .i64 (cmpN x y)) ∧ Below w.heap.size w w' := by
  obtain ⟨n, hn⟩ : ∃ n, n = (dg bb x).length := ⟨_, rfl⟩
  obtain ⟨m, hm⟩ : ∃ n, n = (dg bb y).length := ⟨_, rfl⟩
  rw [← hn] at hx hxl ⊢
  rw [← hm] at hy hyl ⊢
  refine calls_sat (cx := Try.cx 33 [6] [] [] w) (Try.ok ..) Try.func44 rfl [.o 100 X n capX, .o 101 Y m capY] rfl (by show 2 ≤ 33; omega) [(100, .ro X n 1 (us (dg bb x))), (101, .ro Y m 1 (us (dg bb y)))] (holds_ros rfl rfl ⟨hx, hy, trivial⟩) ?_
  repeat' ((conv => whnf); first | refine walk (Try.ok ..) ?_ | fail)
  intro g3 hg3
  skip
  intro g4 hg4
  repeat' ((conv => whnf); first | refine walk (Try.ok ..) ?_ | (refine Cnd.mk (fun h => ?_) (fun h => ?_) <;> (first | exact cndT h (by (try dsimp only); omega) | exact cndF h (by (try dsimp only); omega) | (exfalso; simp at h; omega) | simp at h | skip)) | refine side2 ?_ | refine xi _ (And.intro rfl rfl) ?_ | fail)
  · rw [show cmpN x y = -1 from cmp_lt (len_lt (B := bb) (by decide) (by omega))]
    exact done_pure rfl rfl rfl
  · rw [show cmpN x y = 1 from cmp_gt (len_lt (B := bb) (by decide) (by omega))]
    exact done_pure rfl rfl rfl
  obtain rfl : n = m := by omega
  refine called_in (Try.ok ..) Try.func71 rfl (by show 1 ≤ 4; omega) ?_
  repeat' ((conv => whnf); first | refine walk (Try.ok ..) ?_ | fail)
  intro gb hgb
  repeat' ((conv => whnf); first | refine walk (Try.ok ..) ?_ | fail)
  refine done_in ?_
  repeat' ((conv => whnf); first | refine walk (Try.ok ..) ?_ | fail)
  intro D L hD hL
  repeat' ((conv => whnf); first | refine side2 ?_ | fail)
  all_goals (try (conv => whnf))
  generalize hB : HB.lp _ _ _ _ _ _ _ _ _ = B
  refine called_in (Try.ok ..) Try.func88 rfl (by show 2 ≤ 19; omega) ?_
  repeat' ((conv => whnf); first | refine walk (Try.ok ..) ?_ | refine side2 ?_ | refine sideL2 ?_ | refine xi _ (And.intro rfl rfl) ?_ | fail)
  all_goals (try (conv => whnf))
  refine sat_loop (COk.with_ (Try.ok ..) _ _) (α := Nat) (fun k => ([(0, .yes, .v (.func (.yield L) #[] #[])), (1, .yes, .p 1 gb 0 0), (3, .yes, .v (.int .i64 ((k : Int) - 1)))], [(1000000, .dfr D), (1000001, B), (1, .blk gb 75 [.o 100 X n capX]), (100, .ro X n 1 (us (dg bb x))), (101, .ro Y n 1 (us (dg bb y))), (3, .blk g3 75 [.o 101 Y n capY]), (4, .blk g4 3 [.v (.int .i64 0)])])) (fun k => k ≤ n ∧ x / bb ^ k = y / bb ^ k) (fun k => k) (fun _ => rfl) ?_ ?_
  · refine ⟨n, ⟨Nat.le_refl _, ?_⟩, ?_, ?_, rfl⟩
    · rw [Nat.div_eq_of_lt ((dg_len (by decide) n x).1 (by omega)), Nat.div_eq_of_lt ((dg_len (by decide) n y).1 (by omega))]
    all_goals ((repeat' (first | exact trivial | exact rfl | refine And.intro ?_ ?_)) <;> (try (conv => whnf)) <;> (try simp only [SV.real, SV.r2, SV.r1]))
    all_goals (subst hB)
    all_goals ((repeat' (first | exact trivial | exact rfl | refine And.intro ?_ ?_)) <;> (try (conv => whnf)) <;> (try simp only [SV.real, SV.r2, SV.r1]))
  rintro k ⟨hk, hdv⟩
  by_cases h0 : k = 0
  · subst h0
    subst hB
    repeat' ((conv => whnf); first | refine walk (Try.ok ..) ?_ | (refine Cnd.mk (fun h => ?_) (fun h => ?_) <;> (first | exact cndT h (by (try dsimp only); omega) | exact cndF h (by (try dsimp only); omega) | (exfalso; simp at h; omega) | simp at h | skip)) | fail)
    refine done_in ?_
    repeat' ((conv => whnf); first | refine walk (Try.ok ..) ?_ | refine side2 ?_ | refine xi _ (And.intro rfl rfl) ?_ | fail)
    rw [Nat.pow_zero, Nat.div_one, Nat.div_one] at hdv
    subst hdv
    rw [cmp_eq]
    exact done_pure rfl rfl rfl
  obtain ⟨j, rfl⟩ : ∃ j, k = j + 1 := ⟨k - 1, by omega⟩
  have hxa := dg_get (B := bb) (by decide) j x (by omega)
  have hya := dg_get (B := bb) (by decide) j y (by omega)
  have hlt1 := digit_lt hdv
  have hlt2 := digit_lt hdv.symm
  have hsp1 := div_split bb x j
  have hsp2 := div_split bb y j
  rw [hdv] at hsp1
  obtain ⟨xa, exa⟩ : ∃ v, v = x / bb ^ j % bb := ⟨_, rfl⟩
  obtain ⟨ya, eya⟩ : ∃ v, v = y / bb ^ j % bb := ⟨_, rfl⟩
  rw [← exa] at hxa hlt1 hlt2 hsp1
  rw [← eya] at hya hlt1 hlt2 hsp2
  repeat' ((conv => whnf); first | refine walk (Try.ok ..) ?_ | (refine Cnd.mk (fun h => ?_) (fun h => ?_) <;> (first | exact cndT h (by (try dsimp only); omega) | exact cndF h (by (try dsimp only); omega) | (exfalso; simp at h; omega) | simp at h | skip)) | refine side2 ?_ | refine xi _ (And.intro rfl rfl) ?_ | refine xi _ (u_at hxa (by omega)) ?_ | fail)
  subst hB
  refine Sat.yielded (COk.with_ (Try.ok ..) _ _) (id := 1000001) rfl rfl rfl rfl ?_
  repeat' ((conv => whnf); first | refine walk (COk.with_ (Try.ok ..) _ _) ?_ | fail)
  generalize hB2 : HB.lp _ _ _ _ _ _ _ LoopState.busy _ = B2
  refine sat_ops (COk.with_ (COk.with_ (Try.ok ..) _ _) _ _) ?_
  repeat' ((conv => whnf); first | refine walk (Try.ok ..) ?_ | refine walk (COk.with_ (Try.ok ..) _ _) ?_ | (refine Cnd.mk (fun h => ?_) (fun h => ?_) <;> (first | exact cndT h (by (try dsimp only); omega) | exact cndF h (by (try dsimp only); omega) | (exfalso; simp at h; omega) | simp at h | skip)) | refine side2 ?_ | refine sideL2 ?_ | refine xi _ (And.intro rfl rfl) ?_ | refine xi _ (u_at hya (by omega)) ?_ | fail)
  · subst hB2
    skip
    refine done_in ?_
    repeat' ((conv => whnf); first | refine side2 ?_ | refine xi _ (And.intro rfl rfl) ?_ | fail)
    rw [cmp_lt (hlt1 (by omega))]
    exact done_pure rfl rfl rfl
  · subst hB2
    skip
    refine done_in ?_
    repeat' ((conv => whnf); first | refine side2 ?_ | refine xi _ (And.intro rfl rfl) ?_ | fail)
    rw [cmp_gt (hlt2 (by omega))]
    exact done_pure rfl rfl rfl
  · subst hB2
    skip
    refine ⟨j, ⟨⟨by omega, by omega⟩, by omega⟩, ?_, ?_, rfl⟩
    · dsimp only
      ((repeat' (first | exact trivial | exact rfl | refine And.intro ?_ ?_)) <;> (try (conv => whnf)) <;> (try simp only [SV.real, SV.r2, SV.r1]))
      all_goals exact congrArg (Value.int .i64) (by omega)
    · ((repeat' (first | exact trivial | exact rfl | refine And.intro ?_ ?_)) <;> (try (conv => whnf)) <;> (try simp only [SV.real, SV.r2, SV.r1]))
end Go.Proofs.Ytomhfakkebaciaa
