/-
  The law FracSmall's great fractions, walked. The law FracSmall, walked.
-/
import Derived.Test.YtmekcdjaafegaaaGreatDoorLK1
import Derived.Test.YtmekcdjaafegaaaGreatDoorH1
import Derived.Test.YtmekcdjaafegaaaGreatDoorST
import Derived.Test.YtmekcdjaafegaaaGreatDoorLKT
set_option linter.unusedSimpArgs false
set_option linter.unusedVariables false
namespace Go.Proofs.YtmekcdjaafegaaaGreatDoor
section
open Go Sat Go.RowKit Go.PlainAid
set_option linter.unusedSimpArgs false
set_option linter.unusedVariables false
def gr0 (O P : Fr) : List Fr := [O, P, zeroF, ⟨false, 0, 1⟩, ⟨true, 0, 1⟩, ⟨false, 1, 0⟩, ⟨false, 2, 2⟩, ⟨false, 0, 2⟩, ⟨false, 2, 4⟩, ⟨true, 1, hi 255 256⟩]
def froms : List Int := [0, 1, 128, 224, 254, 255]
theorem froms_in {k : Nat} {a : Int} (h : froms[k]? = some a) : 0 ≤ a ∧ a ≤ 255 := by
  have hm := List.mem_of_getElem? h
  have : ∀ a ∈ froms, 0 ≤ a ∧ a ≤ 255 := by
    intro a ha
    simp only [froms, List.mem_cons, List.not_mem_nil, or_false] at ha
    constructor <;> omega
  exact this a hm
def gr1 (f : Nat) : List Fr := [⟨false, hi f 256, 1⟩, ⟨false, 1, hi f 256⟩, ⟨true, hi f 256, hi 0 256⟩, ⟨false, hi f 256, 3⟩]
def mkF (u v : List Nat) : Fr := ⟨false, nv bb u, nv bb v⟩
def Lm (u : List Nat) : Prop := u.length = 8 ∧ ∀ x ∈ u, x < bb
theorem mkF_big {u v : List Nat} (hu : Lm u) (hv : Lm v) : Big (mkF u v) := ⟨(lim_nv hu.1 hu.2).2, (lim_nv hv.1 hv.2).2⟩
theorem mkF_C {u v : List Nat} (hu : Lm u) (hv : Lm v) : frC (mkF u v) = .v (.bool false) :: ((us u).map .v ++ (us v).map .v) := by
  unfold frC mkF
  dsimp only
  rw [(lim_nv hu.1 hu.2).1, (lim_nv hv.1 hv.2).1]
def u1 (n : Nat) : List Nat := [0, 0, 0, n, 2147483648, 0, 0, 0]
def u2 : List Nat := [1, 0, 2147483648, 0, 0, 0, 0, 0]
def u3 (n : Nat) : List Nat := [1, 0, n, n, 2147483647, 0, 0, 0]
def u4 (n : Nat) : List Nat := [n, 4294967295, 2147483648, 0, 0, 0, 0, 0]
theorem u1_ok {n : Nat} (h : n < bb) : Lm (u1 n) := ⟨rfl, fun x hx => by simp only [u1, List.mem_cons, List.not_mem_nil, or_false] at hx; unfold bb at *; omega⟩
theorem u2_ok : Lm u2 := ⟨rfl, fun x hx => by simp only [u2, List.mem_cons, List.not_mem_nil, or_false] at hx; unfold bb at *; omega⟩
theorem u3_ok {n : Nat} (h : n < bb) : Lm (u3 n) := ⟨rfl, fun x hx => by simp only [u3, List.mem_cons, List.not_mem_nil, or_false] at hx; unfold bb at *; omega⟩
theorem u4_ok {n : Nat} (h : n < bb) : Lm (u4 n) := ⟨rfl, fun x hx => by simp only [u4, List.mem_cons, List.not_mem_nil, or_false] at hx; unfold bb at *; omega⟩
def gr2 (n : Nat) : List Fr := [mkF (u1 n) u2, mkF (u3 n) (u4 n)]
theorem gr2_big {n : Nat} (h : n < bb) : AllBig (gr2 n) := by
  intro x hx
  simp only [gr2, List.mem_cons, List.not_mem_nil, or_false] at hx
  rcases hx with rfl | rfl
  · exact mkF_big (u1_ok h) u2_ok
  · exact mkF_big (u3_ok h) (u4_ok h)
theorem gr2_L {n : Nat} (h : n < bb) : frL (gr2 n) = (.bool false :: (us (u1 n) ++ us u2)) ++ (.bool false :: (us (u3 n) ++ us (u4 n))) := by
  unfold frL gr2 frW
  simp only [List.flatMap_cons, List.flatMap_nil, List.append_nil]
  rw [mkF_C (u1_ok h) u2_ok, mkF_C (u3_ok h) (u4_ok h)]
  rfl
def tops : List Nat := [2147483648, 2147483647, 4294967295]
theorem tops_in {k a : Nat} (h : tops[k]? = some a) : a < bb := by
  have hm := List.mem_of_getElem? h
  have : ∀ a ∈ tops, a < bb := by decide
  exact this a hm
theorem uc_at {l : List Nat} {k a : Nat} (h : l[k]? = some a) : (uc l)[0 + mulS (k : Int).toNat 1]? = some (.v (.int .u32 a)) ∧ (SV.v (.int .u32 (a : Int))).scal = true := by
  rw [mulS_eq, Int.toNat_natCast, Nat.mul_one, Nat.zero_add]
  exact ⟨uc_get h, rfl⟩
theorem frL_apps (l m : List Fr) : frL (l ++ m) = frL l ++ frL m := List.flatMap_append ..
theorem AllBig.app {l m : List Fr} (h : AllBig l) (hm : AllBig m) : AllBig (l ++ m) := fun x hx => by
  rcases List.mem_append.1 hx with h1 | h1
  · exact h x h1
  · exact hm x h1
theorem gr0_big {O P : Fr} (hO : Big O) (hP : Big P) : AllBig (gr0 O P) := by
  intro x hx
  have h2 := hi_big (f := 255) (i := 256) (by decide)
  simp only [gr0, List.mem_cons, List.not_mem_nil, or_false] at hx
  rcases hx with rfl | rfl | rfl | rfl | rfl | rfl | rfl | rfl | rfl | rfl
  · exact hO
  · exact hP
  all_goals first | exact ⟨by decide, by decide⟩ | exact ⟨by decide, h2⟩
theorem gr1_big (f : Nat) : AllBig (gr1 f) := by
  intro x hx
  have h1 := hi_big (f := f) (i := 256) (by decide)
  have h2 := hi_big (f := 0) (i := 256) (by decide)
  simp only [gr1, List.mem_cons, List.not_mem_nil, or_false] at hx
  rcases hx with rfl | rfl | rfl | rfl
  · exact ⟨h1, (by decide : 1 < big)⟩
  · exact ⟨(by decide : 1 < big), h1⟩
  · exact ⟨h1, h2⟩
  · exact ⟨h1, (by decide : 3 < big)⟩
theorem big3 {f Q : Fr} (hf : Big f) (hQ : Big Q) : ∀ x ∈ [f, Q, f], Big x := by
  intro x hx
  simp only [List.mem_cons, List.not_mem_nil, or_false] at hx
  rcases hx with rfl | rfl | rfl <;> assumption
theorem big2 {f Q : Fr} (hf : Big f) (hQ : Big Q) : ∀ x ∈ [Q, f], Big x := by
  intro x hx
  simp only [List.mem_cons, List.not_mem_nil, or_false] at hx
  rcases hx with rfl | rfl <;> assumption
set_option maxRecDepth 100000 in
set_option maxHeartbeats 8000000 in
theorem great_any (w : World) :
    Calls Tryz.prog 11 #[] w fun e w' => e = .returned (.bool true) ∧ Below w.heap.size w w' := by
  refine calls_sat (cx := Tryz.cx 127 [2, 3, 6, 8, 13] [] [] w) (Tryz.ok ..) Tryz.func11 rfl [] rfl (by show 0 ≤ 127; omega) [] (holds_nil (Nat.le_refl _)) ?_
  repeat' ((conv => whnf); first | refine walk (Tryz.ok ..) ?_ | fail)
  (conv => whnf)
  intro g1 hg1
  skip
  (conv => whnf)
  intro g2 hg2
  repeat' ((conv => whnf); first | refine walk (Tryz.ok ..) ?_ | refine side2 ?_ | fail)
  have hO := fun w' => of_frac 0 w' ⟨by decide, by decide⟩
  have hP := fun w' => of_frac (-1) w' ⟨by decide, by decide⟩
  have hH := fun w' => high_any 255 w' (by decide)
  have lO := frC_len (ofF 0)
  have lP := frC_len (ofF (-1))
  have lH := (uc_len (lim (hi 255 256))).trans (lim_len _)
  obtain ⟨O, eO⟩ : ∃ r, r = ofF 0 := ⟨_, rfl⟩
  obtain ⟨P, eP⟩ : ∃ r, r = ofF (-1) := ⟨_, rfl⟩
  have hZ8 : (lim (hi 255 256)).length = 8 := lim_len _
  rw [← eO] at hO lO
  rw [← eP] at hP lP
  apply sat_draw_tab (Tryz.ok ..) [] [0, 1, 2, 3, 4, 5, 6, 7, 8, 9, 10, 11, 12, 13, 14, 15, 16, 17, 18, 19] [20, 21] 1048575 [(1, .yes, .p 1 g1 0 0), (2, .yes, .p 2 g2 0 0)] [(1, .blk g1 26 (uc (lim 1))), (2, .blk g2 26 (uc (lim 2)))] [(0, _), (1, _), (2, _), (3, _), (4, _), (5, _), (6, _), (7, _), (8, _), (9, _), (10, _), (11, _), (12, _), (13, _), (14, _), (15, _), (16, _), (17, _), (18, _), (19, _)] rfl (by kernel_rfl) ⟨rfl, rfl⟩
  · intro f
    repeat' ((conv => whnf); first | refine tw ?_ ?_ | exact trivial | refine side2 ?_ | (exact ⟨rfl, rfl⟩) | fail)
    · (conv => whnf)
      refine called_pure (.a (frC O)) rfl hO ?_
      repeat' ((conv => whnf); first | (exact ⟨rfl, rfl⟩) | fail)
    · (conv => whnf)
      refine called_pure (.a (frC P)) rfl hP ?_
      repeat' ((conv => whnf); first | (exact ⟨rfl, rfl⟩) | fail)
    · (conv => whnf)
      refine called_pure (.a (uc (lim (hi 255 256)))) rfl hH ?_
      repeat' ((conv => whnf); first | (exact ⟨rfl, rfl⟩) | fail)
    · repeat' ((conv => whnf); first | refine side2 ?_ | (exact ⟨rfl, rfl⟩) | fail)
  · repeat' ((conv => whnf); first | refine side2 ?_ | fail)
    (conv => whnf)
    intro g34 hg34
    repeat' ((conv => whnf); first | refine walk (Tryz.ok ..) ?_ | refine kp ?_ ?_ | exact trivial | fail)
    refine sat_own 34 (n := 10) (size := 17) rfl rfl (by kernel_rfl) (by unfold maxLen; omega) ?_
    refine sat_ren [(1, .yes, .p 1 g1 0 0), (2, .yes, .p 2 g2 0 0), (3, .yes, .o 59 (some (g34, 0)) 10 10)] [(1, 1, .blk g1 26 (uc (lim 1))), (2, 2, .blk g2 26 (uc (lim 2))), (59, 34, .row (some (g34, 0)) 28 17 10 10 (frL (gr0 O P)))] (by kernel_rfl) rfl rfl rfl (by ((repeat' (first | exact trivial | exact rfl | refine And.intro ?_ ?_)) <;> (try (conv => whnf)) <;> (try simp only [SV.real, SV.r2, SV.r1]))) ?_
    have bO := of_big 0
    have bP := of_big (-1)
    rw [← eO] at bO
    rw [← eP] at bP
    have hb0 := gr0_big bO bP
    have hl0 : (gr0 O P).length = 10 := rfl
    obtain ⟨l, hl⟩ : ∃ l, l = gr0 O P := ⟨_, rfl⟩
    rw [← hl] at hb0 hl0 ⊢
    clear hl eO eP hO hP lO lP hH hZ8 lH
    refine sat_ops (Tryz.ok ..) ?_
    skip
    (conv => whnf)
    intro g35 hg35
    repeat' ((conv => whnf); first | refine walk (Tryz.ok ..) ?_ | fail)
    refine sat_loop (Tryz.ok ..) (α := List Fr × Option (Nat × Nat) × Nat × Nat) (fun s => ([(1, .yes, .p 1 g1 0 0), (2, .yes, .p 2 g2 0 0), (3, .yes, .o 59 s.2.1 s.1.length s.2.2.1), (35, .yes, .s 35 g35 0 0 6 6), (36, .yes, .v (.int .i64 6)), (37, .yes, .v (.int .i64 s.2.2.2))], [(1, .blk g1 26 (uc (lim 1))), (2, .blk g2 26 (uc (lim 2))), (35, .blk g35 3 (litc froms)), (59, .row s.2.1 28 17 s.1.length s.2.2.1 (frL s.1))]))
      (fun s => AllBig s.1 ∧ s.1.length = 10 + 4 * s.2.2.2 ∧ s.2.2.2 ≤ 6) (fun s => 6 - s.2.2.2) (fun _ => rfl) ?_ ?_
    · refine ⟨(l, some (g34, 0), 10, 0), ⟨hb0, hl0, Nat.zero_le _⟩, ?_, ?_, rfl⟩
      · dsimp only
        rw [hl0]
        ((repeat' (first | exact trivial | exact rfl | refine And.intro ?_ ?_)) <;> (try (conv => whnf)) <;> (try simp only [SV.real, SV.r2, SV.r1]))
      · dsimp only
        rw [hl0]
        ((repeat' (first | exact trivial | exact rfl | refine And.intro ?_ ?_)) <;> (try (conv => whnf)) <;> (try simp only [SV.real, SV.r2, SV.r1]))
    clear hb0 hl0 l
    rintro ⟨l, A, cap, k⟩ ⟨hb, hl, hk⟩
    dsimp only at hb hl hk ⊢
    have h6 := litc_len froms
    rw [show froms.length = 6 from rfl] at h6
    by_cases hk1 : k < 6
    · obtain ⟨a, ha⟩ : ∃ a, froms[k]? = some a := ⟨froms[k]'hk1, List.getElem?_eq_getElem _⟩
      have har := froms_in ha
      obtain ⟨f, rfl⟩ : ∃ f : Nat, a = f := ⟨a.toNat, by omega⟩
      repeat' ((conv => whnf); first | refine walk (Tryz.ok ..) ?_ | (refine Cnd.mk (fun h => ?_) (fun h => ?_) <;> (first | exact cndT h (by (try dsimp only); omega) | exact cndF h (by (try dsimp only); omega) | (exfalso; simp at h; omega) | simp at h | skip)) | refine side2 ?_ | refine xi _ (litc_at ha) ?_ | fail)
      have hF := fun w' => high_any f w' (by omega)
      have hZ := fun w' => high_any 0 w' (by decide)
      apply sat_draw_tab (Tryz.ok ..) [0] [1, 2, 3, 4, 5, 6, 7, 8, 9, 10, 11, 12, 13, 14, 15, 16] [17, 18, 19] 131071 [(1, .yes, .p 1 g1 0 0), (2, .yes, .p 2 g2 0 0), (3, .yes, .o 59 A l.length cap), (5, .yes, .v (.int .i64 f)), (35, .yes, .s 35 g35 0 0 6 6), (36, .yes, .v (.int .i64 6)), (37, .yes, .v (.int .i64 k)), (41, .yes, .o 59 A l.length cap)] [(1, .blk g1 26 (uc (lim 1))), (2, .blk g2 26 (uc (lim 2))), (35, .blk g35 3 (litc froms)), (59, .row A 28 17 l.length cap (frL l))] [(1, _), (2, _), (3, _), (4, _), (5, _), (6, _), (7, _), (8, _), (9, _), (10, _), (11, _), (12, _), (13, _), (14, _), (15, _), (16, _)] rfl (by kernel_rfl)
      · skip
        exact ⟨rfl, rfl⟩
      · intro e
        repeat' ((conv => whnf); first | refine tw ?_ ?_ | exact trivial | refine side2 ?_ | (exact ⟨rfl, rfl⟩) | fail)
        · (conv => whnf)
          refine called_pure (.a (uc (lim (hi f 256)))) rfl hF ?_
          repeat' ((conv => whnf); first | (exact ⟨rfl, rfl⟩) | fail)
        · repeat' ((conv => whnf); first | refine side2 ?_ | (exact ⟨rfl, rfl⟩) | fail)
        · (conv => whnf)
          refine called_pure (.a (uc (lim (hi f 256)))) rfl hF ?_
          repeat' ((conv => whnf); first | (exact ⟨rfl, rfl⟩) | fail)
        · repeat' ((conv => whnf); first | refine side2 ?_ | (exact ⟨rfl, rfl⟩) | fail)
        · (conv => whnf)
          refine called_pure (.a (uc (lim (hi f 256)))) rfl hF ?_
          repeat' ((conv => whnf); first | (exact ⟨rfl, rfl⟩) | fail)
        · (conv => whnf)
          refine called_pure (.a (uc (lim (hi 0 256)))) rfl hZ ?_
          repeat' ((conv => whnf); first | (exact ⟨rfl, rfl⟩) | fail)
        · repeat' ((conv => whnf); first | refine side2 ?_ | (exact ⟨rfl, rfl⟩) | fail)
        · (conv => whnf)
          refine called_pure (.a (uc (lim (hi f 256)))) rfl hF ?_
          repeat' ((conv => whnf); first | (exact ⟨rfl, rfl⟩) | fail)
        · repeat' ((conv => whnf); first | refine side2 ?_ | (exact ⟨rfl, rfl⟩) | fail)
      · repeat' ((conv => whnf); first | refine side2 ?_ | fail)
        (conv => whnf)
        intro g58 hg58
        repeat' ((conv => whnf); first | refine kp ?_ ?_ | exact trivial | refine side2 ?_ | refine Or.inr ?_ | fail)
        (conv => whnf)
        intro A2 cap2
        repeat' ((conv => whnf); first | refine walk (Tryz.ok ..) ?_ | refine kp ?_ ?_ | exact trivial | refine sideL2 ?_ | fail)
        refine ⟨(l ++ gr1 f, A2, cap2, k + 1), ⟨⟨hb.app (gr1_big f), by rw [List.length_append]; show l.length + 4 = 10 + 4 * (k + 1); omega, by show k + 1 ≤ 6; omega⟩, by show 6 - (k + 1) < 6 - k; omega⟩, ?_, ?_, rfl⟩
        · dsimp only
          rw [List.length_append]
          ((repeat' (first | exact trivial | exact rfl | refine And.intro ?_ ?_)) <;> (try (conv => whnf)) <;> (try simp only [SV.real, SV.r2, SV.r1]))
        · dsimp only
          rw [List.length_append, frL_apps]
          ((repeat' (first | exact trivial | exact rfl | refine And.intro ?_ ?_)) <;> (try (conv => whnf)) <;> (try simp only [SV.real, SV.r2, SV.r1]))
          all_goals exact congrArg (frL l ++ ·) (by kernel_rfl)
      · kernel_rfl
    obtain rfl : k = 6 := by omega
    repeat' ((conv => whnf); first | refine walk (Tryz.ok ..) ?_ | (refine Cnd.mk (fun h => ?_) (fun h => ?_) <;> (first | exact cndT h (by (try dsimp only); omega) | exact cndF h (by (try dsimp only); omega) | (exfalso; simp at h; omega) | simp at h | skip)) | fail)
    refine sat_ops (Tryz.ok ..) ?_
    skip
    (conv => whnf)
    intro g61 hg61
    repeat' ((conv => whnf); first | refine walk (Tryz.ok ..) ?_ | fail)
    refine sat_loop (Tryz.ok ..) (α := List Fr × Option (Nat × Nat) × Nat × Nat) (fun s => ([(3, .yes, .o 59 s.2.1 s.1.length s.2.2.1), (61, .yes, .s 61 g61 0 0 3 3), (62, .yes, .v (.int .i64 3)), (63, .yes, .v (.int .i64 s.2.2.2))], [(59, .row s.2.1 28 17 s.1.length s.2.2.1 (frL s.1)), (61, .blk g61 25 (uc tops))]))
      (fun s => AllBig s.1 ∧ s.1.length = 34 + 2 * s.2.2.2 ∧ s.2.2.2 ≤ 3) (fun s => 3 - s.2.2.2) (fun _ => rfl) ?_ ?_
    · refine ⟨(l, A, cap, 0), ⟨hb, hl, Nat.zero_le _⟩, ?_, ?_, rfl⟩
      all_goals ((repeat' (first | exact trivial | exact rfl | refine And.intro ?_ ?_)) <;> (try (conv => whnf)) <;> (try simp only [SV.real, SV.r2, SV.r1]))
    clear hb hl hk hk1 h6 l A cap
    rintro ⟨l, A, cap, k⟩ ⟨hb, hl, hk⟩
    dsimp only at hb hl hk ⊢
    have h6 : (uc tops).length = 3 := rfl
    by_cases hk1 : k < 3
    · obtain ⟨n, ha⟩ : ∃ a, tops[k]? = some a := ⟨tops[k]'hk1, List.getElem?_eq_getElem _⟩
      have hn := tops_in ha
      repeat' ((conv => whnf); first | refine walk (Tryz.ok ..) ?_ | (refine Cnd.mk (fun h => ?_) (fun h => ?_) <;> (first | exact cndT h (by (try dsimp only); omega) | exact cndF h (by (try dsimp only); omega) | (exfalso; simp at h; omega) | simp at h | skip)) | refine side2 ?_ | refine xi _ (uc_at ha) ?_ | fail)
      (conv => whnf)
      intro g78 hg78
      repeat' ((conv => whnf); first | refine side2 ?_ | refine Or.inr ?_ | fail)
      (conv => whnf)
      intro A2 cap2
      repeat' ((conv => whnf); first | refine walk (Tryz.ok ..) ?_ | refine sideL2 ?_ | fail)
      refine ⟨(l ++ gr2 n, A2, cap2, k + 1), ⟨⟨hb.app (gr2_big hn), by rw [List.length_append]; show l.length + 2 = 34 + 2 * (k + 1); omega, by show k + 1 ≤ 3; omega⟩, by show 3 - (k + 1) < 3 - k; omega⟩, ?_, ?_, rfl⟩
      · dsimp only
        rw [List.length_append]
        ((repeat' (first | exact trivial | exact rfl | refine And.intro ?_ ?_)) <;> (try (conv => whnf)) <;> (try simp only [SV.real, SV.r2, SV.r1]))
      · dsimp only
        rw [List.length_append, frL_apps, gr2_L hn]
        ((repeat' (first | exact trivial | exact rfl | refine And.intro ?_ ?_)) <;> (try (conv => whnf)) <;> (try simp only [SV.real, SV.r2, SV.r1]))
        all_goals exact congrArg (frL l ++ ·) (by kernel_rfl)
    obtain rfl : k = 3 := by omega
    repeat' ((conv => whnf); first | refine walk (Tryz.ok ..) ?_ | (refine Cnd.mk (fun h => ?_) (fun h => ?_) <;> (first | exact cndT h (by (try dsimp only); omega) | exact cndF h (by (try dsimp only); omega) | (exfalso; simp at h; omega) | simp at h | skip)) | fail)
    refine sat_row 59 rfl fun hcap hA => ?_
    obtain ⟨p, rfl⟩ := hA (by omega)
    refine sat_ops (Tryz.ok ..) ?_
    repeat' ((conv => whnf); first | refine walk (Tryz.ok ..) ?_ | fail)
    refine sat_loop (Tryz.ok ..) (α := Nat) (fun i => ([(3, .yes, .o 59 (some p) l.length cap), (81, .yes, .o 59 (some p) l.length cap), (82, .yes, .v (.int .i64 l.length)), (83, .yes, .v (.int .i64 i))], [(59, .row (some p) 28 17 l.length cap (frL l))]))
      (fun i => i ≤ l.length) (fun i => l.length - i) (fun _ => rfl) ?_ ?_
    · refine ⟨0, Nat.zero_le _, ?_, ?_, rfl⟩
      all_goals ((repeat' (first | exact trivial | exact rfl | refine And.intro ?_ ?_)) <;> (try (conv => whnf)) <;> (try simp only [SV.real, SV.r2, SV.r1]))
    intro i hi
    by_cases hi1 : i < l.length
    · obtain ⟨f, hf⟩ : ∃ a, l[i]? = some a := ⟨l[i], List.getElem?_eq_getElem hi1⟩
      have hbf := hb f (List.mem_of_getElem? hf)
      have l17 := frC_len f
      repeat' ((conv => whnf); first | refine walk (Tryz.ok ..) ?_ | (refine Cnd.mk (fun h => ?_) (fun h => ?_) <;> (first | exact cndT h (by (try dsimp only); omega) | exact cndF h (by (try dsimp only); omega) | (exfalso; simp at h; omega) | simp at h | skip)) | refine side2 ?_ | refine xi _ (fr_cells hf rfl) ?_ | fail)
      (conv => whnf)
      intro g9 hg9
      rw [frW_v]
      repeat' ((conv => whnf); first | refine walk (Tryz.ok ..) ?_ | refine side2 ?_ | fail)
      refine sat_loop (Tryz.ok ..) (α := Nat) (fun k => ([(3, .yes, .o 59 (some p) l.length cap), (8, .yes, .v (.int .i64 i)), (9, .yes, .p 9 g9 0 0), (81, .yes, .o 59 (some p) l.length cap), (82, .yes, .v (.int .i64 l.length)), (83, .yes, .v (.int .i64 i)), (88, .yes, .o 59 (some p) l.length cap), (89, .yes, .v (.int .i64 l.length)), (90, .yes, .v (.int .i64 k))], [(9, .blk g9 28 (frC f)), (59, .row (some p) 28 17 l.length cap (frL l))]))
        (fun k => k ≤ l.length) (fun k => l.length - k) (fun _ => rfl) ?_ ?_
      · refine ⟨0, Nat.zero_le _, ?_, ?_, rfl⟩
        all_goals ((repeat' (first | exact trivial | exact rfl | refine And.intro ?_ ?_)) <;> (try (conv => whnf)) <;> (try simp only [SV.real, SV.r2, SV.r1]))
      intro k hk
      by_cases hk1 : k < l.length
      · obtain ⟨g, hg⟩ : ∃ a, l[k]? = some a := ⟨l[k], List.getElem?_eq_getElem hk1⟩
        have hbg := hb g (List.mem_of_getElem? hg)
        have l17' := frC_len g
        repeat' ((conv => whnf); first | refine walk (Tryz.ok ..) ?_ | (refine Cnd.mk (fun h => ?_) (fun h => ?_) <;> (first | exact cndT h (by (try dsimp only); omega) | exact cndF h (by (try dsimp only); omega) | (exfalso; simp at h; omega) | simp at h | skip)) | refine side2 ?_ | refine xi _ (fr_cells hg rfl) ?_ | fail)
        (conv => whnf)
        intro g11 hg11
        rw [frW_v]
        repeat' ((conv => whnf); first | refine walk (Tryz.ok ..) ?_ | refine side2 ?_ | refine sideL2 ?_ | fail)
        refine calledQ_pure (.v (.bool true)) rfl (fun _ w' => by exact tells_any f g w' hbf hbg) ?_
        repeat' ((conv => whnf); first | refine walk (Tryz.ok ..) ?_ | (refine Cnd.mk (fun h => ?_) (fun h => ?_) <;> (first | exact cndT h (by (try dsimp only); omega) | exact cndF h (by (try dsimp only); omega) | (exfalso; simp at h; omega) | simp at h | skip)) | refine side2 ?_ | refine sideL2 ?_ | fail)
        refine ⟨k + 1, ⟨hk1, by omega⟩, ?_, ?_, rfl⟩
        all_goals ((repeat' (first | exact trivial | exact rfl | refine And.intro ?_ ?_)) <;> (try (conv => whnf)) <;> (try simp only [SV.real, SV.r2, SV.r1]))
      obtain rfl : k = l.length := by omega
      have hO := fun w' => of_frac 1 w' ⟨by decide, by decide⟩
      have lO := frC_len (ofF 1)
      have bO := of_big 1
      obtain ⟨Q, eQ⟩ : ∃ r, r = ofF 1 := ⟨_, rfl⟩
      rw [← eQ] at hO lO bO
      repeat' ((conv => whnf); first | refine walk (Tryz.ok ..) ?_ | (refine Cnd.mk (fun h => ?_) (fun h => ?_) <;> (first | exact cndT h (by (try dsimp only); omega) | exact cndF h (by (try dsimp only); omega) | (exfalso; simp at h; omega) | simp at h | skip)) | refine side2 ?_ | refine sat_drawH (Tryz.ok ..) (by kernel_rfl) ?_ | fail)
      refine called_pure (.v (.bool true)) rfl (fun w' => by exact tells_any f f w' hbf hbf) ?_
      repeat' ((conv => whnf); first | (refine Cnd.mk (fun h => ?_) (fun h => ?_) <;> (first | exact cndT h (by (try dsimp only); omega) | exact cndF h (by (try dsimp only); omega) | (exfalso; simp at h; omega) | simp at h | skip)) | refine kp ?_ ?_ | exact trivial | refine side2 ?_ | refine Or.inr ?_ | fail)
      (conv => whnf)
      refine called_pure (.a (frC Q)) rfl hO ?_
      repeat' ((conv => whnf); first | (refine Cnd.mk (fun h => ?_) (fun h => ?_) <;> (first | exact cndT h (by (try dsimp only); omega) | exact cndF h (by (try dsimp only); omega) | (exfalso; simp at h; omega) | simp at h | skip)) | refine kp ?_ ?_ | exact trivial | refine side2 ?_ | refine Or.inr ?_ | fail)
      (conv => whnf)
      intro g115 hg115
      repeat' ((conv => whnf); first | (refine Cnd.mk (fun h => ?_) (fun h => ?_) <;> (first | exact cndT h (by (try dsimp only); omega) | exact cndF h (by (try dsimp only); omega) | (exfalso; simp at h; omega) | simp at h | skip)) | refine kp ?_ ?_ | exact trivial | refine side2 ?_ | refine Or.inr ?_ | fail)
      (conv => whnf)
      refine called_at (.v (.bool true)) rfl (fun w' hh => by
        have h1 := ro_of_blk hh (id := 115) rfl 0 3 17 (Nat.le_of_eq (by kernel_rfl))
        have h2 := sums_any [f, Q, f] (some (g115, 0)) 3 w' (by
          refine cast (congrArg (Ro w' (some (g115, 0)) 3 17) ?_) h1
          kernel_rfl) (by show 3 ≤ _; omega) (big3 hbf bO)
        exact h2) ?_
      repeat' ((conv => whnf); first | (refine Cnd.mk (fun h => ?_) (fun h => ?_) <;> (first | exact cndT h (by (try dsimp only); omega) | exact cndF h (by (try dsimp only); omega) | (exfalso; simp at h; omega) | simp at h | skip)) | refine kp ?_ ?_ | exact trivial | refine side2 ?_ | refine Or.inr ?_ | fail)
      (conv => whnf)
      refine called_pure (.a (frC Q)) rfl hO ?_
      repeat' ((conv => whnf); first | (refine Cnd.mk (fun h => ?_) (fun h => ?_) <;> (first | exact cndT h (by (try dsimp only); omega) | exact cndF h (by (try dsimp only); omega) | (exfalso; simp at h; omega) | simp at h | skip)) | refine kp ?_ ?_ | exact trivial | refine side2 ?_ | refine Or.inr ?_ | fail)
      (conv => whnf)
      intro g122 hg122
      repeat' ((conv => whnf); first | (refine Cnd.mk (fun h => ?_) (fun h => ?_) <;> (first | exact cndT h (by (try dsimp only); omega) | exact cndF h (by (try dsimp only); omega) | (exfalso; simp at h; omega) | simp at h | skip)) | refine kp ?_ ?_ | exact trivial | refine side2 ?_ | refine Or.inr ?_ | fail)
      (conv => whnf)
      refine called_at (.v (.bool true)) rfl (fun w' hh => by
        have h1 := ro_of_blk hh (id := 122) rfl 0 2 17 (Nat.le_of_eq (by kernel_rfl))
        have h2 := sums_any [Q, f] (some (g122, 0)) 2 w' (by
          refine cast (congrArg (Ro w' (some (g122, 0)) 2 17) ?_) h1
          kernel_rfl) (by show 2 ≤ _; omega) (big2 hbf bO)
        exact h2) ?_
      repeat' ((conv => whnf); first | refine walk (Tryz.ok ..) ?_ | (refine Cnd.mk (fun h => ?_) (fun h => ?_) <;> (first | exact cndT h (by (try dsimp only); omega) | exact cndF h (by (try dsimp only); omega) | (exfalso; simp at h; omega) | simp at h | skip)) | refine kp ?_ ?_ | exact trivial | refine side2 ?_ | refine sideL2 ?_ | fail)
      refine ⟨i + 1, ⟨hi1, by omega⟩, ?_, ?_, rfl⟩
      all_goals ((repeat' (first | exact trivial | exact rfl | refine And.intro ?_ ?_)) <;> (try (conv => whnf)) <;> (try simp only [SV.real, SV.r2, SV.r1]))
    obtain rfl : i = l.length := by omega
    repeat' ((conv => whnf); first | refine walk (Tryz.ok ..) ?_ | (refine Cnd.mk (fun h => ?_) (fun h => ?_) <;> (first | exact cndT h (by (try dsimp only); omega) | exact cndF h (by (try dsimp only); omega) | (exfalso; simp at h; omega) | simp at h | skip)) | fail)
    exact done_pure rfl rfl rfl
  · kernel_rfl
end
section
open Go Sat Go.RowKit Go.PlainAid
theorem fracSmall_any (w : World) (hw : Wf w) :
    Calls Tryz.prog 4 #[] w fun e w' => e = .returned (.bool true) ∧ Below w.heap.size w w' :=
  fsmall_any great_any texts_any w hw
end
end Go.Proofs.YtmekcdjaafegaaaGreatDoor
