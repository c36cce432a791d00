/-
  The examples of the chapter, walked.
-/
import Derived.Test.YtomhfakkebaciaaH15
set_option linter.unusedSimpArgs false
set_option linter.unusedVariables false
namespace Go.Proofs.Ytomhfakkebaciaa
open Go Sat Go.RowKit Go.PlainAid
theorem ratio_big' (a b : Int) : Big (ratioE a b).1 := by
  unfold ratioE
  split
  · exact zero_bg
  · exact fit_big _ _ _
theorem at_four (l : List HRow) (k : Int) : ∃ a b c d, (atH l k).1 = [a, b, c, d] ∧ ∀ x ∈ [a, b, c, d], Big x := by
  have hz : ∀ x ∈ [zeroF, zeroF, zeroF, zeroF], Big x := by
    intro x hx
    simp only [List.mem_cons, List.not_mem_nil, or_false] at hx
    rcases hx with rfl | rfl | rfl | rfl <;> exact zero_bg
  unfold atH
  split
  · split
    · split
      · refine ⟨_, _, _, _, rfl, fun x hx => ?_⟩
        simp only [List.mem_cons, List.not_mem_nil, or_false] at hx
        rcases hx with rfl | rfl | rfl | rfl <;> exact ratio_big' _ _
      · exact ⟨_, _, _, _, rfl, hz⟩
    · exact ⟨_, _, _, _, rfl, hz⟩
  · exact ⟨_, _, _, _, rfl, hz⟩
theorem line_big (a b p q : Int) (x : Fr) : Big (lineE a b x p q).1 := by
  unfold lineE
  dsimp only
  split
  · split
    · split
      · split
        · exact addE_big _ _
        · exact zero_bg
      · exact zero_bg
    · exact zero_bg
  · exact zero_bg
theorem weight_big (l : List HRow) (x : Fr) : Big (weightH l x).1 := by
  unfold weightH
  split
  · split
    · exact zero_bg
    · split
      · exact ofF_big _
      · split
        · exact zero_bg
        · split
          · exact line_big _ _ _ _ _
          · exact zero_bg
  · exact zero_bg
theorem eqV4_same {a b c d : Fr} (h : ∀ x ∈ [a, b, c, d], Big x) (w : World) :
    (Op.equal 45 (SV.a (v4C [a, b, c, d])).real (SV.a (v4C [a, b, c, d])).real).run Try.prog w = .ok true w := by
  have := eqV4_any h h w
  rw [show eqFr a a = true from eqFr_iff.2 rfl, show eqFr b b = true from eqFr_iff.2 rfl, show eqFr c c = true from eqFr_iff.2 rfl, show eqFr d d = true from eqFr_iff.2 rfl] at this
  exact this
theorem bl4o (a b c d : Fr) : put17 (put17 (put17 (put17 (v4C zero4) 0 (frC a)) 17 (frC b)) 34 (frC c)) 51 (frC d) = v4C [a, b, c, d] := by
  have s0 := v4_set zero4 0 a (by decide)
  have s1 := v4_set (zero4.set 0 a) 1 b (by show 1 < 4; decide)
  have s2 := v4_set ((zero4.set 0 a).set 1 b) 2 c (by show 2 < 4; decide)
  have s3 := v4_set (((zero4.set 0 a).set 1 b).set 2 c) 3 d (by show 3 < 4; decide)
  simp only [Nat.zero_mul, Nat.one_mul, Nat.reduceMul, Nat.reduceAdd] at s0 s1 s2 s3
  unfold put17
  rw [s0, s1, s2, s3]
  rfl
theorem tk68 (l : List Fr) (h : l.length = 4) : ((v4C l).drop 0).take 68 = v4C l := List.take_of_length_le (by rw [List.drop_zero, v4_len, h]; decide)
theorem eqV4_o {a b c d : Fr} (h : ∀ x ∈ [a, b, c, d], Big x) (w : World) :
    (Op.equal 45 (SV.a (((v4C [a, b, c, d]).drop 0).take 68)).real (SV.a (put17 (put17 (put17 (put17 (v4C zero4) 0 (frC a)) 17 (frC b)) 34 (frC c)) 51 (frC d))).real).run Try.prog w = .ok true w := by
  rw [tk68 _ rfl, bl4o]
  exact eqV4_same h w
theorem eqV4_l {a b c d : Fr} (h : ∀ x ∈ [a, b, c, d], Big x) (w : World) :
    (Op.equal 45 (SV.a (((v4C [a, b, c, d]).drop 0).take 68)).real (SV.a (put17 (put17 (put17 (put17 (v4C zero4) 0 (((v4C [a, b, c, d]).drop 0).take 17)) 17 (((v4C [a, b, c, d]).drop 17).take 17)) 34 (((v4C [a, b, c, d]).drop 34).take 17)) 51 (((v4C [a, b, c, d]).drop 51).take 17))).real).run Try.prog w = .ok true w := by
  rw [tk68 _ rfl, bl4]
  exact eqV4_same h w
theorem fr_same {X : Fr} (hX : Big X) (w : World) : (Op.equal 26 (SV.a (((frC X).drop 0).take 17)).real (SV.a (frC X)).real).run Try.prog w = .ok true w := by
  rw [tk1, eqFr1 X X hX hX w, show eqFr X X = true from eqFr_iff.2 rfl]
theorem fr_same2 {X : Fr} (hX : Big X) (w : World) : (Op.equal 26 (SV.a (((frC X).drop 0).take 17)).real (SV.a (((frC X).drop 0).take 17)).real).run Try.prog w = .ok true w := by
  rw [tk1, eqFr1 X X hX hX w, show eqFr X X = true from eqFr_iff.2 rfl]
theorem fr_same4 {X a b c : Fr} (hX : Big X) (w : World) : (Op.equal 26 (SV.a (((v4C [X, a, b, c]).drop 0).take 17)).real (SV.a (frC X)).real).run Try.prog w = .ok true w := by
  rw [show ((v4C [X, a, b, c]).drop 0).take 17 = frC X from v4_at (i := 0) rfl, eqFr1 X X hX hX w, show eqFr X X = true from eqFr_iff.2 rfl]
theorem ex_at1 : atH exH 1500000 = ([ofF 5000, ofF (-650), ofF 8500, ofF 250000], 0) := by kernel_rfl
theorem ex_at2 : ∃ b c d, atH exH 3000001 = ([(ratioE 15000003 2000).1, b, c, d], 0) ∧ ∀ x ∈ [(ratioE 15000003 2000).1, b, c, d], Big x := by
  obtain ⟨a, b, c, d, h, hb⟩ := at_four exH 3000001
  have h1 : (atH exH 3000001).1[0]? = some (ratioE 15000003 2000).1 := by kernel_rfl
  have h2 : (atH exH 3000001).2 = 0 := by kernel_rfl
  rw [h] at h1
  injection h1 with h1
  subst h1
  exact ⟨b, c, d, Prod.ext h h2, hb⟩
theorem ex_at3 : atH exH 999999 = (zero4, 6) := by kernel_rfl
theorem ex_w1 : weightH exH (ofF 5000) = (ofF 1500000, 0) := by kernel_rfl
theorem ex_w2 : weightH exH (ratioE 15000003 2000).1 = (ofF 3000001, 0) := by kernel_rfl
theorem ex_w3 : weightH exH (ofF 9001) = (zeroF, 6) := by kernel_rfl
theorem ex_range : rangeH exH = ((1000000, 4000000), 0) := by kernel_rfl
theorem i64 {n : Int} (h : -9223372036854775808 ≤ n ∧ n ≤ 9223372036854775807 := by decide) : I64 n := ⟨h.1, h.2⟩
theorem exR : rightH exH = true := by kernel_rfl
set_option maxRecDepth 100000 in
set_option maxHeartbeats 16000000 in
theorem hawake_any (w : World) : Calls Try.prog 10 #[] w fun e w' => e = .returned (.bool true) ∧ Below w.heap.size w w' := by
  have hX := ratio_big' 15000003 2000
  have h1 := fun w => hratio_any 15000003 2000 w i64 i64
  obtain ⟨b, c, d, e2, hb2⟩ := ex_at2
  have e4 := ex_w2
  obtain ⟨X, eX⟩ : ∃ X, X = (ratioE 15000003 2000).1 := ⟨_, rfl⟩
  rw [← eX] at hX h1 e2 hb2 e4
  have hA1 := fun A cap w hA => at_any exH 1500000 A cap w hA (by decide) i64
  have hA2 := fun A cap w hA => at_any exH 3000001 A cap w hA (by decide) i64
  have hA3 := fun A cap w hA => at_any exH 999999 A cap w hA (by decide) i64
  have hW1 := fun A cap w hA => weight_any exH (ofF 5000) A cap w hA (by decide) (ofF_big _)
  have hW2 := fun A cap w hA => weight_any exH X A cap w hA (by decide) hX
  have hW3 := fun A cap w hA => weight_any exH (ofF 9001) A cap w hA (by decide) (ofF_big _)
  have hR := fun A cap w hA => hRange_any exH A cap w hA (by decide)
  rw [ex_at1] at hA1
  rw [e2] at hA2
  rw [ex_at3] at hA3
  rw [ex_w1] at hW1
  rw [e4] at hW2
  rw [ex_w3] at hW3
  rw [ex_range] at hR
  refine calls_sat (cx := Try.cx 104 [] [] [] w) (Try.ok ..) Try.func10 rfl [] rfl (by show 0 ≤ 104; omega) [] (holds_nil (Nat.le_refl _)) ?_
  repeat' ((conv => whnf); first | refine walk (Try.ok ..) ?_ | (refine Cnd.mk (fun h => ?_) (fun h => ?_) <;> (first | exact cndT h (by (try dsimp only); omega) | exact cndF h (by (try dsimp only); omega) | (exfalso; simp at h; omega) | simp at h | skip)) | refine kp ?_ ?_ | refine tw ?_ ?_ | exact trivial | refine side2 ?_ | refine sideL2 ?_ | refine Or.inr ?_ | refine sat_drawH (Try.ok ..) (by kernel_rfl) ?_ | refine xi _ (And.intro rfl rfl) ?_ | refine xi _ (fun _ => And.intro rfl rfl) ?_ | refine xi _ rfl ?_)
  (conv => whnf)
  refine called_row 17 (xs := rwL exH) (m := 3) (fun v => v) (fun A cap => .o 17 A 3 cap) (fun _ _ => rfl) (fun w' hh => by exact example_any w') ?_
  intro A17 c17
  repeat' ((conv => whnf); first | refine walk (Try.ok ..) ?_ | (refine Cnd.mk (fun h => ?_) (fun h => ?_) <;> (first | exact cndT h (by (try dsimp only); omega) | exact cndF h (by (try dsimp only); omega) | (exfalso; simp at h; omega) | simp at h | skip)) | refine kp ?_ ?_ | refine tw ?_ ?_ | exact trivial | refine side2 ?_ | refine sideL2 ?_ | refine Or.inr ?_ | refine sat_drawH (Try.ok ..) (by kernel_rfl) ?_ | refine xi _ (And.intro rfl rfl) ?_ | refine xi _ (fun _ => And.intro rfl rfl) ?_ | refine xi _ rfl ?_)
  (conv => whnf)
  refine called_at (.t [.a (v4C [ofF 5000, ofF (-650), ofF 8500, ofF 250000]), .v (.int .i64 0)]) rfl (fun w' hh => by exact hA1 _ _ w' (ro_of_row hh (id := 17) rfl)) ?_
  repeat' ((conv => whnf); first | refine walk (Try.ok ..) ?_ | (refine Cnd.mk (fun h => ?_) (fun h => ?_) <;> (first | exact cndT h (by (try dsimp only); omega) | exact cndF h (by (try dsimp only); omega) | (exfalso; simp at h; omega) | simp at h | skip)) | refine kp ?_ ?_ | refine tw ?_ ?_ | exact trivial | refine side2 ?_ | refine sideL2 ?_ | refine Or.inr ?_ | refine sat_drawH (Try.ok ..) (by kernel_rfl) ?_ | refine xi _ (And.intro rfl rfl) ?_ | refine xi _ (fun _ => And.intro rfl rfl) ?_ | refine xi _ rfl ?_)
  (conv => whnf)
  intro g1 hg1
  repeat' ((conv => whnf); first | refine walk (Try.ok ..) ?_ | (refine Cnd.mk (fun h => ?_) (fun h => ?_) <;> (first | exact cndT h (by (try dsimp only); omega) | exact cndF h (by (try dsimp only); omega) | (exfalso; simp at h; omega) | simp at h | skip)) | refine kp ?_ ?_ | refine tw ?_ ?_ | exact trivial | refine side2 ?_ | refine sideL2 ?_ | refine Or.inr ?_ | refine sat_drawH (Try.ok ..) (by kernel_rfl) ?_ | refine xi _ (And.intro rfl rfl) ?_ | refine xi _ (fun _ => And.intro rfl rfl) ?_ | refine xi _ rfl ?_)
  (conv => whnf)
  refine called_row 22 (xs := rwL exH) (m := 3) (fun v => v) (fun A cap => .o 22 A 3 cap) (fun _ _ => rfl) (fun w' hh => by exact example_any w') ?_
  intro A22 c22
  repeat' ((conv => whnf); first | refine walk (Try.ok ..) ?_ | (refine Cnd.mk (fun h => ?_) (fun h => ?_) <;> (first | exact cndT h (by (try dsimp only); omega) | exact cndF h (by (try dsimp only); omega) | (exfalso; simp at h; omega) | simp at h | skip)) | refine kp ?_ ?_ | refine tw ?_ ?_ | exact trivial | refine side2 ?_ | refine sideL2 ?_ | refine Or.inr ?_ | refine sat_drawH (Try.ok ..) (by kernel_rfl) ?_ | refine xi _ (And.intro rfl rfl) ?_ | refine xi _ (fun _ => And.intro rfl rfl) ?_ | refine xi _ rfl ?_)
  (conv => whnf)
  refine called_at (.t [.a (v4C [X, b, c, d]), .v (.int .i64 0)]) rfl (fun w' hh => by exact hA2 _ _ w' (ro_of_row hh (id := 22) rfl)) ?_
  repeat' ((conv => whnf); first | refine walk (Try.ok ..) ?_ | (refine Cnd.mk (fun h => ?_) (fun h => ?_) <;> (first | exact cndT h (by (try dsimp only); omega) | exact cndF h (by (try dsimp only); omega) | (exfalso; simp at h; omega) | simp at h | skip)) | refine kp ?_ ?_ | refine tw ?_ ?_ | exact trivial | refine side2 ?_ | refine sideL2 ?_ | refine Or.inr ?_ | refine sat_drawH (Try.ok ..) (by kernel_rfl) ?_ | refine xi _ (And.intro rfl rfl) ?_ | refine xi _ (fun _ => And.intro rfl rfl) ?_ | refine xi _ rfl ?_)
  (conv => whnf)
  intro g3 hg3
  repeat' ((conv => whnf); first | refine walk (Try.ok ..) ?_ | (refine Cnd.mk (fun h => ?_) (fun h => ?_) <;> (first | exact cndT h (by (try dsimp only); omega) | exact cndF h (by (try dsimp only); omega) | (exfalso; simp at h; omega) | simp at h | skip)) | refine kp ?_ ?_ | refine tw ?_ ?_ | exact trivial | refine side2 ?_ | refine sideL2 ?_ | refine Or.inr ?_ | refine sat_drawH (Try.ok ..) (by kernel_rfl) ?_ | refine xi _ (And.intro rfl rfl) ?_ | refine xi _ (fun _ => And.intro rfl rfl) ?_ | refine xi _ rfl ?_)
  (conv => whnf)
  refine called_row 27 (xs := rwL exH) (m := 3) (fun v => v) (fun A cap => .o 27 A 3 cap) (fun _ _ => rfl) (fun w' hh => by exact example_any w') ?_
  intro A27 c27
  repeat' ((conv => whnf); first | refine walk (Try.ok ..) ?_ | (refine Cnd.mk (fun h => ?_) (fun h => ?_) <;> (first | exact cndT h (by (try dsimp only); omega) | exact cndF h (by (try dsimp only); omega) | (exfalso; simp at h; omega) | simp at h | skip)) | refine kp ?_ ?_ | refine tw ?_ ?_ | exact trivial | refine side2 ?_ | refine sideL2 ?_ | refine Or.inr ?_ | refine sat_drawH (Try.ok ..) (by kernel_rfl) ?_ | refine xi _ (And.intro rfl rfl) ?_ | refine xi _ (fun _ => And.intro rfl rfl) ?_ | refine xi _ rfl ?_)
  (conv => whnf)
  refine called_at (.t [.a (v4C zero4), .v (.int .i64 6)]) rfl (fun w' hh => by exact hA3 _ _ w' (ro_of_row hh (id := 27) rfl)) ?_
  repeat' ((conv => whnf); first | refine walk (Try.ok ..) ?_ | (refine Cnd.mk (fun h => ?_) (fun h => ?_) <;> (first | exact cndT h (by (try dsimp only); omega) | exact cndF h (by (try dsimp only); omega) | (exfalso; simp at h; omega) | simp at h | skip)) | refine kp ?_ ?_ | refine tw ?_ ?_ | exact trivial | refine side2 ?_ | refine sideL2 ?_ | refine Or.inr ?_ | refine sat_drawH (Try.ok ..) (by kernel_rfl) ?_ | refine xi _ (And.intro rfl rfl) ?_ | refine xi _ (fun _ => And.intro rfl rfl) ?_ | refine xi _ rfl ?_)
  (conv => whnf)
  intro g5 hg5
  repeat' ((conv => whnf); first | refine walk (Try.ok ..) ?_ | (refine Cnd.mk (fun h => ?_) (fun h => ?_) <;> (first | exact cndT h (by (try dsimp only); omega) | exact cndF h (by (try dsimp only); omega) | (exfalso; simp at h; omega) | simp at h | skip)) | refine kp ?_ ?_ | refine tw ?_ ?_ | exact trivial | refine side2 ?_ | refine sideL2 ?_ | refine Or.inr ?_ | refine sat_drawH (Try.ok ..) (by kernel_rfl) ?_ | refine xi _ (And.intro rfl rfl) ?_ | refine xi _ (fun _ => And.intro rfl rfl) ?_ | refine xi _ rfl ?_)
  (conv => whnf)
  refine called_row 32 (xs := rwL exH) (m := 3) (fun v => v) (fun A cap => .o 32 A 3 cap) (fun _ _ => rfl) (fun w' hh => by exact example_any w') ?_
  intro A32 c32
  repeat' ((conv => whnf); first | refine walk (Try.ok ..) ?_ | (refine Cnd.mk (fun h => ?_) (fun h => ?_) <;> (first | exact cndT h (by (try dsimp only); omega) | exact cndF h (by (try dsimp only); omega) | (exfalso; simp at h; omega) | simp at h | skip)) | refine kp ?_ ?_ | refine tw ?_ ?_ | exact trivial | refine side2 ?_ | refine sideL2 ?_ | refine Or.inr ?_ | refine sat_drawH (Try.ok ..) (by kernel_rfl) ?_ | refine xi _ (And.intro rfl rfl) ?_ | refine xi _ (fun _ => And.intro rfl rfl) ?_ | refine xi _ rfl ?_)
  (conv => whnf)
  refine called_pure (.a (frC (ofF 5000))) rfl (fun w' => by exact of_frac 5000 w' i64) ?_
  repeat' ((conv => whnf); first | refine walk (Try.ok ..) ?_ | (refine Cnd.mk (fun h => ?_) (fun h => ?_) <;> (first | exact cndT h (by (try dsimp only); omega) | exact cndF h (by (try dsimp only); omega) | (exfalso; simp at h; omega) | simp at h | skip)) | refine kp ?_ ?_ | refine tw ?_ ?_ | exact trivial | refine side2 ?_ | refine sideL2 ?_ | refine Or.inr ?_ | refine sat_drawH (Try.ok ..) (by kernel_rfl) ?_ | refine xi _ (And.intro rfl rfl) ?_ | refine xi _ (fun _ => And.intro rfl rfl) ?_ | refine xi _ rfl ?_)
  refine called_at (.t [.a (frC (ofF 1500000)), .v (.int .i64 0)]) rfl (fun w' hh => by exact hW1 _ _ w' (ro_of_row hh (id := 32) rfl)) ?_
  repeat' ((conv => whnf); first | refine walk (Try.ok ..) ?_ | (refine Cnd.mk (fun h => ?_) (fun h => ?_) <;> (first | exact cndT h (by (try dsimp only); omega) | exact cndF h (by (try dsimp only); omega) | (exfalso; simp at h; omega) | simp at h | skip)) | refine kp ?_ ?_ | refine tw ?_ ?_ | exact trivial | refine side2 ?_ | refine sideL2 ?_ | refine Or.inr ?_ | refine sat_drawH (Try.ok ..) (by kernel_rfl) ?_ | refine xi _ (And.intro rfl rfl) ?_ | refine xi _ (fun _ => And.intro rfl rfl) ?_ | refine xi _ rfl ?_)
  (conv => whnf)
  intro g7 hg7
  repeat' ((conv => whnf); first | refine walk (Try.ok ..) ?_ | (refine Cnd.mk (fun h => ?_) (fun h => ?_) <;> (first | exact cndT h (by (try dsimp only); omega) | exact cndF h (by (try dsimp only); omega) | (exfalso; simp at h; omega) | simp at h | skip)) | refine kp ?_ ?_ | refine tw ?_ ?_ | exact trivial | refine side2 ?_ | refine sideL2 ?_ | refine Or.inr ?_ | refine sat_drawH (Try.ok ..) (by kernel_rfl) ?_ | refine xi _ (And.intro rfl rfl) ?_ | refine xi _ (fun _ => And.intro rfl rfl) ?_ | refine xi _ rfl ?_)
  (conv => whnf)
  refine called_row 38 (xs := rwL exH) (m := 3) (fun v => v) (fun A cap => .o 38 A 3 cap) (fun _ _ => rfl) (fun w' hh => by exact example_any w') ?_
  intro A38 c38
  repeat' ((conv => whnf); first | refine walk (Try.ok ..) ?_ | (refine Cnd.mk (fun h => ?_) (fun h => ?_) <;> (first | exact cndT h (by (try dsimp only); omega) | exact cndF h (by (try dsimp only); omega) | (exfalso; simp at h; omega) | simp at h | skip)) | refine kp ?_ ?_ | refine tw ?_ ?_ | exact trivial | refine side2 ?_ | refine sideL2 ?_ | refine Or.inr ?_ | refine sat_drawH (Try.ok ..) (by kernel_rfl) ?_ | refine xi _ (And.intro rfl rfl) ?_ | refine xi _ (fun _ => And.intro rfl rfl) ?_ | refine xi _ rfl ?_)
  (conv => whnf)
  refine called_pure (.a (frC X)) rfl (fun w' => by exact h1 w') ?_
  repeat' ((conv => whnf); first | refine walk (Try.ok ..) ?_ | (refine Cnd.mk (fun h => ?_) (fun h => ?_) <;> (first | exact cndT h (by (try dsimp only); omega) | exact cndF h (by (try dsimp only); omega) | (exfalso; simp at h; omega) | simp at h | skip)) | refine kp ?_ ?_ | refine tw ?_ ?_ | exact trivial | refine side2 ?_ | refine sideL2 ?_ | refine Or.inr ?_ | refine sat_drawH (Try.ok ..) (by kernel_rfl) ?_ | refine xi _ (And.intro rfl rfl) ?_ | refine xi _ (fun _ => And.intro rfl rfl) ?_ | refine xi _ rfl ?_)
  refine called_at (.t [.a (frC (ofF 3000001)), .v (.int .i64 0)]) rfl (fun w' hh => by exact hW2 _ _ w' (ro_of_row hh (id := 38) rfl)) ?_
  repeat' ((conv => whnf); first | refine walk (Try.ok ..) ?_ | (refine Cnd.mk (fun h => ?_) (fun h => ?_) <;> (first | exact cndT h (by (try dsimp only); omega) | exact cndF h (by (try dsimp only); omega) | (exfalso; simp at h; omega) | simp at h | skip)) | refine kp ?_ ?_ | refine tw ?_ ?_ | exact trivial | refine side2 ?_ | refine sideL2 ?_ | refine Or.inr ?_ | refine sat_drawH (Try.ok ..) (by kernel_rfl) ?_ | refine xi _ (And.intro rfl rfl) ?_ | refine xi _ (fun _ => And.intro rfl rfl) ?_ | refine xi _ rfl ?_)
  (conv => whnf)
  intro g9 hg9
  repeat' ((conv => whnf); first | refine walk (Try.ok ..) ?_ | (refine Cnd.mk (fun h => ?_) (fun h => ?_) <;> (first | exact cndT h (by (try dsimp only); omega) | exact cndF h (by (try dsimp only); omega) | (exfalso; simp at h; omega) | simp at h | skip)) | refine kp ?_ ?_ | refine tw ?_ ?_ | exact trivial | refine side2 ?_ | refine sideL2 ?_ | refine Or.inr ?_ | refine sat_drawH (Try.ok ..) (by kernel_rfl) ?_ | refine xi _ (And.intro rfl rfl) ?_ | refine xi _ (fun _ => And.intro rfl rfl) ?_ | refine xi _ rfl ?_)
  (conv => whnf)
  refine called_row 44 (xs := rwL exH) (m := 3) (fun v => v) (fun A cap => .o 44 A 3 cap) (fun _ _ => rfl) (fun w' hh => by exact example_any w') ?_
  intro A44 c44
  repeat' ((conv => whnf); first | refine walk (Try.ok ..) ?_ | (refine Cnd.mk (fun h => ?_) (fun h => ?_) <;> (first | exact cndT h (by (try dsimp only); omega) | exact cndF h (by (try dsimp only); omega) | (exfalso; simp at h; omega) | simp at h | skip)) | refine kp ?_ ?_ | refine tw ?_ ?_ | exact trivial | refine side2 ?_ | refine sideL2 ?_ | refine Or.inr ?_ | refine sat_drawH (Try.ok ..) (by kernel_rfl) ?_ | refine xi _ (And.intro rfl rfl) ?_ | refine xi _ (fun _ => And.intro rfl rfl) ?_ | refine xi _ rfl ?_)
  (conv => whnf)
  refine called_pure (.a (frC (ofF 9001))) rfl (fun w' => by exact of_frac 9001 w' i64) ?_
  repeat' ((conv => whnf); first | refine walk (Try.ok ..) ?_ | (refine Cnd.mk (fun h => ?_) (fun h => ?_) <;> (first | exact cndT h (by (try dsimp only); omega) | exact cndF h (by (try dsimp only); omega) | (exfalso; simp at h; omega) | simp at h | skip)) | refine kp ?_ ?_ | refine tw ?_ ?_ | exact trivial | refine side2 ?_ | refine sideL2 ?_ | refine Or.inr ?_ | refine sat_drawH (Try.ok ..) (by kernel_rfl) ?_ | refine xi _ (And.intro rfl rfl) ?_ | refine xi _ (fun _ => And.intro rfl rfl) ?_ | refine xi _ rfl ?_)
  refine called_at (.t [.a (frC zeroF), .v (.int .i64 6)]) rfl (fun w' hh => by exact hW3 _ _ w' (ro_of_row hh (id := 44) rfl)) ?_
  repeat' ((conv => whnf); first | refine walk (Try.ok ..) ?_ | (refine Cnd.mk (fun h => ?_) (fun h => ?_) <;> (first | exact cndT h (by (try dsimp only); omega) | exact cndF h (by (try dsimp only); omega) | (exfalso; simp at h; omega) | simp at h | skip)) | refine kp ?_ ?_ | refine tw ?_ ?_ | exact trivial | refine side2 ?_ | refine sideL2 ?_ | refine Or.inr ?_ | refine sat_drawH (Try.ok ..) (by kernel_rfl) ?_ | refine xi _ (And.intro rfl rfl) ?_ | refine xi _ (fun _ => And.intro rfl rfl) ?_ | refine xi _ rfl ?_)
  (conv => whnf)
  intro g11 hg11
  repeat' ((conv => whnf); first | refine walk (Try.ok ..) ?_ | (refine Cnd.mk (fun h => ?_) (fun h => ?_) <;> (first | exact cndT h (by (try dsimp only); omega) | exact cndF h (by (try dsimp only); omega) | (exfalso; simp at h; omega) | simp at h | skip)) | refine kp ?_ ?_ | refine tw ?_ ?_ | exact trivial | refine side2 ?_ | refine sideL2 ?_ | refine Or.inr ?_ | refine sat_drawH (Try.ok ..) (by kernel_rfl) ?_ | refine xi _ (And.intro rfl rfl) ?_ | refine xi _ (fun _ => And.intro rfl rfl) ?_ | refine xi _ rfl ?_)
  (conv => whnf)
  refine called_row 50 (xs := rwL exH) (m := 3) (fun v => v) (fun A cap => .o 50 A 3 cap) (fun _ _ => rfl) (fun w' hh => by exact example_any w') ?_
  intro A50 c50
  repeat' ((conv => whnf); first | refine walk (Try.ok ..) ?_ | (refine Cnd.mk (fun h => ?_) (fun h => ?_) <;> (first | exact cndT h (by (try dsimp only); omega) | exact cndF h (by (try dsimp only); omega) | (exfalso; simp at h; omega) | simp at h | skip)) | refine kp ?_ ?_ | refine tw ?_ ?_ | exact trivial | refine side2 ?_ | refine sideL2 ?_ | refine Or.inr ?_ | refine sat_drawH (Try.ok ..) (by kernel_rfl) ?_ | refine xi _ (And.intro rfl rfl) ?_ | refine xi _ (fun _ => And.intro rfl rfl) ?_ | refine xi _ rfl ?_)
  (conv => whnf)
  refine called_at (.t [.v (.int .i64 1000000), .v (.int .i64 4000000), .v (.int .i64 0)]) rfl (fun w' hh => by exact hR _ _ w' (ro_of_row hh (id := 50) rfl)) ?_
  repeat' ((conv => whnf); first | refine walk (Try.ok ..) ?_ | (refine Cnd.mk (fun h => ?_) (fun h => ?_) <;> (first | exact cndT h (by (try dsimp only); omega) | exact cndF h (by (try dsimp only); omega) | (exfalso; simp at h; omega) | simp at h | skip)) | refine kp ?_ ?_ | refine tw ?_ ?_ | exact trivial | refine side2 ?_ | refine sideL2 ?_ | refine Or.inr ?_ | refine sat_drawH (Try.ok ..) (by kernel_rfl) ?_ | refine xi _ (And.intro rfl rfl) ?_ | refine xi _ (fun _ => And.intro rfl rfl) ?_ | refine xi _ rfl ?_)
  refine calledQ_pure (.a (frC (ofF (5000)))) rfl (fun _ w' => by exact of_frac (5000) w' i64) ?_
  repeat' ((conv => whnf); first | refine walk (Try.ok ..) ?_ | (refine Cnd.mk (fun h => ?_) (fun h => ?_) <;> (first | exact cndT h (by (try dsimp only); omega) | exact cndF h (by (try dsimp only); omega) | (exfalso; simp at h; omega) | simp at h | skip)) | refine kp ?_ ?_ | refine tw ?_ ?_ | exact trivial | refine side2 ?_ | refine sideL2 ?_ | refine Or.inr ?_ | refine sat_drawH (Try.ok ..) (by kernel_rfl) ?_ | refine xi _ (And.intro rfl rfl) ?_ | refine xi _ (fun _ => And.intro rfl rfl) ?_ | refine xi _ rfl ?_)
  refine calledQ_pure (.a (frC (ofF (-650)))) rfl (fun _ w' => by exact of_frac (-650) w' i64) ?_
  repeat' ((conv => whnf); first | refine walk (Try.ok ..) ?_ | (refine Cnd.mk (fun h => ?_) (fun h => ?_) <;> (first | exact cndT h (by (try dsimp only); omega) | exact cndF h (by (try dsimp only); omega) | (exfalso; simp at h; omega) | simp at h | skip)) | refine kp ?_ ?_ | refine tw ?_ ?_ | exact trivial | refine side2 ?_ | refine sideL2 ?_ | refine Or.inr ?_ | refine sat_drawH (Try.ok ..) (by kernel_rfl) ?_ | refine xi _ (And.intro rfl rfl) ?_ | refine xi _ (fun _ => And.intro rfl rfl) ?_ | refine xi _ rfl ?_)
  refine calledQ_pure (.a (frC (ofF (8500)))) rfl (fun _ w' => by exact of_frac (8500) w' i64) ?_
  repeat' ((conv => whnf); first | refine walk (Try.ok ..) ?_ | (refine Cnd.mk (fun h => ?_) (fun h => ?_) <;> (first | exact cndT h (by (try dsimp only); omega) | exact cndF h (by (try dsimp only); omega) | (exfalso; simp at h; omega) | simp at h | skip)) | refine kp ?_ ?_ | refine tw ?_ ?_ | exact trivial | refine side2 ?_ | refine sideL2 ?_ | refine Or.inr ?_ | refine sat_drawH (Try.ok ..) (by kernel_rfl) ?_ | refine xi _ (And.intro rfl rfl) ?_ | refine xi _ (fun _ => And.intro rfl rfl) ?_ | refine xi _ rfl ?_)
  refine calledQ_pure (.a (frC (ofF (250000)))) rfl (fun _ w' => by exact of_frac (250000) w' i64) ?_
  repeat' ((conv => whnf); first | refine walk (Try.ok ..) ?_ | (refine Cnd.mk (fun h => ?_) (fun h => ?_) <;> (first | exact cndT h (by (try dsimp only); omega) | exact cndF h (by (try dsimp only); omega) | (exfalso; simp at h; omega) | simp at h | skip)) | refine kp ?_ ?_ | refine tw ?_ ?_ | exact trivial | refine side2 ?_ | refine sideL2 ?_ | refine Or.inr ?_ | refine sat_drawH (Try.ok ..) (by kernel_rfl) ?_ | refine xi _ (And.intro rfl rfl) ?_ | refine xi _ (fun _ => And.intro rfl rfl) ?_ | refine xi _ rfl ?_)
  refine eqAgg_eql true eqV4_g (fun w => by exact eqV4_o (fun x hx => by
    simp only [List.mem_cons, List.not_mem_nil, or_false] at hx
    rcases hx with rfl | rfl | rfl | rfl <;> exact ofF_big _) w) ?_
  repeat' ((conv => whnf); first | refine walk (Try.ok ..) ?_ | (refine Cnd.mk (fun h => ?_) (fun h => ?_) <;> (first | exact cndT h (by (try dsimp only); omega) | exact cndF h (by (try dsimp only); omega) | (exfalso; simp at h; omega) | simp at h | skip)) | refine kp ?_ ?_ | refine tw ?_ ?_ | exact trivial | refine side2 ?_ | refine sideL2 ?_ | refine Or.inr ?_ | refine sat_drawH (Try.ok ..) (by kernel_rfl) ?_ | refine xi _ (And.intro rfl rfl) ?_ | refine xi _ (fun _ => And.intro rfl rfl) ?_ | refine xi _ rfl ?_)
  refine calledQ_pure (.a (frC X)) rfl (fun _ w' => by exact h1 w') ?_
  repeat' ((conv => whnf); first | refine walk (Try.ok ..) ?_ | (refine Cnd.mk (fun h => ?_) (fun h => ?_) <;> (first | exact cndT h (by (try dsimp only); omega) | exact cndF h (by (try dsimp only); omega) | (exfalso; simp at h; omega) | simp at h | skip)) | refine kp ?_ ?_ | refine tw ?_ ?_ | exact trivial | refine side2 ?_ | refine sideL2 ?_ | refine Or.inr ?_ | refine sat_drawH (Try.ok ..) (by kernel_rfl) ?_ | refine xi _ (And.intro rfl rfl) ?_ | refine xi _ (fun _ => And.intro rfl rfl) ?_ | refine xi _ rfl ?_)
  refine eqAgg_eql true eqgFr1 (fun w => by exact fr_same4 hX w) ?_
  repeat' ((conv => whnf); first | refine walk (Try.ok ..) ?_ | (refine Cnd.mk (fun h => ?_) (fun h => ?_) <;> (first | exact cndT h (by (try dsimp only); omega) | exact cndF h (by (try dsimp only); omega) | (exfalso; simp at h; omega) | simp at h | skip)) | refine kp ?_ ?_ | refine tw ?_ ?_ | exact trivial | refine side2 ?_ | refine sideL2 ?_ | refine Or.inr ?_ | refine sat_drawH (Try.ok ..) (by kernel_rfl) ?_ | refine xi _ (And.intro rfl rfl) ?_ | refine xi _ (fun _ => And.intro rfl rfl) ?_ | refine xi _ rfl ?_)
  refine calledQ_pure (.a (frC (ofF (1500000)))) rfl (fun _ w' => by exact of_frac (1500000) w' i64) ?_
  repeat' ((conv => whnf); first | refine walk (Try.ok ..) ?_ | (refine Cnd.mk (fun h => ?_) (fun h => ?_) <;> (first | exact cndT h (by (try dsimp only); omega) | exact cndF h (by (try dsimp only); omega) | (exfalso; simp at h; omega) | simp at h | skip)) | refine kp ?_ ?_ | refine tw ?_ ?_ | exact trivial | refine side2 ?_ | refine sideL2 ?_ | refine Or.inr ?_ | refine sat_drawH (Try.ok ..) (by kernel_rfl) ?_ | refine xi _ (And.intro rfl rfl) ?_ | refine xi _ (fun _ => And.intro rfl rfl) ?_ | refine xi _ rfl ?_)
  refine eqAgg_eql true eqgFr1 (fun w => by exact fr_same (ofF_big _) w) ?_
  repeat' ((conv => whnf); first | refine walk (Try.ok ..) ?_ | (refine Cnd.mk (fun h => ?_) (fun h => ?_) <;> (first | exact cndT h (by (try dsimp only); omega) | exact cndF h (by (try dsimp only); omega) | (exfalso; simp at h; omega) | simp at h | skip)) | refine kp ?_ ?_ | refine tw ?_ ?_ | exact trivial | refine side2 ?_ | refine sideL2 ?_ | refine Or.inr ?_ | refine sat_drawH (Try.ok ..) (by kernel_rfl) ?_ | refine xi _ (And.intro rfl rfl) ?_ | refine xi _ (fun _ => And.intro rfl rfl) ?_ | refine xi _ rfl ?_)
  refine calledQ_pure (.a (frC (ofF (3000001)))) rfl (fun _ w' => by exact of_frac (3000001) w' i64) ?_
  repeat' ((conv => whnf); first | refine walk (Try.ok ..) ?_ | (refine Cnd.mk (fun h => ?_) (fun h => ?_) <;> (first | exact cndT h (by (try dsimp only); omega) | exact cndF h (by (try dsimp only); omega) | (exfalso; simp at h; omega) | simp at h | skip)) | refine kp ?_ ?_ | refine tw ?_ ?_ | exact trivial | refine side2 ?_ | refine sideL2 ?_ | refine Or.inr ?_ | refine sat_drawH (Try.ok ..) (by kernel_rfl) ?_ | refine xi _ (And.intro rfl rfl) ?_ | refine xi _ (fun _ => And.intro rfl rfl) ?_ | refine xi _ rfl ?_)
  refine eqAgg_eql true eqgFr1 (fun w => by exact fr_same (ofF_big _) w) ?_
  repeat' ((conv => whnf); first | refine walk (Try.ok ..) ?_ | (refine Cnd.mk (fun h => ?_) (fun h => ?_) <;> (first | exact cndT h (by (try dsimp only); omega) | exact cndF h (by (try dsimp only); omega) | (exfalso; simp at h; omega) | simp at h | skip)) | refine kp ?_ ?_ | refine tw ?_ ?_ | exact trivial | refine side2 ?_ | refine sideL2 ?_ | refine Or.inr ?_ | refine sat_drawH (Try.ok ..) (by kernel_rfl) ?_ | refine xi _ (And.intro rfl rfl) ?_ | refine xi _ (fun _ => And.intro rfl rfl) ?_ | refine xi _ rfl ?_)
  exact done_pure rfl rfl rfl
end Go.Proofs.Ytomhfakkebaciaa
