/-
  The law FracSums, walked.
-/
import Derived.Test.YtmekcdjaafegaaaGreatDoorN22
import Derived.Test.YtmekcdjaafegaaaGreatDoorRF
import Derived.Test.YtmekcdjaafegaaaGreatDoorLQ0
namespace Go.Proofs.YtmekcdjaafegaaaGreatDoor
open Go Sat Go.RowKit Go.PlainAid
set_option linter.unusedSimpArgs false
set_option linter.unusedVariables false
theorem frL_take {l : List Fr} {k : Nat} {f : Fr} (h : l[k]? = some f) : frL (l.take (k + 1)) = frL (l.take k) ++ frW f := by
  rw [List.take_add_one, h]
  unfold frL
  rw [List.flatMap_append]
  simp
theorem frW_all (f : Fr) : allV (frW f) = true := allV_of fun u hu => by
  unfold frW frC at hu
  simp only [List.map_cons, List.map_append, List.map_map, List.mem_cons, List.mem_append, List.mem_map] at hu
  rcases hu with rfl | ⟨a, ha, rfl⟩ | ⟨a, ha, rfl⟩
  · rfl
  · simp only [us, List.mem_map] at ha; obtain ⟨b, _, rfl⟩ := ha; rfl
  · simp only [us, List.mem_map] at ha; obtain ⟨b, _, rfl⟩ := ha; rfl
theorem frL_all (l : List Fr) : allV (frL l) = true := allV_of fun u hu => by
  unfold frL at hu
  obtain ⟨f, _, h⟩ := List.mem_flatMap.1 hu
  exact allV_mem (frW_all f) u h
theorem fitE_big (p : Fr × Int) (h : ∃ neg n d, p = fitF neg n d) : Big p.1 := by
  obtain ⟨neg, n, d, rfl⟩ := h
  exact ⟨(fitF_small _ _ _).1, (fitF_small _ _ _).2⟩
theorem sumF_big (X : Fr) (l : List Fr) (h : Big X) : Big (sumF X l).1 := by
  induction l generalizing X with
  | nil => exact h
  | cons f l ih =>
    rw [sumF_cons]
    split
    · exact ih _ (addF_big X f)
    · exact ⟨by show 0 < big; decide, by show 0 < big; decide⟩
theorem sumE_big (l : List Fr) : Big (sumE l).1 := by
  unfold sumE
  split
  · exact sumF_big _ _ ⟨(fitF_small _ _ _).1, (fitF_small _ _ _).2⟩
  · exact ⟨by decide, by decide⟩
set_option maxRecDepth 100000 in
set_option maxHeartbeats 8000000 in
theorem sums_any (l : List Fr) (A : Option (Nat × Nat)) (cap : Nat) (w : World) (hA : Ro w A l.length 17 (frL l)) (hl : l.length ≤ 4611686018427387903) (hb : ∀ f ∈ l, Big f) :
    Calls Tryz.prog 9 #[.slice (adr A) l.length cap] w fun e w' => e = .returned (.bool true) ∧ Below w.heap.size w w' := by
  refine calls_sat (cx := Tryz.cx 59 [] [] [] w) (Tryz.ok ..) Tryz.func9 rfl [.o 300 A l.length cap] rfl (by show 1 ≤ 59; omega) [(300, .ro A l.length 17 (frL l))] (holds_ros rfl rfl ⟨hA, trivial⟩) ?_
  by_cases h20 : 20 < l.length
  · repeat' ((conv => whnf); first | refine walk (Tryz.ok ..) ?_ | (refine Cnd.mk (fun h => ?_) (fun h => ?_) <;> (first | exact cndT h (by (try dsimp only); omega) | exact cndF h (by (try dsimp only); omega) | (exfalso; simp at h; omega) | simp at h | skip)) | fail)
    exact done_pure rfl rfl rfl
  repeat' ((conv => whnf); first | refine walk (Tryz.ok ..) ?_ | (refine Cnd.mk (fun h => ?_) (fun h => ?_) <;> (first | exact cndT h (by (try dsimp only); omega) | exact cndF h (by (try dsimp only); omega) | (exfalso; simp at h; omega) | simp at h | skip)) | fail)
  refine sat_loop (Tryz.ok ..) (α := Nat × Option (Nat × Nat) × Nat) (fun s => ([(0, .yes, .o 300 A l.length cap), (3, .yes, .o 24 s.2.1 s.1 s.2.2), (15, .yes, .o 300 A l.length cap), (16, .yes, .v (.int .i64 l.length)), (17, .yes, .v (.int .i64 s.1))], [(24, .row s.2.1 37 17 s.1 s.2.2 (frL (l.take s.1))), (300, .ro A l.length 17 (frL l))]))
    (fun s => s.1 ≤ l.length) (fun s => l.length - s.1) (fun _ => rfl) ?_ ?_
  · refine ⟨(0, none, 0), Nat.zero_le _, ?_, ?_, rfl⟩
    all_goals ((repeat' (first | exact trivial | exact rfl | refine And.intro ?_ ?_)) <;> (try (conv => whnf)) <;> (try simp only [SV.real, SV.r2, SV.r1]))
  rintro ⟨k, B, cB⟩ hk
  dsimp only at hk
  have hfl := frL_len l
  by_cases hk1 : k < l.length
  · obtain ⟨f, hf⟩ : ∃ a, l[k]? = some a := ⟨l[k], List.getElem?_eq_getElem hk1⟩
    have l17 := frC_len f
    have hnx := frL_take hf
    repeat' ((conv => whnf); first | refine walk (Tryz.ok ..) ?_ | (refine Cnd.mk (fun h => ?_) (fun h => ?_) <;> (first | exact cndT h (by (try dsimp only); omega) | exact cndF h (by (try dsimp only); omega) | (exfalso; simp at h; omega) | simp at h | skip)) | refine side2 ?_ | refine xi _ (fr_cells hf rfl) ?_ | fail)
    (conv => whnf)
    intro g5 hg5
    rw [frW_v]
    repeat' ((conv => whnf); first | refine walk (Tryz.ok ..) ?_ | refine side2 ?_ | fail)
    (conv => whnf)
    intro g23 hg23
    repeat' ((conv => whnf); first | refine side2 ?_ | refine Or.inr ?_ | fail)
    intro A2 cap2
    repeat' ((conv => whnf); first | refine walk (Tryz.ok ..) ?_ | refine sideL2 ?_ | fail)
    refine ⟨(k + 1, A2, cap2), ⟨hk1, by dsimp only; omega⟩, ?_, ?_, rfl⟩
    · ((repeat' (first | exact trivial | exact rfl | refine And.intro ?_ ?_)) <;> (try (conv => whnf)) <;> (try simp only [SV.real, SV.r2, SV.r1]))
    · dsimp only
      rw [hnx]
      ((repeat' (first | exact trivial | exact rfl | refine And.intro ?_ ?_)) <;> (try (conv => whnf)) <;> (try simp only [SV.real, SV.r2, SV.r1]))
  obtain rfl : k = l.length := by omega
  rw [List.take_length]
  have hall : allV (List.take (l.length * 17) (frL l)) = true := by
    rw [List.take_of_length_le (by rw [hfl]; exact Nat.le_refl _)]
    exact frL_all l
  have hfull : List.take (l.length * 17) (frL l) = frL l := List.take_of_length_le (by rw [hfl]; exact Nat.le_refl _)
  repeat' ((conv => whnf); first | refine walk (Tryz.ok ..) ?_ | (refine Cnd.mk (fun h => ?_) (fun h => ?_) <;> (first | exact cndT h (by (try dsimp only); omega) | exact cndF h (by (try dsimp only); omega) | (exfalso; simp at h; omega) | simp at h | skip)) | fail)
  (conv => whnf)
  intro g26 hg26
  repeat' ((conv => whnf); first | refine side2 ?_ | fail)
  (conv => whnf)
  intro A2 cap2
  rw [hfull]
  repeat' ((conv => whnf); first | refine walk (Tryz.ok ..) ?_ | fail)
  rw [Nat.zero_add]
  have hlb : l.length ≤ 1000000 := by omega
  have hS := fun A cap w h => sum_any l A cap w h hlb hb
  have hT := fun A cap w h => rSum_any l A cap w h hlb hb
  have hbg := sumE_big l
  obtain ⟨r, er⟩ : ∃ r, r = sumE l := ⟨_, rfl⟩
  rw [← er] at hS hT hbg
  have lr := frC_len r.1
  refine called_at (.t [.a (frC r.1), .v (.int .i64 r.2)]) rfl (fun w' hh => by exact hS A2 cap2 w' (ro_of_row hh (id := 26) rfl)) ?_
  skip
  (conv => whnf)
  intro g7 hg7
  repeat' ((conv => whnf); first | refine walk (Tryz.ok ..) ?_ | refine side2 ?_ | fail)
  refine called_at (.t [.a (frC r.1), .v (.int .i64 r.2)]) rfl (fun w' hh => by exact hT B cB w' (ro_of_row hh (id := 24) rfl)) ?_
  skip
  (conv => whnf)
  intro g9 hg9
  repeat' ((conv => whnf); first | refine walk (Tryz.ok ..) ?_ | refine side2 ?_ | fail)
  refine sat_loop (Tryz.ok ..) (α := Nat) (fun k => ([(0, .yes, .o 300 A l.length cap), (6, .yes, .o 26 A2 l.length cap2), (7, .yes, .p 7 g7 0 0), (8, .yes, .v (.int .i64 r.2)), (9, .yes, .p 9 g9 0 0), (10, .yes, .v (.int .i64 r.2)), (40, .yes, .v (.int .i64 l.length)), (41, .yes, .v (.int .i64 k))], [(7, .blk g7 28 (frC r.1)), (9, .blk g9 37 (frC r.1)), (26, .row A2 28 17 l.length cap2 (frL l)), (300, .ro A l.length 17 (frL l))]))
    (fun k => k ≤ l.length) (fun k => l.length - k) (fun _ => rfl) ?_ ?_
  · refine ⟨0, Nat.zero_le _, ?_, ?_, rfl⟩
    all_goals ((repeat' (first | exact trivial | exact rfl | refine And.intro ?_ ?_)) <;> (try (conv => whnf)) <;> (try simp only [SV.real, SV.r2, SV.r1]))
  intro k hk
  by_cases hk1 : k < l.length
  · obtain ⟨f, hf⟩ : ∃ a, l[k]? = some a := ⟨l[k], List.getElem?_eq_getElem hk1⟩
    have hbf := hb f (List.mem_of_getElem? hf)
    have l17 := frC_len f
    have heq : ∀ w, (Op.equal 28 (SV.a (List.map SV.v (frW f))).real (SV.a (List.map SV.v (frW f))).real).run Tryz.prog w = .ok true w := fun w => by rw [frW_v]; exact eq_own f hbf w
    repeat' ((conv => whnf); first | refine walk (Tryz.ok ..) ?_ | (refine Cnd.mk (fun h => ?_) (fun h => ?_) <;> (first | exact cndT h (by (try dsimp only); omega) | exact cndF h (by (try dsimp only); omega) | (exfalso; simp at h; omega) | simp at h | skip)) | refine side2 ?_ | refine sideL2 ?_ | refine xi _ (fr_cells hf rfl) ?_ | fail)
    refine eqAgg_neq true eqgFr1 heq ?_
    repeat' ((conv => whnf); first | refine walk (Tryz.ok ..) ?_ | (refine Cnd.mk (fun h => ?_) (fun h => ?_) <;> (first | exact cndT h (by (try dsimp only); omega) | exact cndF h (by (try dsimp only); omega) | (exfalso; simp at h; omega) | simp at h | skip)) | refine sideL2 ?_ | fail)
    refine ⟨k + 1, ⟨hk1, by omega⟩, ?_, ?_, rfl⟩
    all_goals ((repeat' (first | exact trivial | exact rfl | refine And.intro ?_ ?_)) <;> (try (conv => whnf)) <;> (try simp only [SV.real, SV.r2, SV.r1]))
  obtain rfl : k = l.length := by omega
  repeat' ((conv => whnf); first | refine walk (Tryz.ok ..) ?_ | (refine Cnd.mk (fun h => ?_) (fun h => ?_) <;> (first | exact cndT h (by (try dsimp only); omega) | exact cndF h (by (try dsimp only); omega) | (exfalso; simp at h; omega) | simp at h | skip)) | refine side2 ?_ | fail)
  refine called_pure (.v (.bool true)) rfl (fun w' => by exact pair_same r.1 r.2 w' hbg) ?_
  repeat' ((conv => whnf); first | refine walk (Tryz.ok ..) ?_ | fail)
  exact done_pure rfl rfl rfl
end Go.Proofs.YtmekcdjaafegaaaGreatDoor
