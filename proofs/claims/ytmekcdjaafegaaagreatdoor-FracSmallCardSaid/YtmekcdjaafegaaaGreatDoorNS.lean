/-
  The walks of the frac package: sums of several fractions.
-/
import Derived.Test.YtmekcdjaafegaaaGreatDoorN14
namespace Go.Proofs.YtmekcdjaafegaaaGreatDoor
open Go Sat Go.RowKit Go.PlainAid
set_option linter.unusedSimpArgs false
set_option linter.unusedVariables false
def frW (f : Fr) : List Value := (frC f).map SV.r1
def frL (l : List Fr) : List Value := l.flatMap frW
theorem frW_len (f : Fr) : (frW f).length = 17 := by unfold frW; rw [List.length_map, frC_len]
theorem frL_len (l : List Fr) : (frL l).length = l.length * 17 := by
  induction l with
  | nil => rfl
  | cons f l ih =>
    unfold frL at ih ⊢
    rw [List.flatMap_cons, List.length_append, ih, frW_len, List.length_cons]
    omega
theorem frL_at {l : List Fr} {k : Nat} {f : Fr} (h : l[k]? = some f) : ((frL l).drop (k * 17)).take 17 = frW f := by
  induction l generalizing k with
  | nil => simp at h
  | cons a l ih =>
    unfold frL at ih ⊢
    rw [List.flatMap_cons]
    cases k with
    | zero =>
      simp only [List.getElem?_cons_zero, Option.some.injEq] at h
      subst h
      rw [Nat.zero_mul, List.drop_zero, ← frW_len a, List.take_left]
    | succ k =>
      rw [List.getElem?_cons_succ] at h
      have e : (k + 1) * 17 = (frW a).length + k * 17 := by rw [frW_len]; omega
      rw [e, ← List.drop_drop, List.drop_left]
      exact ih h
theorem fr_cells {l : List Fr} {i : Int} {k : Nat} {f : Fr} (h : l[k]? = some f) (hi : i = k) : (frW f).length = 17 ∧ ∀ j, j < 17 → (frL l)[mulS i.toNat 17 + j]? = (frW f)[j]? := by
  refine ⟨frW_len f, fun j hj => ?_⟩
  rw [mulS_eq, hi, Int.toNat_natCast, ← frL_at h, List.getElem?_take_of_lt hj, List.getElem?_drop]
theorem frW_v (f : Fr) : List.map SV.v (frW f) = frC f := by
  unfold frW frC
  simp only [List.map_cons, List.map_append, List.map_map]
  rfl
theorem sumE_no {l : List Fr} (h : l.all rightF = false) : sumE l = (zeroF, 2) := by unfold sumE; rw [h]; rfl
theorem right_den {f : Fr} (h : rightF f = true) : 0 < f.den := by
  unfold rightF at h
  simp only [Bool.and_eq_true, decide_eq_true_eq] at h
  omega
theorem addF_big (X f : Fr) : Big (addF X f).1 := by
  unfold addF
  split
  · exact ⟨(fitF_small _ _ _).1, (fitF_small _ _ _).2⟩
  · split <;> exact ⟨(fitF_small _ _ _).1, (fitF_small _ _ _).2⟩
theorem addF_ok {X f : Fr} (hX : 0 < X.den) (hf : 0 < f.den) (h : (addF X f).2 = 0) : rightF (addF X f).1 = true := by
  have hd := Nat.mul_pos hX hf
  unfold addF at h ⊢
  split
  · rename_i h1
    rw [if_pos h1] at h
    exact (fitF_ok hd h).1
  · rename_i h1
    rw [if_neg h1] at h
    split
    · rename_i h2
      rw [if_pos h2] at h
      exact (fitF_ok hd h).1
    · rename_i h2
      rw [if_neg h2] at h
      exact (fitF_ok hd h).1
theorem sumF_cons (X f : Fr) (l : List Fr) : sumF X (f :: l) = if (addF X f).2 = 0 then sumF (addF X f).1 l else (zeroF, (addF X f).2) := rfl
set_option maxRecDepth 100000 in
set_option maxHeartbeats 8000000 in
theorem sum_any (l : List Fr) (A : Option (Nat × Nat)) (cap : Nat) (w : World) (hA : Ro w A l.length 17 (frL l)) (hl : l.length ≤ 1000000) (hb : ∀ f ∈ l, Big f) :
    Calls Tryz.prog 34 #[.slice (adr A) l.length cap] w fun e w' => e = .returned (.tuple #[frV (sumE l).1, .int .i64 (sumE l).2]) ∧ Below w.heap.size w w' := by
  refine calls_sat (cx := Tryz.cx 42 [] [] [] w) (Tryz.ok ..) Tryz.func34 rfl [.o 300 A l.length cap] rfl (by show 1 ≤ 42; omega) [(300, .ro A l.length 17 (frL l))] (holds_ros rfl rfl ⟨hA, trivial⟩) ?_
  repeat' ((conv => whnf); first | refine walk (Tryz.ok ..) ?_ | fail)
  intro g2 hg2
  repeat' ((conv => whnf); first | refine walk (Tryz.ok ..) ?_ | fail)
  refine sat_loop (Tryz.ok ..) (α := Nat) (fun k => ([(0, .yes, .o 300 A l.length cap), (2, .yes, .p 2 g2 0 0), (11, .yes, .o 300 A l.length cap), (12, .yes, .v (.int .i64 l.length)), (13, .yes, .v (.int .i64 k))], [(2, .blk g2 28 (frC zeroF)), (300, .ro A l.length 17 (frL l))]))
    (fun k => k ≤ l.length ∧ (l.take k).all rightF = true) (fun k => l.length - k) (fun _ => rfl) ?_ ?_
  · refine ⟨0, ⟨Nat.zero_le _, rfl⟩, ?_, ?_, rfl⟩
    all_goals ((repeat' (first | exact trivial | exact rfl | refine And.intro ?_ ?_)) <;> (try (conv => whnf)) <;> (try simp only [SV.real, SV.r2, SV.r1]))
  rintro k ⟨hk, hall⟩
  by_cases hk1 : k < l.length
  · obtain ⟨f, hf⟩ : ∃ a, l[k]? = some a := ⟨l[k], List.getElem?_eq_getElem hk1⟩
    have hbf := hb f (List.mem_of_getElem? hf)
    have hfl := frL_len l
    have l17 := frC_len f
    by_cases hr : rightF f = true
    case neg =>
      have hr2 : rightF f = false := by simpa using hr
      have hno : l.all rightF = false := by
        rw [Bool.eq_false_iff]
        intro h2
        exact hr (List.all_eq_true.1 h2 f (List.mem_of_getElem? hf))
      rw [sumE_no hno]
      repeat' ((conv => whnf); first | refine walk (Tryz.ok ..) ?_ | (refine Cnd.mk (fun h => ?_) (fun h => ?_) <;> (first | exact cndT h (by (try dsimp only); omega) | exact cndF h (by (try dsimp only); omega) | (exfalso; simp at h; omega) | simp at h | skip)) | refine side2 ?_ | refine xi _ (fr_cells hf rfl) ?_ | fail)
      (conv => whnf)
      intro g5 hg5
      rw [frW_v]
      repeat' ((conv => whnf); first | refine walk (Tryz.ok ..) ?_ | refine side2 ?_ | fail)
      refine called_pure (.v (.bool false)) rfl (fun w' => by rw [← hr2]; exact right_any f w' hbf) ?_
      repeat' ((conv => whnf); first | refine walk (Tryz.ok ..) ?_ | (refine Cnd.mk (fun h => ?_) (fun h => ?_) <;> (first | exact cndT h (by (try dsimp only); omega) | exact cndF h (by (try dsimp only); omega) | (exfalso; simp at h; omega) | simp at h | skip)) | refine side2 ?_ | fail)
      exact done_pure rfl rfl rfl
    repeat' ((conv => whnf); first | refine walk (Tryz.ok ..) ?_ | (refine Cnd.mk (fun h => ?_) (fun h => ?_) <;> (first | exact cndT h (by (try dsimp only); omega) | exact cndF h (by (try dsimp only); omega) | (exfalso; simp at h; omega) | simp at h | skip)) | refine side2 ?_ | refine xi _ (fr_cells hf rfl) ?_ | fail)
    (conv => whnf)
    intro g5 hg5
    rw [frW_v]
    repeat' ((conv => whnf); first | refine walk (Tryz.ok ..) ?_ | refine side2 ?_ | fail)
    refine called_pure (.v (.bool true)) rfl (fun w' => by rw [← hr]; exact right_any f w' hbf) ?_
    repeat' ((conv => whnf); first | refine walk (Tryz.ok ..) ?_ | (refine Cnd.mk (fun h => ?_) (fun h => ?_) <;> (first | exact cndT h (by (try dsimp only); omega) | exact cndF h (by (try dsimp only); omega) | (exfalso; simp at h; omega) | simp at h | skip)) | refine sideL2 ?_ | fail)
    refine ⟨k + 1, ⟨⟨hk1, ?_⟩, by omega⟩, ?_, ?_, rfl⟩
    · rw [List.take_add_one, hf, List.all_append, hall]
      simpa using hr
    all_goals ((repeat' (first | exact trivial | exact rfl | refine And.intro ?_ ?_)) <;> (try (conv => whnf)) <;> (try simp only [SV.real, SV.r2, SV.r1]))
  obtain rfl : k = l.length := by omega
  rw [List.take_length] at hall
  have hsE : sumE l = sumF (ofF 0) l := by unfold sumE; rw [if_pos hall]
  rw [hsE]
  have ho0 : rightF (ofF 0) = true := by kernel_rfl
  have hob : Big (ofF 0) := ⟨(fitF_small _ _ _).1, (fitF_small _ _ _).2⟩
  have hof := fun w => of_frac 0 w ⟨by decide, by decide⟩
  obtain ⟨O, eO⟩ : ∃ r, r = ofF 0 := ⟨_, rfl⟩
  rw [← eO] at ho0 hob hof ⊢
  have lO := frC_len O
  repeat' ((conv => whnf); first | refine walk (Tryz.ok ..) ?_ | (refine Cnd.mk (fun h => ?_) (fun h => ?_) <;> (first | exact cndT h (by (try dsimp only); omega) | exact cndF h (by (try dsimp only); omega) | (exfalso; simp at h; omega) | simp at h | skip)) | fail)
  refine called_pure (.a (frC O)) rfl hof ?_
  skip
  (conv => whnf)
  intro g6 hg6
  repeat' ((conv => whnf); first | refine walk (Tryz.ok ..) ?_ | refine side2 ?_ | fail)
  refine sat_loop (Tryz.ok ..) (α := Nat × Fr) (fun s => ([(2, .yes, .p 2 g2 0 0), (6, .yes, .p 6 g6 0 0), (23, .yes, .o 300 A l.length cap), (24, .yes, .v (.int .i64 l.length)), (25, .yes, .v (.int .i64 s.1))], [(2, .blk g2 28 (frC zeroF)), (6, .blk g6 28 (frC s.2)), (300, .ro A l.length 17 (frL l))]))
    (fun s => s.1 ≤ l.length ∧ rightF s.2 = true ∧ Big s.2 ∧ sumF O l = sumF s.2 (l.drop s.1)) (fun s => l.length - s.1) (fun _ => rfl) ?_ ?_
  · refine ⟨(0, O), ⟨Nat.zero_le _, ho0, hob, rfl⟩, ?_, ?_, rfl⟩
    all_goals ((repeat' (first | exact trivial | exact rfl | refine And.intro ?_ ?_)) <;> (try (conv => whnf)) <;> (try simp only [SV.real, SV.r2, SV.r1]))
  rintro ⟨k, X⟩ ⟨hk, hrX, hbX, hs⟩
  dsimp only at hk hrX hbX hs
  have lX := frC_len X
  by_cases hk1 : k < l.length
  · obtain ⟨f, hf⟩ : ∃ a, l[k]? = some a := ⟨l[k], List.getElem?_eq_getElem hk1⟩
    have hbf := hb f (List.mem_of_getElem? hf)
    have hrf := List.all_eq_true.1 hall f (List.mem_of_getElem? hf)
    have hfl := frL_len l
    have l17 := frC_len f
    have hdr : l.drop k = f :: l.drop (k + 1) := by
      rw [List.drop_eq_getElem_cons hk1]
      rw [List.getElem?_eq_getElem hk1] at hf
      injection hf with hf
      rw [hf]
    rw [hdr, sumF_cons] at hs
    have hadd := fun w => add_any X f w hbX hbf (right_den hrX) (right_den hrf)
    have hok := addF_ok (right_den hrX) (right_den hrf)
    have hbg := addF_big X f
    obtain ⟨r, er⟩ : ∃ r, r = addF X f := ⟨_, rfl⟩
    rw [← er] at hs hadd hok hbg
    have lr := frC_len r.1
    repeat' ((conv => whnf); first | refine walk (Tryz.ok ..) ?_ | (refine Cnd.mk (fun h => ?_) (fun h => ?_) <;> (first | exact cndT h (by (try dsimp only); omega) | exact cndF h (by (try dsimp only); omega) | (exfalso; simp at h; omega) | simp at h | skip)) | refine side2 ?_ | refine xi _ (fr_cells hf rfl) ?_ | fail)
    (conv => whnf)
    intro g8 hg8
    rw [frW_v]
    repeat' ((conv => whnf); first | refine walk (Tryz.ok ..) ?_ | refine side2 ?_ | fail)
    refine called_pure (.t [.a (frC r.1), .v (.int .i64 r.2)]) rfl (fun w' => by exact hadd w') ?_
    skip
    (conv => whnf)
    intro g9 hg9
    by_cases h0 : r.2 = 0
    · rw [if_pos h0] at hs
      repeat' ((conv => whnf); first | refine walk (Tryz.ok ..) ?_ | (refine Cnd.mk (fun h => ?_) (fun h => ?_) <;> (first | exact cndT h (by (try dsimp only); omega) | exact cndF h (by (try dsimp only); omega) | (exfalso; simp at h; omega) | simp at h | skip)) | refine side2 ?_ | refine sideL2 ?_ | fail)
      refine ⟨(k + 1, r.1), ⟨⟨hk1, hok h0, hbg, hs⟩, by dsimp only; omega⟩, ?_, ?_, rfl⟩
      all_goals ((repeat' (first | exact trivial | exact rfl | refine And.intro ?_ ?_)) <;> (try (conv => whnf)) <;> (try simp only [SV.real, SV.r2, SV.r1]))
    · rw [if_neg h0] at hs
      rw [hs]
      repeat' ((conv => whnf); first | refine walk (Tryz.ok ..) ?_ | (refine Cnd.mk (fun h => ?_) (fun h => ?_) <;> (first | exact cndT h (by (try dsimp only); omega) | exact cndF h (by (try dsimp only); omega) | (exfalso; simp at h; omega) | simp at h | skip)) | refine side2 ?_ | fail)
      exact done_pure rfl rfl (congrArg (fun l => (SV.t [.a l, .v (.int .i64 r.2)]).real) (show _ = frC zeroF from rfl))
  obtain rfl : k = l.length := by omega
  rw [List.drop_length] at hs
  rw [hs]
  repeat' ((conv => whnf); first | refine walk (Tryz.ok ..) ?_ | (refine Cnd.mk (fun h => ?_) (fun h => ?_) <;> (first | exact cndT h (by (try dsimp only); omega) | exact cndF h (by (try dsimp only); omega) | (exfalso; simp at h; omega) | simp at h | skip)) | refine side2 ?_ | fail)
  exact done_pure rfl rfl (congrArg (fun l => (SV.t [.a l, .v (.int .i64 0)]).real) (tk2 X))
end Go.Proofs.YtmekcdjaafegaaaGreatDoor
