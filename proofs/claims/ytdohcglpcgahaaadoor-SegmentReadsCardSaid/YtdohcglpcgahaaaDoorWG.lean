/-
  The walk of Right.
-/
import Derived.Test.YtdohcglpcgahaaaDoorWF
set_option linter.unusedSimpArgs false
set_option linter.unusedVariables false
namespace Go.Proofs.YtdohcglpcgahaaaDoor
open Go Sat Go.RowKit Go.PlainAid
theorem all_no {α : Type} {f : α → Bool} {l : List α} {k : Nat} {x : α} (h : l[k]? = some x) (hf : f x = false) : l.all f = false := by
  rw [List.all_eq_false]
  exact ⟨x, List.mem_of_getElem? h, by rw [hf]; simp⟩
theorem all_step {α : Type} {f : α → Bool} {l : List α} {k : Nat} {x : α} (h0 : (l.take k).all f = true) (h : l[k]? = some x) (hf : f x = true) : (l.take (k + 1)).all f = true := by
  rw [List.take_add_one, h, List.all_append, h0]
  simp [hf]
set_option maxRecDepth 100000 in
set_option maxHeartbeats 8000000 in
theorem right_anyA (a : Segm) (va : Value) (w : World) (hA : NSA w (fun _ => True) va a) :
    Calls Tryd.prog 44 #[va] w fun e w' => e = .returned (.bool (rightS a)) ∧ Below w.heap.size w w' := by
  obtain ⟨A', A, cA, xs, rfl, aA, hcA, hrA, -, hxA⟩ := hA
  refine calls_sat (cx := Tryd.cx 44 [] [] [] w) (Tryd.ok ..) Tryd.func44 rfl [.v (.slice A' a.length cA)] rfl (by show 1 ≤ 44; omega) [] (holds_nil (Nat.le_refl _)) ?_
  by_cases hl : 1 ≤ a.length ∧ a.length ≤ 30
  case neg =>
    rw [show rightS a = false from by unfold rightS; rw [decide_eq_false hl]; rfl]
    repeat' ((conv => whnf); first | refine walk (Tryd.ok ..) ?_ | (refine Cnd.mk (fun h => ?_) (fun h => ?_) <;> (first | exact cndT h (by (try dsimp only); omega) | exact cndF h (by (try dsimp only); omega) | (exfalso; simp at h; omega) | simp at h | skip)) | refine side2 ?_ | fail)
    all_goals exact done_pure rfl rfl rfl
  rw [show rightS a = a.all rightE from by unfold rightS; rw [decide_eq_true hl]; rfl]
  repeat' ((conv => whnf); first | refine walk (Tryd.ok ..) ?_ | (refine Cnd.mk (fun h => ?_) (fun h => ?_) <;> (first | exact cndT h (by (try dsimp only); omega) | exact cndF h (by (try dsimp only); omega) | (exfalso; simp at h; omega) | simp at h | skip)) | refine side2 ?_ | fail)
  refine sat_loop (Tryd.ok ..) (α := Nat) (fun i => ([(0, .yes, .v (.slice A' a.length cA)), (15, .yes, .v (.slice A' a.length cA)), (16, .yes, .v (.int .i64 a.length)), (17, .yes, .v (.int .i64 i))], []))
    (fun k => k ≤ a.length ∧ (a.take k).all rightE = true) (fun k => a.length - k) (fun _ => rfl) ?_ ?_
  · refine ⟨0, ⟨Nat.zero_le _, by simp⟩, ?_, ?_, rfl⟩
    all_goals ((repeat' (first | exact trivial | exact rfl | refine And.intro ?_ ?_)) <;> (try (conv => whnf)) <;> (try simp only [SV.real, SV.r2, SV.r1]))
  rintro i ⟨hi, he⟩
  by_cases hi1 : i < a.length
  · obtain ⟨s, hs⟩ : ∃ s, a[i]? = some s := ⟨_, List.getElem?_eq_getElem hi1⟩
    obtain ⟨x, hx, hne⟩ := nest_at hxA hrA.1 hs
    obtain ⟨A1', A1, cA1, rfl, aA1, hcA1, hrA1, -⟩ := nea_row hne
    obtain ⟨p, rfl, rfl⟩ := some_of aA hrA (by omega)
    by_cases hl1 : 1 ≤ s.length ∧ s.length ≤ 10
    case neg =>
      rw [all_no hs (show rightE s = false from by unfold rightE; rw [decide_eq_false hl1]; rfl)]
      repeat' ((conv => whnf); first | refine walk (Tryd.ok ..) ?_ | (refine Cnd.mk (fun h => ?_) (fun h => ?_) <;> (first | exact cndT h (by (try dsimp only); omega) | exact cndF h (by (try dsimp only); omega) | (exfalso; simp at h; omega) | simp at h | skip)) | refine side2 ?_ | refine xi _ (ro_at rfl rfl hrA hx rfl) ?_ | fail)
      all_goals exact done_pure rfl rfl rfl
    have eS : rightE s = s.all rightC := by unfold rightE; rw [decide_eq_true hl1]; rfl
    repeat' ((conv => whnf); first | refine walk (Tryd.ok ..) ?_ | (refine Cnd.mk (fun h => ?_) (fun h => ?_) <;> (first | exact cndT h (by (try dsimp only); omega) | exact cndF h (by (try dsimp only); omega) | (exfalso; simp at h; omega) | simp at h | skip)) | refine side2 ?_ | refine xi _ (ro_at rfl rfl hrA hx rfl) ?_ | fail)
    refine sat_loop (Tryd.ok ..) (α := Nat) (fun k => ([(0, .yes, .v (.slice (adr (some p)) a.length cA)), (15, .yes, .v (.slice (adr (some p)) a.length cA)), (16, .yes, .v (.int .i64 a.length)), (17, .yes, .v (.int .i64 i)), (29, .yes, .v (.slice A1' s.length cA1)), (30, .yes, .v (.int .i64 s.length)), (31, .yes, .v (.int .i64 k))], []))
      (fun k => k ≤ s.length ∧ (s.take k).all rightC = true) (fun k => s.length - k) (fun _ => rfl) ?_ ?_
    · refine ⟨0, ⟨Nat.zero_le _, by simp⟩, ?_, ?_, rfl⟩
      all_goals ((repeat' (first | exact trivial | exact rfl | refine And.intro ?_ ?_)) <;> (try (conv => whnf)) <;> (try simp only [SV.real, SV.r2, SV.r1]))
    rintro k ⟨hk, he1⟩
    by_cases hk1 : k < s.length
    · obtain ⟨c, hc⟩ : ∃ c, s[k]? = some c := ⟨_, List.getElem?_eq_getElem hk1⟩
      obtain ⟨q, rfl, rfl⟩ := some_of aA1 hrA1 (by omega)
      have hcv : (s.map Value.string)[k]? = some (.string c) := by rw [List.getElem?_map, hc]; rfl
      by_cases hsz : c.size ≤ 100
      case neg =>
        rw [all_no hs (eS.trans (all_no hc (show rightC c = false from by unfold rightC; rw [decide_eq_false hsz]; rfl)))]
        repeat' ((conv => whnf); first | refine walk (Tryd.ok ..) ?_ | (refine Cnd.mk (fun h => ?_) (fun h => ?_) <;> (first | exact cndT h (by (try dsimp only); omega) | exact cndF h (by (try dsimp only); omega) | (exfalso; simp at h; omega) | simp at h | skip)) | refine side2 ?_ | refine sideL2 ?_ | refine xi _ (ro_at rfl rfl hrA1 hcv rfl) ?_ | fail)
        refine calledQ_pure (.v (.bool (c.data.toList.any badB))) rfl (fun _ w' => containsFunc_any c w') ?_
        repeat' ((conv => whnf); first | refine walk (Tryd.ok ..) ?_ | (refine Cnd.mk (fun h => ?_) (fun h => ?_) <;> (first | exact cndT h (by (try dsimp only); omega) | exact cndF h (by (try dsimp only); omega) | (exfalso; simp at h; omega) | simp at h | skip)) | refine side2 ?_ | fail)
        all_goals exact done_pure rfl rfl rfl
      have eC : rightC c = !c.data.toList.any badB := by unfold rightC; rw [decide_eq_true hsz]; rfl
      repeat' ((conv => whnf); first | refine walk (Tryd.ok ..) ?_ | (refine Cnd.mk (fun h => ?_) (fun h => ?_) <;> (first | exact cndT h (by (try dsimp only); omega) | exact cndF h (by (try dsimp only); omega) | (exfalso; simp at h; omega) | simp at h | skip)) | refine side2 ?_ | refine sideL2 ?_ | refine xi _ (ro_at rfl rfl hrA1 hcv rfl) ?_ | fail)
      refine calledQ_pure (.v (.bool (c.data.toList.any badB))) rfl (fun _ w' => containsFunc_any c w') ?_
      cases hb : c.data.toList.any badB with
      | true =>
        rw [all_no hs (eS.trans (all_no hc (show rightC c = false from by rw [eC, hb]; rfl)))]
        repeat' ((conv => whnf); first | refine walk (Tryd.ok ..) ?_ | (refine Cnd.mk (fun h => ?_) (fun h => ?_) <;> (first | exact cndT h (by (try dsimp only); omega) | exact cndF h (by (try dsimp only); omega) | (exfalso; simp at h; omega) | simp at h | skip)) | refine side2 ?_ | fail)
        all_goals exact done_pure rfl rfl rfl
      | false =>
        repeat' ((conv => whnf); first | refine walk (Tryd.ok ..) ?_ | (refine Cnd.mk (fun h => ?_) (fun h => ?_) <;> (first | exact cndT h (by (try dsimp only); omega) | exact cndF h (by (try dsimp only); omega) | (exfalso; simp at h; omega) | simp at h | skip)) | refine side2 ?_ | refine sideL2 ?_ | fail)
        refine ⟨k + 1, ⟨⟨hk1, all_step he1 hc (by rw [eC, hb]; rfl)⟩, by omega⟩, ?_, ?_, rfl⟩
        all_goals ((repeat' (first | exact trivial | exact rfl | refine And.intro ?_ ?_)) <;> (try (conv => whnf)) <;> (try simp only [SV.real, SV.r2, SV.r1]))
    · obtain rfl : k = s.length := by omega
      rw [List.take_length] at he1
      repeat' ((conv => whnf); first | refine walk (Tryd.ok ..) ?_ | (refine Cnd.mk (fun h => ?_) (fun h => ?_) <;> (first | exact cndT h (by (try dsimp only); omega) | exact cndF h (by (try dsimp only); omega) | (exfalso; simp at h; omega) | simp at h | skip)) | refine sideL2 ?_ | fail)
      refine ⟨i + 1, ⟨⟨hi1, all_step he hs (eS.trans he1)⟩, by omega⟩, ?_, ?_, rfl⟩
      all_goals ((repeat' (first | exact trivial | exact rfl | refine And.intro ?_ ?_)) <;> (try (conv => whnf)) <;> (try simp only [SV.real, SV.r2, SV.r1]))
  · obtain rfl : i = a.length := by omega
    rw [List.take_length] at he
    rw [he]
    repeat' ((conv => whnf); first | refine walk (Tryd.ok ..) ?_ | (refine Cnd.mk (fun h => ?_) (fun h => ?_) <;> (first | exact cndT h (by (try dsimp only); omega) | exact cndF h (by (try dsimp only); omega) | (exfalso; simp at h; omega) | simp at h | skip)) | fail)
    exact done_pure rfl rfl rfl
theorem right_any (a : Segm) (va : Value) (w : World) (hA : NS w (fun _ => True) va a) :
    Calls Tryd.prog 44 #[va] w fun e w' => e = .returned (.bool (rightS a)) ∧ Below w.heap.size w w' := right_anyA a va w (ns_arg hA)
end Go.Proofs.YtdohcglpcgahaaaDoor
