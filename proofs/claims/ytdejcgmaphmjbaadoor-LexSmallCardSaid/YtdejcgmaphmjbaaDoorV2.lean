/-
  The walk of the reference's Right.
-/
import Derived.Test.YtdejcgmaphmjbaaDoorV1
import Derived.Test.YtdejcgmaphmjbaaDoorNA
set_option linter.unusedSimpArgs false
set_option linter.unusedVariables false
namespace Go.Proofs.YtdejcgmaphmjbaaDoor
open Go Sat Go.RowKit Go.PlainAid
set_option maxRecDepth 100000 in
set_option maxHeartbeats 8000000 in
theorem rRight_any (a : Segm) (va : Value) (w : World) (hA : NSA w (fun _ => True) va a) :
    Calls Tryd.prog 25 #[va] w fun e w' => e = .returned (.bool (rightS a)) ∧ Below w.heap.size w w' := by
  obtain ⟨A', A, cA, xs, rfl, aA, hcA, hrA, -, hxA⟩ := hA
  refine calls_sat (cx := Tryd.cx 86 [] [] [] w) (Tryd.ok ..) Tryd.func25 rfl [.v (.slice A' a.length cA)] rfl (by show 1 ≤ 86; omega) [] (holds_nil (Nat.le_refl _)) ?_
  by_cases hl : 1 ≤ a.length ∧ a.length ≤ 30
  case neg =>
    rw [show rightS a = false from by unfold rightS; rw [decide_eq_false hl]; rfl]
    repeat' ((conv => whnf); first | refine walk (Tryd.ok ..) ?_ | (refine Cnd.mk (fun h => ?_) (fun h => ?_) <;> (first | exact cndT h (by (try dsimp only); omega) | exact cndF h (by (try dsimp only); omega) | (exfalso; simp at h; omega) | simp at h | skip)) | refine kp ?_ ?_ | refine tw ?_ ?_ | refine appnil rfl ?_ | refine rawnil rfl ?_ | exact trivial | refine side2 ?_ | refine sideL2 ?_ | refine Or.inr ?_ | refine sat_drawH (Tryd.ok ..) (by kernel_rfl) ?_ | refine xi _ (And.intro rfl rfl) ?_ | refine xi _ (fun _ => And.intro rfl rfl) ?_ | refine xi _ rfl ?_)
    · exact done_pure rfl rfl rfl
    · exfalso
      obtain ⟨h9, h8⟩ := h
      have := List.length_pos_iff.2 h9
      omega
  rw [show rightS a = a.all rightE from by unfold rightS; rw [decide_eq_true hl]; rfl]
  repeat' ((conv => whnf); first | refine walk (Tryd.ok ..) ?_ | (refine Cnd.mk (fun h => ?_) (fun h => ?_) <;> (first | exact cndT h (by (try dsimp only); omega) | exact cndF h (by (try dsimp only); omega) | (exfalso; simp at h; omega) | simp at h | skip)) | refine kp ?_ ?_ | refine tw ?_ ?_ | refine appnil rfl ?_ | refine rawnil rfl ?_ | exact trivial | refine side2 ?_ | refine sideL2 ?_ | refine Or.inr ?_ | refine sat_drawH (Tryd.ok ..) (by kernel_rfl) ?_ | refine xi _ (And.intro rfl rfl) ?_ | refine xi _ (fun _ => And.intro rfl rfl) ?_ | refine xi _ rfl ?_)
  · exfalso
    rcases h with h9 | h9
    · rw [h9] at hl
      simp at hl
    · omega
  refine sat_loop (Tryd.ok ..) (α := Nat) (fun i => ([(0, .yes, .v (.slice A' a.length cA)), (3, .yes, .v (.int .i64 i))], []))
    (fun k => k ≤ a.length ∧ (a.take k).all rightE = true) (fun k => a.length - k) (fun _ => rfl) ?_ ?_
  · refine ⟨0, ⟨Nat.zero_le _, by simp⟩, ?_, ?_, rfl⟩
    all_goals ((repeat' (first | exact trivial | exact rfl | refine And.intro ?_ ?_)) <;> (try (conv => whnf)) <;> (try simp only [SV.real, SV.r2, SV.r1]))
  rintro i ⟨hi, he⟩
  by_cases hi1 : i < a.length
  case neg =>
    obtain rfl : i = a.length := by omega
    rw [List.take_length] at he
    rw [he]
    repeat' ((conv => whnf); first | refine walk (Tryd.ok ..) ?_ | (refine Cnd.mk (fun h => ?_) (fun h => ?_) <;> (first | exact cndT h (by (try dsimp only); omega) | exact cndF h (by (try dsimp only); omega) | (exfalso; simp at h; omega) | simp at h | skip)) | refine kp ?_ ?_ | refine tw ?_ ?_ | refine appnil rfl ?_ | refine rawnil rfl ?_ | exact trivial | refine side2 ?_ | refine sideL2 ?_ | refine Or.inr ?_ | refine sat_drawH (Tryd.ok ..) (by kernel_rfl) ?_ | refine xi _ (And.intro rfl rfl) ?_ | refine xi _ (fun _ => And.intro rfl rfl) ?_ | refine xi _ rfl ?_)
    exact done_pure rfl rfl rfl
  obtain ⟨s, hs⟩ : ∃ s, a[i]? = some s := ⟨_, List.getElem?_eq_getElem hi1⟩
  obtain ⟨x, hx, hne⟩ := nest_at hxA hrA.1 hs
  obtain ⟨A1', A1, cA1, rfl, aA1, hcA1, hrA1, -⟩ := nea_row hne
  obtain ⟨p, rfl, rfl⟩ := some_of aA hrA (by omega)
  by_cases hl1 : 1 ≤ s.length ∧ s.length ≤ 10
  case neg =>
    rw [all_no hs (show rightE s = false from by unfold rightE; rw [decide_eq_false hl1]; rfl)]
    repeat' ((conv => whnf); first | refine walk (Tryd.ok ..) ?_ | (refine Cnd.mk (fun h => ?_) (fun h => ?_) <;> (first | exact cndT h (by (try dsimp only); omega) | exact cndF h (by (try dsimp only); omega) | (exfalso; simp at h; omega) | simp at h | skip)) | refine kp ?_ ?_ | refine tw ?_ ?_ | refine appnil rfl ?_ | refine rawnil rfl ?_ | exact trivial | refine side2 ?_ | refine sideL2 ?_ | refine Or.inr ?_ | refine sat_drawH (Tryd.ok ..) (by kernel_rfl) ?_ | refine xi _ (And.intro rfl rfl) ?_ | refine xi _ (fun _ => And.intro rfl rfl) ?_ | refine xi _ rfl ?_ | refine xi _ (fun _ => (ro_at rfl rfl hrA hx rfl)) ?_ | refine xi _ (ro_at rfl rfl hrA hx rfl) ?_)
    · exact done_pure rfl rfl rfl
    · exfalso
      obtain ⟨h9, h8⟩ := h
      have := List.length_pos_iff.2 h9
      omega
  have eS : rightE s = s.all rightC := by unfold rightE; rw [decide_eq_true hl1]; rfl
  repeat' ((conv => whnf); first | refine walk (Tryd.ok ..) ?_ | (refine Cnd.mk (fun h => ?_) (fun h => ?_) <;> (first | exact cndT h (by (try dsimp only); omega) | exact cndF h (by (try dsimp only); omega) | (exfalso; simp at h; omega) | simp at h | skip)) | refine kp ?_ ?_ | refine tw ?_ ?_ | refine appnil rfl ?_ | refine rawnil rfl ?_ | exact trivial | refine side2 ?_ | refine sideL2 ?_ | refine Or.inr ?_ | refine sat_drawH (Tryd.ok ..) (by kernel_rfl) ?_ | refine xi _ (And.intro rfl rfl) ?_ | refine xi _ (fun _ => And.intro rfl rfl) ?_ | refine xi _ rfl ?_ | refine xi _ (fun _ => (ro_at rfl rfl hrA hx rfl)) ?_ | refine xi _ (ro_at rfl rfl hrA hx rfl) ?_)
  · exfalso
    rcases h with h9 | h9
    · rw [h9] at hl1
      simp at hl1
    · omega
  refine sat_loop (Tryd.ok ..) (α := Nat) (fun k => ([(0, .yes, .v (.slice (adr (some p)) a.length cA)), (3, .yes, .v (.int .i64 i)), (4, .yes, .v (.int .i64 k))], []))
    (fun k => k ≤ s.length ∧ (s.take k).all rightC = true) (fun k => s.length - k) (fun _ => rfl) ?_ ?_
  · refine ⟨0, ⟨Nat.zero_le _, by simp⟩, ?_, ?_, rfl⟩
    all_goals ((repeat' (first | exact trivial | exact rfl | refine And.intro ?_ ?_)) <;> (try (conv => whnf)) <;> (try simp only [SV.real, SV.r2, SV.r1]))
  rintro k ⟨hk, he1⟩
  by_cases hk1 : k < s.length
  case neg =>
    obtain rfl : k = s.length := by omega
    rw [List.take_length] at he1
    repeat' ((conv => whnf); first | refine walk (Tryd.ok ..) ?_ | (refine Cnd.mk (fun h => ?_) (fun h => ?_) <;> (first | exact cndT h (by (try dsimp only); omega) | exact cndF h (by (try dsimp only); omega) | (exfalso; simp at h; omega) | simp at h | skip)) | refine kp ?_ ?_ | refine tw ?_ ?_ | refine appnil rfl ?_ | refine rawnil rfl ?_ | exact trivial | refine side2 ?_ | refine sideL2 ?_ | refine Or.inr ?_ | refine sat_drawH (Tryd.ok ..) (by kernel_rfl) ?_ | refine xi _ (And.intro rfl rfl) ?_ | refine xi _ (fun _ => And.intro rfl rfl) ?_ | refine xi _ rfl ?_ | refine xi _ (fun _ => (ro_at rfl rfl hrA hx rfl)) ?_ | refine xi _ (ro_at rfl rfl hrA hx rfl) ?_)
    refine ⟨i + 1, ⟨⟨hi1, all_step he hs (eS.trans he1)⟩, by omega⟩, ?_, ?_, rfl⟩
    all_goals ((repeat' (first | exact trivial | exact rfl | refine And.intro ?_ ?_)) <;> (try (conv => whnf)) <;> (try simp only [SV.real, SV.r2, SV.r1]))
  obtain ⟨c, hc⟩ : ∃ c, s[k]? = some c := ⟨_, List.getElem?_eq_getElem hk1⟩
  obtain ⟨q, rfl, rfl⟩ := some_of aA1 hrA1 (by omega)
  by_cases hsz : c.size ≤ 100
  case neg =>
    rw [all_no hs (eS.trans (all_no hc (show rightC c = false from by unfold rightC; rw [decide_eq_false hsz]; rfl)))]
    repeat' ((conv => whnf); first | refine walk (Tryd.ok ..) ?_ | (refine Cnd.mk (fun h => ?_) (fun h => ?_) <;> (first | exact cndT h (by (try dsimp only); omega) | exact cndF h (by (try dsimp only); omega) | (exfalso; simp at h; omega) | simp at h | skip)) | refine kp ?_ ?_ | refine tw ?_ ?_ | refine appnil rfl ?_ | refine rawnil rfl ?_ | exact trivial | refine side2 ?_ | refine sideL2 ?_ | refine Or.inr ?_ | refine sat_drawH (Tryd.ok ..) (by kernel_rfl) ?_ | refine xi _ (And.intro rfl rfl) ?_ | refine xi _ (fun _ => And.intro rfl rfl) ?_ | refine xi _ rfl ?_ | refine xi _ (fun _ => (ro_at rfl rfl hrA hx rfl)) ?_ | refine xi _ (ro_at rfl rfl hrA hx rfl) ?_ | refine xi _ (fun _ => (ro_at rfl rfl hrA1 (str_cell hc) rfl)) ?_ | refine xi _ (ro_at rfl rfl hrA1 (str_cell hc) rfl) ?_)
    all_goals exact done_pure rfl rfl rfl
  repeat' ((conv => whnf); first | refine walk (Tryd.ok ..) ?_ | (refine Cnd.mk (fun h => ?_) (fun h => ?_) <;> (first | exact cndT h (by (try dsimp only); omega) | exact cndF h (by (try dsimp only); omega) | (exfalso; simp at h; omega) | simp at h | skip)) | refine kp ?_ ?_ | refine tw ?_ ?_ | refine appnil rfl ?_ | refine rawnil rfl ?_ | exact trivial | refine side2 ?_ | refine sideL2 ?_ | refine Or.inr ?_ | refine sat_drawH (Tryd.ok ..) (by kernel_rfl) ?_ | refine xi _ (And.intro rfl rfl) ?_ | refine xi _ (fun _ => And.intro rfl rfl) ?_ | refine xi _ rfl ?_ | refine xi _ (fun _ => (ro_at rfl rfl hrA hx rfl)) ?_ | refine xi _ (ro_at rfl rfl hrA hx rfl) ?_ | refine xi _ (fun _ => (ro_at rfl rfl hrA1 (str_cell hc) rfl)) ?_ | refine xi _ (ro_at rfl rfl hrA1 (str_cell hc) rfl) ?_)
  refine sat_loop (Tryd.ok ..) (α := Nat) (fun j => ([(0, .yes, .v (.slice (adr (some p)) a.length cA)), (3, .yes, .v (.int .i64 i)), (4, .yes, .v (.int .i64 k)), (5, .yes, .v (.int .i64 j))], []))
    (fun j => j ≤ c.size ∧ (c.data.toList.take j).any badB = false) (fun j => c.size - j) (fun _ => rfl) ?_ ?_
  · refine ⟨0, ⟨Nat.zero_le _, by simp⟩, ?_, ?_, rfl⟩
    all_goals ((repeat' (first | exact trivial | exact rfl | refine And.intro ?_ ?_)) <;> (try (conv => whnf)) <;> (try simp only [SV.real, SV.r2, SV.r1]))
  rintro j ⟨hj, hany⟩
  by_cases hj1 : j < c.size
  case neg =>
    obtain rfl : j = c.size := by omega
    rw [size_len, List.take_length] at hany
    have hrc : rightC c = true := by unfold rightC; rw [decide_eq_true hsz, hany]; rfl
    repeat' ((conv => whnf); first | refine walk (Tryd.ok ..) ?_ | (refine Cnd.mk (fun h => ?_) (fun h => ?_) <;> (first | exact cndT h (by (try dsimp only); omega) | exact cndF h (by (try dsimp only); omega) | (exfalso; simp at h; omega) | simp at h | skip)) | refine kp ?_ ?_ | refine tw ?_ ?_ | refine appnil rfl ?_ | refine rawnil rfl ?_ | exact trivial | refine side2 ?_ | refine sideL2 ?_ | refine Or.inr ?_ | refine sat_drawH (Tryd.ok ..) (by kernel_rfl) ?_ | refine xi _ (And.intro rfl rfl) ?_ | refine xi _ (fun _ => And.intro rfl rfl) ?_ | refine xi _ rfl ?_ | refine xi _ (fun _ => (ro_at rfl rfl hrA hx rfl)) ?_ | refine xi _ (ro_at rfl rfl hrA hx rfl) ?_ | refine xi _ (fun _ => (ro_at rfl rfl hrA1 (str_cell hc) rfl)) ?_ | refine xi _ (ro_at rfl rfl hrA1 (str_cell hc) rfl) ?_)
    refine ⟨k + 1, ⟨⟨hk1, all_step he1 hc hrc⟩, by omega⟩, ?_, ?_, rfl⟩
    all_goals ((repeat' (first | exact trivial | exact rfl | refine And.intro ?_ ?_)) <;> (try (conv => whnf)) <;> (try simp only [SV.real, SV.r2, SV.r1]))
  obtain ⟨b, hb⟩ : ∃ b, c.data.toList[j]? = some b := ⟨_, List.getElem?_eq_getElem hj1⟩
  have hbt : bt c (j : Int).toNat = (b.toNat : Int) := bt_at hb
  have hbt2 : bt c j = (b.toNat : Int) := bt_at hb
  by_cases hbad : badB b = true
  · have hn : b.toNat < 32 ∨ 126 < b.toNat := by unfold badB at hbad; exact of_decide_eq_true hbad
    have hbc : rightC c = false := by
      unfold rightC
      rw [decide_eq_true hsz, show c.data.toList.any badB = true from List.any_eq_true.2 ⟨b, List.mem_of_getElem? hb, hbad⟩]
      rfl
    rw [all_no hs (eS.trans (all_no hc hbc))]
    by_cases h32 : b.toNat < 32
    · repeat' ((conv => whnf); first | refine walk (Tryd.ok ..) ?_ | (refine Cnd.mk (fun h => ?_) (fun h => ?_) <;> (first | exact cndT h (by (try dsimp only); omega) | exact cndF h (by (try dsimp only); omega) | (exfalso; simp at h; omega) | simp at h | skip)) | refine kp ?_ ?_ | refine tw ?_ ?_ | refine appnil rfl ?_ | refine rawnil rfl ?_ | exact trivial | refine side2 ?_ | refine sideL2 ?_ | refine Or.inr ?_ | refine sat_drawH (Tryd.ok ..) (by kernel_rfl) ?_ | refine xi _ (And.intro rfl rfl) ?_ | refine xi _ (fun _ => And.intro rfl rfl) ?_ | refine xi _ rfl ?_ | refine xi _ (fun _ => (ro_at rfl rfl hrA hx rfl)) ?_ | refine xi _ (ro_at rfl rfl hrA hx rfl) ?_ | refine xi _ (fun _ => (ro_at rfl rfl hrA1 (str_cell hc) rfl)) ?_ | refine xi _ (ro_at rfl rfl hrA1 (str_cell hc) rfl) ?_)
      all_goals exact done_pure rfl rfl rfl
    · repeat' ((conv => whnf); first | refine walk (Tryd.ok ..) ?_ | (refine Cnd.mk (fun h => ?_) (fun h => ?_) <;> (first | exact cndT h (by (try dsimp only); omega) | exact cndF h (by (try dsimp only); omega) | (exfalso; simp at h; omega) | simp at h | skip)) | refine kp ?_ ?_ | refine tw ?_ ?_ | refine appnil rfl ?_ | refine rawnil rfl ?_ | exact trivial | refine side2 ?_ | refine sideL2 ?_ | refine Or.inr ?_ | refine sat_drawH (Tryd.ok ..) (by kernel_rfl) ?_ | refine xi _ (And.intro rfl rfl) ?_ | refine xi _ (fun _ => And.intro rfl rfl) ?_ | refine xi _ rfl ?_ | refine xi _ (fun _ => (ro_at rfl rfl hrA hx rfl)) ?_ | refine xi _ (ro_at rfl rfl hrA hx rfl) ?_ | refine xi _ (fun _ => (ro_at rfl rfl hrA1 (str_cell hc) rfl)) ?_ | refine xi _ (ro_at rfl rfl hrA1 (str_cell hc) rfl) ?_)
      all_goals exact done_pure rfl rfl rfl
  · have hn := badB_no (by simpa using hbad : badB b = false)
    have hany2 : (c.data.toList.take (j + 1)).any badB = false := by
      rw [List.take_add_one, hb, List.any_append, hany]
      simp [hbad]
    repeat' ((conv => whnf); first | refine walk (Tryd.ok ..) ?_ | (refine Cnd.mk (fun h => ?_) (fun h => ?_) <;> (first | exact cndT h (by (try dsimp only); omega) | exact cndF h (by (try dsimp only); omega) | (exfalso; simp at h; omega) | simp at h | skip)) | refine kp ?_ ?_ | refine tw ?_ ?_ | refine appnil rfl ?_ | refine rawnil rfl ?_ | exact trivial | refine side2 ?_ | refine sideL2 ?_ | refine Or.inr ?_ | refine sat_drawH (Tryd.ok ..) (by kernel_rfl) ?_ | refine xi _ (And.intro rfl rfl) ?_ | refine xi _ (fun _ => And.intro rfl rfl) ?_ | refine xi _ rfl ?_ | refine xi _ (fun _ => (ro_at rfl rfl hrA hx rfl)) ?_ | refine xi _ (ro_at rfl rfl hrA hx rfl) ?_ | refine xi _ (fun _ => (ro_at rfl rfl hrA1 (str_cell hc) rfl)) ?_ | refine xi _ (ro_at rfl rfl hrA1 (str_cell hc) rfl) ?_)
    refine ⟨j + 1, ⟨⟨hj1, hany2⟩, by omega⟩, ?_, ?_, rfl⟩
    all_goals ((repeat' (first | exact trivial | exact rfl | refine And.intro ?_ ?_)) <;> (try (conv => whnf)) <;> (try simp only [SV.real, SV.r2, SV.r1]))
end Go.Proofs.YtdejcgmaphmjbaaDoor
