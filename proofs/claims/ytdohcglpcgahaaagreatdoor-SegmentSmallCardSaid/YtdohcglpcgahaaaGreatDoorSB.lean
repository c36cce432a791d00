/-
  Lists of texts compared and copied, walked.
-/
import Derived.Test.YtdohcglpcgahaaaGreatDoorW1
import Derived.Test.YtdohcglpcgahaaaGreatDoorNX
set_option linter.unusedSimpArgs false
set_option linter.unusedVariables false
namespace Go.Proofs.YtdohcglpcgahaaaGreatDoor
open Go Sat Go.RowKit Go.PlainAid
set_option maxRecDepth 100000 in
set_option maxHeartbeats 8000000 in
theorem equal_any (a b : List ByteArray) (va vb : Value) (w : World) (hA : NEA w (fun _ => True) va a) (hB : NEA w (fun _ => True) vb b) :
    Calls Tryz.prog 48 #[va, vb] w fun e w' => e = .returned (.bool (decide (a = b))) ∧ Below w.heap.size w w' := by
  obtain ⟨A', A, cA, rfl, aA, hcA, hA, -⟩ := nea_row hA
  obtain ⟨B', B, cB, rfl, aB, hcB, hB, -⟩ := nea_row hB
  have hlen : a.length ≤ maxLen := Nat.le_trans hcA.1 hcA.2
  refine calls_sat (cx := Tryz.cx 26 [] [] [] w) (Tryz.ok ..) Tryz.func48 rfl [.v (.slice A' a.length cA), .v (.slice B' b.length cB)] rfl (by show 2 ≤ 26; omega) [] (holds_nil (Nat.le_refl _)) ?_
  by_cases hl : a.length = b.length
  case neg =>
    rw [decide_eq_false (fun h => hl (by rw [h]))]
    repeat' ((conv => whnf); first | refine walk (Tryz.ok ..) ?_ | (refine Cnd.mk (fun h => ?_) (fun h => ?_) <;> (first | exact cndT h (by (try dsimp only); omega) | exact cndF h (by (try dsimp only); omega) | (exfalso; simp at h; omega) | simp at h | skip)) | fail)
    exact done_pure rfl rfl rfl
  rw [← hl]
  have hmax : a.length ≤ 9223372036854775807 := Nat.le_trans hlen (by decide)
  repeat' ((conv => whnf); first | refine walk (Tryz.ok ..) ?_ | (refine Cnd.mk (fun h => ?_) (fun h => ?_) <;> (first | exact cndT h (by (try dsimp only); omega) | exact cndF h (by (try dsimp only); omega) | (exfalso; simp at h; omega) | simp at h | skip)) | fail)
  refine sat_loop (Tryz.ok ..) (α := Nat) (fun k => ([(0, .yes, .v (.slice A' a.length cA)), (1, .yes, .v (.slice B' a.length cB)), (12, .yes, .v (.int .i64 a.length)), (13, .yes, .v (.int .i64 k))], []))
    (fun k => k ≤ a.length ∧ a.take k = b.take k) (fun k => a.length - k) (fun _ => rfl) ?_ ?_
  · refine ⟨0, ⟨Nat.zero_le _, by simp⟩, ?_, ?_, rfl⟩
    all_goals ((repeat' (first | exact trivial | exact rfl | refine And.intro ?_ ?_)) <;> (try (conv => whnf)) <;> (try simp only [SV.real, SV.r2, SV.r1]))
  rintro k ⟨hk, he⟩
  by_cases hk1 : k < a.length
  · obtain ⟨s, hs⟩ : ∃ s, a[k]? = some s := ⟨_, List.getElem?_eq_getElem hk1⟩
    obtain ⟨t, ht⟩ : ∃ s, b[k]? = some s := ⟨_, List.getElem?_eq_getElem (hl ▸ hk1)⟩
    obtain ⟨p, rfl, rfl⟩ := some_of aA hA (by omega)
    obtain ⟨q, rfl, rfl⟩ := some_of aB hB (by omega)
    repeat' ((conv => whnf); first | refine walk (Tryz.ok ..) ?_ | (refine Cnd.mk (fun h => ?_) (fun h => ?_) <;> (first | exact cndT h (by (try dsimp only); omega) | exact cndF h (by (try dsimp only); omega) | (exfalso; simp at h; omega) | simp at h | skip)) | refine side2 ?_ | refine sideL2 ?_ | refine xi _ (ro_at rfl rfl hA (str_cell hs) rfl) ?_ | refine xi _ (ro_at rfl rfl hB (str_cell ht) rfl) ?_ | fail)
    · rw [decide_eq_false (eq_no hs ht h)]
      exact done_pure rfl rfl rfl
    · refine ⟨k + 1, ⟨⟨hk1, eq_step he hs ht h⟩, by omega⟩, ?_, ?_, rfl⟩
      all_goals ((repeat' (first | exact trivial | exact rfl | refine And.intro ?_ ?_)) <;> (try (conv => whnf)) <;> (try simp only [SV.real, SV.r2, SV.r1]))
  · obtain rfl : k = a.length := by omega
    rw [List.take_length, hl, List.take_length] at he
    rw [decide_eq_true he]
    repeat' ((conv => whnf); first | refine walk (Tryz.ok ..) ?_ | (refine Cnd.mk (fun h => ?_) (fun h => ?_) <;> (first | exact cndT h (by (try dsimp only); omega) | exact cndF h (by (try dsimp only); omega) | (exfalso; simp at h; omega) | simp at h | skip)) | fail)
    exact done_pure rfl rfl rfl
set_option maxRecDepth 100000 in
set_option maxHeartbeats 8000000 in
theorem clone_any (e : List ByteArray) (A : Nat × Nat) (c : Nat) (w : World) (hn : e.length ≤ c ∧ c ≤ maxLen) (hb : e.length * 16 ≤ 140737488355328) (hA : Ro w (some A) e.length 1 (e.map Value.string)) :
    Calls Tryz.prog 47 #[.slice (adr (some A)) e.length c] w (Gives id (fun w B v => NE w B v e) w) := by
  refine calls_sat (cx := Tryz.cx 8 [] [] [] w) (Tryz.ok ..) Tryz.func47 rfl [.v (.slice (adr (some A)) e.length c)] rfl (by show 1 ≤ 8; omega) [] (holds_nil (Nat.le_refl _)) ?_
  have hall := strs_all e
  have hmax : e.length ≤ 9223372036854775807 := Nat.le_trans (Nat.le_trans hn.1 hn.2) (by decide)
  repeat' ((conv => whnf); first | refine walk (Tryz.ok ..) ?_ | (refine Cnd.mk (fun h => ?_) (fun h => ?_) <;> (first | exact cndT h (by (try dsimp only); omega) | exact cndF h (by (try dsimp only); omega) | (exfalso; simp at h; omega) | simp at h | skip)) | fail)
  (conv => whnf)
  intro g5 hg5
  skip
  (conv => whnf)
  refine raw_ro rfl rfl hA ?_
  repeat' ((conv => whnf); first | refine side2 ?_ | fail)
  (conv => whnf)
  intro A7 cap7
  repeat' ((conv => whnf); first | refine walk (Tryz.ok ..) ?_ | fail)
  exact done_fuse (v := .slice (adr A7) (0 + e.length) cap7) rfl rfl [5] (fun w hw => nest_fuseN [5] 5 (Nat.zero_add _) hw rfl rfl (got_strs e)) rfl
end Go.Proofs.YtdohcglpcgahaaaGreatDoor
