/-
  The law FracReads, walked.
-/
import Derived.Test.YtmekcdjaafegaaaGreatDoorLQ0
import Derived.Test.YtmekcdjaafegaaaGreatDoorRG
namespace Go.Proofs.YtmekcdjaafegaaaGreatDoor
open Go Sat Go.RowKit Go.PlainAid
set_option linter.unusedSimpArgs false
set_option linter.unusedVariables false
theorem readE_big (s : ByteArray) : Big (readE s).1 := by
  unfold readE
  split
  · split
    · split
      · exact rdF_big s
      · exact ⟨by decide, by decide⟩
    · exact ⟨by decide, by decide⟩
  · exact ⟨by decide, by decide⟩
set_option maxRecDepth 100000 in
set_option maxHeartbeats 8000000 in
theorem reads_any (s : ByteArray) (w : World) (hw : Wf w) :
    Calls Tryz.prog 5 #[.string s] w fun e w' => e = .returned (.bool true) ∧ Below w.heap.size w w' := by
  refine calls_sat (cx := Tryz.cx 25 [] [] [] w) (Tryz.ok ..) Tryz.func5 rfl [.v (.string s)] rfl (by show 1 ≤ 25; omega) [] (holds_nil (Nat.le_refl _)) ?_
  by_cases h2 : 2000 < s.size
  · repeat' ((conv => whnf); first | refine walk (Tryz.ok ..) ?_ | (refine Cnd.mk (fun h => ?_) (fun h => ?_) <;> (first | exact cndT h (by (try dsimp only); omega) | exact cndF h (by (try dsimp only); omega) | (exfalso; simp at h; omega) | simp at h | skip)) | fail)
    exact done_pure rfl rfl rfl
  have hR := fun w (hw : Wf w) => read_any s w hw (by omega)
  have hR' := fun w => rread_any s w (by omega)
  have hbg := readE_big s
  obtain ⟨r, er⟩ : ∃ r, r = readE s := ⟨_, rfl⟩
  rw [← er] at hR hR' hbg
  have l17 := frC_len r.1
  repeat' ((conv => whnf); first | refine walk (Tryz.ok ..) ?_ | (refine Cnd.mk (fun h => ?_) (fun h => ?_) <;> (first | exact cndT h (by (try dsimp only); omega) | exact cndF h (by (try dsimp only); omega) | (exfalso; simp at h; omega) | simp at h | skip)) | fail)
  refine called_at (.t [.a (frC r.1), .v (.int .i64 r.2)]) rfl (fun w' hh => hR w' (hw.at_ rfl rfl hh)) ?_
  skip
  (conv => whnf)
  intro g3 hg3
  repeat' ((conv => whnf); first | refine walk (Tryz.ok ..) ?_ | refine side2 ?_ | fail)
  refine called_pure (.t [.a (frC r.1), .v (.int .i64 r.2)]) rfl hR' ?_
  skip
  (conv => whnf)
  intro g5 hg5
  repeat' ((conv => whnf); first | refine walk (Tryz.ok ..) ?_ | refine side2 ?_ | fail)
  refine called_pure (.v (.bool true)) rfl (fun w' => by exact pair_same r.1 r.2 w' hbg) ?_
  repeat' ((conv => whnf); first | refine walk (Tryz.ok ..) ?_ | fail)
  exact done_pure rfl rfl rfl
theorem freads_any (s : ByteArray) (w : World) (hw : Wf w) :
    Calls Tryz.prog 3 #[.string s] w fun e w' => e = .returned (.bool true) ∧ Below w.heap.size w w' := by
  refine calls_sat (cx := Tryz.cx 8 [] [] [] w) (Tryz.ok ..) Tryz.func3 rfl [.v (.string s)] rfl (by show 1 ≤ 8; omega) [] (holds_nil (Nat.le_refl _)) ?_
  repeat' ((conv => whnf); first | refine walk (Tryz.ok ..) ?_ | fail)
  refine called_at (.v (.bool true)) rfl (fun w' hh => reads_any s w' (hw.at_ rfl rfl hh)) ?_
  repeat' ((conv => whnf); first | (refine Cnd.mk (fun h => ?_) (fun h => ?_) <;> (first | exact cndT h (by (try dsimp only); omega) | exact cndF h (by (try dsimp only); omega) | (exfalso; simp at h; omega) | simp at h | skip)) | refine Or.inr ?_ | fail)
  refine called_at (.v (.bool true)) rfl (fun w' hh => awake_any w' (hw.at_ rfl rfl hh)) ?_
  repeat' ((conv => whnf); first | refine walk (Tryz.ok ..) ?_ | fail)
  exact done_pure rfl rfl rfl
end Go.Proofs.YtmekcdjaafegaaaGreatDoor
