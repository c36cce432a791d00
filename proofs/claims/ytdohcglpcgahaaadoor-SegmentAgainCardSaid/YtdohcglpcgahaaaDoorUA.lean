/-
  The walk of SegmentAgain.
-/
import Derived.Test.YtdohcglpcgahaaaDoorUX
import Derived.Test.YtdohcglpcgahaaaDoorSX2
import Derived.Test.YtdohcglpcgahaaaDoorPX
set_option linter.unusedSimpArgs false
set_option linter.unusedVariables false
namespace Go.Proofs.YtdohcglpcgahaaaDoor
open Go Sat Go.RowKit Go.PlainAid
theorem okFrom_mem : ∀ {L : List ByteArray} {l : List Msg}, okFrom L l = true → ∀ m ∈ l, rightM m = true
  | _, [], _, m, h => by cases h
  | L, x :: l, h, m, hm => by
    rw [okFrom] at h
    simp only [Bool.and_eq_true] at h
    rcases List.mem_cons.1 hm with rfl | hm
    · exact h.1
    · exact okFrom_mem h.2.2 m hm
theorem rightM_few {m : Msg} (h : rightM m = true) : FewW m := by
  obtain ⟨h1, h2, h3⟩ := rightM_at h
  have a1 := (letters_ok h1).1
  have a2 := (letters_ok h2).1
  refine ⟨?_, ?_, fun s hs => ?_⟩
  · show m.kind.data.toList.length ≤ _
    omega
  · show m.ref.data.toList.length ≤ _
    omega
  obtain ⟨h4, h5⟩ := h3 s hs
  obtain ⟨h6, h7⟩ := rightS_at h5
  have a3 : s.1.data.toList.length ≤ 3 := by
    unfold tagB at h4
    simp only [Bool.and_eq_true] at h4
    exact (letters_ok h4.1.1).1
  rw [List.length_cons] at h6
  refine ⟨⟨?_, by omega⟩, ⟨by omega, fun e he => ?_⟩⟩
  · show s.1.data.toList.length ≤ _
    omega
  · have := (h7 e (List.mem_cons_of_mem _ he)).1
    omega
theorem segsL_ge : ∀ (l : List Msg), l.length ≤ (segsL l).length ∧ ∀ m ∈ l, m.segs.length ≤ (segsL l).length
  | [] => ⟨Nat.le_refl _, fun m h => by cases h⟩
  | x :: l => by
    obtain ⟨h1, h2⟩ := segsL_ge l
    have e : (segsL (x :: l)).length = (x.segs.length + 2) + (segsL l).length := by
      rw [show segsL (x :: l) = segsM x ++ segsL l from rfl, List.length_append]
      simp [segsM]
    refine ⟨by rw [e, List.length_cons]; omega, fun m hm => ?_⟩
    rcases List.mem_cons.1 hm with rfl | hm
    · omega
    · have := h2 m hm
      omega
theorem AgainG.fewW {t : List UInt8} {l : List Msg} (h : AgainG t l) : ∀ m ∈ l, FewW m := fun m hm => rightM_few (okFrom_mem h.ok m hm)
theorem AgainG.fewO {t : List UInt8} {l : List Msg} (h : AgainG t l) : FewO l := by
  have h1 := segsL_ge l
  have h2 := h.few
  exact ⟨by omega, fun m hm => ⟨by have := h1.2 m hm; omega, fun s hs => ((h.fewW m hm).seg s hs).2⟩⟩
theorem nmsgs_len {w : World} {B : Nat → Prop} {v : Value} {l : List Msg} (h : NMsgs NS w B v l) : ∃ a c, v = .slice a l.length c := by
  obtain ⟨a, A, cap, xs, hv, -⟩ := h
  exact ⟨a, cap, hv⟩
set_option maxRecDepth 100000 in
set_option maxHeartbeats 16000000 in
theorem segmentAgain_any (s : ByteArray) (w : World) (hw : WfT w) :
    Calls Tryd.prog 7 #[.string s] w fun e w' => e = .returned (.bool true) ∧ Below w.heap.size w w' := by
  refine calls_sat (cx := Tryd.cx 66 [] [] [] w) (Tryd.ok ..) Tryd.func7 rfl [.v (.string s)] rfl (by show 1 ≤ 66; omega) [] (holds_nil (Nat.le_refl _)) ?_
  repeat' ((conv => whnf); first | refine walk (Tryd.ok ..) ?_ | (refine Cnd.mk (fun h => ?_) (fun h => ?_) <;> (first | exact cndT h (by (try dsimp only); omega) | exact cndF h (by (try dsimp only); omega) | (exfalso; simp at h; omega) | simp at h | skip)) | refine kp ?_ ?_ | refine tw ?_ ?_ | refine appnil rfl ?_ | refine rawnil rfl ?_ | exact trivial | refine side2 ?_ | refine sideL2 ?_ | refine Or.inr ?_ | refine sat_drawH (Tryd.ok ..) (by kernel_rfl) ?_ | refine xi _ (And.intro rfl rfl) ?_ | refine xi _ (fun _ => And.intro rfl rfl) ?_ | refine xi _ rfl ?_)
  (conv => whnf)
  refine called_at (.v (.bool true)) rfl (fun w' hh => by exact awakeG_any w' (hw.at_ rfl rfl hh)) ?_
  by_cases hsz : (s.size : Int) > 3000
  · repeat' ((conv => whnf); first | refine walk (Tryd.ok ..) ?_ | (refine Cnd.mk (fun h => ?_) (fun h => ?_) <;> (first | exact cndT h (by (try dsimp only); omega) | exact cndF h (by (try dsimp only); omega) | (exfalso; simp at h; omega) | simp at h | skip)) | refine kp ?_ ?_ | refine tw ?_ ?_ | refine appnil rfl ?_ | refine rawnil rfl ?_ | exact trivial | refine side2 ?_ | refine sideL2 ?_ | refine Or.inr ?_ | refine sat_drawH (Tryd.ok ..) (by kernel_rfl) ?_ | refine xi _ (And.intro rfl rfl) ?_ | refine xi _ (fun _ => And.intro rfl rfl) ?_ | refine xi _ rfl ?_)
    exact done_pure rfl rfl rfl
  repeat' ((conv => whnf); first | refine walk (Tryd.ok ..) ?_ | (refine Cnd.mk (fun h => ?_) (fun h => ?_) <;> (first | exact cndT h (by (try dsimp only); omega) | exact cndF h (by (try dsimp only); omega) | (exfalso; simp at h; omega) | simp at h | skip)) | refine kp ?_ ?_ | refine tw ?_ ?_ | refine appnil rfl ?_ | refine rawnil rfl ?_ | exact trivial | refine side2 ?_ | refine sideL2 ?_ | refine Or.inr ?_ | refine sat_drawH (Tryd.ok ..) (by kernel_rfl) ?_ | refine xi _ (And.intro rfl rfl) ?_ | refine xi _ (fun _ => And.intro rfl rfl) ?_ | refine xi _ rfl ?_)
  (conv => whnf)
  obtain ⟨l, p, e, hG⟩ : ∃ l p e, readG s.data.toList = (l, p, e) := ⟨_, _, _, rfl⟩
  refine called_nest 901 (mk := fun v => .tuple #[v, .int .i64 p, .int .i64 e]) (Q := fun w B v => NMsgs NS w B v l) (fun v => .t [.v v, .v (.int .i64 p), .v (.int .i64 e)]) (fun _ => rfl) (fun w' hh => by exact readG_lit hG w' (hw.at_ rfl rfl hh)) ?_
  intro w1 gs1 v1 h1
  obtain ⟨a1, c1, rfl⟩ := nmsgs_len h1
  by_cases he : e = 0
  case neg =>
    have hl := readG_wrong hG he
    subst hl
    repeat' ((conv => whnf); first | refine walk (Tryd.ok ..) ?_ | (refine Cnd.mk (fun h => ?_) (fun h => ?_) <;> (first | exact cndT h (by (try dsimp only); omega) | exact cndF h (by (try dsimp only); omega) | (exfalso; simp at h; omega) | simp at h | skip)) | refine kp ?_ ?_ | refine tw ?_ ?_ | refine appnil rfl ?_ | refine rawnil rfl ?_ | exact trivial | refine side2 ?_ | refine sideL2 ?_ | refine Or.inr ?_ | refine sat_drawH (Tryd.ok ..) (by kernel_rfl) ?_ | refine xi _ (And.intro rfl rfl) ?_ | refine xi _ (fun _ => And.intro rfl rfl) ?_ | refine xi _ rfl ?_)
    all_goals first | exact done_pure rfl rfl rfl | omega
  subst he
  have hlen : s.data.toList.length ≤ 65536 := by
    have : s.data.toList.length = s.size := rfl
    omega
  obtain ⟨rfl, hA⟩ := againG hlen hG
  repeat' ((conv => whnf); first | refine walk (Tryd.ok ..) ?_ | (refine Cnd.mk (fun h => ?_) (fun h => ?_) <;> (first | exact cndT h (by (try dsimp only); omega) | exact cndF h (by (try dsimp only); omega) | (exfalso; simp at h; omega) | simp at h | skip)) | refine kp ?_ ?_ | refine tw ?_ ?_ | refine appnil rfl ?_ | refine rawnil rfl ?_ | exact trivial | refine side2 ?_ | refine sideL2 ?_ | refine Or.inr ?_ | refine sat_drawH (Tryd.ok ..) (by kernel_rfl) ?_ | refine xi _ (And.intro rfl rfl) ?_ | refine xi _ (fun _ => And.intro rfl rfl) ?_ | refine xi _ rfl ?_)
  (conv => whnf)
  refine called_at (.t [.v (.string (ba ((segsL l).flatMap wS))), .v (.int .i64 0)]) rfl (fun w' hh => by exact writeG_lit hA.write _ w' (hw.at_ rfl rfl hh) (nmsgs_arg (frz_is (nmsgs_stays ns_stays) h1 (d := 901) rfl hh)) hA.fewW (Nat.le_trans hA.few (by omega))) ?_
  repeat' ((conv => whnf); first | refine walk (Tryd.ok ..) ?_ | (refine Cnd.mk (fun h => ?_) (fun h => ?_) <;> (first | exact cndT h (by (try dsimp only); omega) | exact cndF h (by (try dsimp only); omega) | (exfalso; simp at h; omega) | simp at h | skip)) | refine kp ?_ ?_ | refine tw ?_ ?_ | refine appnil rfl ?_ | refine rawnil rfl ?_ | exact trivial | refine side2 ?_ | refine sideL2 ?_ | refine Or.inr ?_ | refine sat_drawH (Tryd.ok ..) (by kernel_rfl) ?_ | refine xi _ (And.intro rfl rfl) ?_ | refine xi _ (fun _ => And.intro rfl rfl) ?_ | refine xi _ rfl ?_)
  (conv => whnf)
  refine called_nest 902 (mk := fun v => .tuple #[v, .int .i64 0, .int .i64 0]) (Q := fun w B v => NMsgs NS w B v l) (fun v => .t [.v v, .v (.int .i64 0), .v (.int .i64 0)]) (fun _ => rfl) (fun w' hh => by exact readG_lit (s := ba ((segsL l).flatMap wS)) hA.read w' (hw.at_ rfl rfl hh)) ?_
  intro w2 gs2 v2 h2
  obtain ⟨a2, c2, rfl⟩ := nmsgs_len h2
  repeat' ((conv => whnf); first | refine walk (Tryd.ok ..) ?_ | (refine Cnd.mk (fun h => ?_) (fun h => ?_) <;> (first | exact cndT h (by (try dsimp only); omega) | exact cndF h (by (try dsimp only); omega) | (exfalso; simp at h; omega) | simp at h | skip)) | refine kp ?_ ?_ | refine tw ?_ ?_ | refine appnil rfl ?_ | refine rawnil rfl ?_ | exact trivial | refine side2 ?_ | refine sideL2 ?_ | refine Or.inr ?_ | refine sat_drawH (Tryd.ok ..) (by kernel_rfl) ?_ | refine xi _ (And.intro rfl rfl) ?_ | refine xi _ (fun _ => And.intro rfl rfl) ?_ | refine xi _ rfl ?_)
  (conv => whnf)
  refine called_at (.v (.bool true)) rfl (fun w' hh => by
    have := rightL_any l _ w' (nmsgs_arg (frz_is (nmsgs_stays ns_stays) h1 (d := 901) rfl hh)) (fun m hm => (hA.fewW m hm).m)
    rw [hA.ok] at this
    exact this) ?_
  repeat' ((conv => whnf); first | refine walk (Tryd.ok ..) ?_ | (refine Cnd.mk (fun h => ?_) (fun h => ?_) <;> (first | exact cndT h (by (try dsimp only); omega) | exact cndF h (by (try dsimp only); omega) | (exfalso; simp at h; omega) | simp at h | skip)) | refine kp ?_ ?_ | refine tw ?_ ?_ | refine appnil rfl ?_ | refine rawnil rfl ?_ | exact trivial | refine side2 ?_ | (with_reducible refine Or.inr (Cnd.mk (fun _ => ?_) (fun h => absurd (of_decide_eq_false h) (by omega)))) | (with_reducible refine Or.inr (Cnd.mk (fun _ => ?_) (fun h => absurd h (by simp)))) | refine sideL2 ?_ | refine Or.inr ?_ | refine sat_drawH (Tryd.ok ..) (by kernel_rfl) ?_ | refine xi _ (And.intro rfl rfl) ?_ | refine xi _ (fun _ => And.intro rfl rfl) ?_ | refine xi _ rfl ?_)
  (conv => whnf)
  refine called_nest 903 (mk := id) (Q := fun w B v => NMsgs NS w B v l) (fun v => .v v) (fun _ => rfl) (fun w' hh => by
    have := trimmed_any l _ w' (nmsgs_arg (frz_is (nmsgs_stays ns_stays) h1 (d := 901) rfl hh)) hA.fewO
    rw [hA.trim] at this
    exact this) ?_
  intro w3 gs3 v3 h3
  obtain ⟨a3, c3, rfl⟩ := nmsgs_len h3
  repeat' ((conv => whnf); first | refine walk (Tryd.ok ..) ?_ | (refine Cnd.mk (fun h => ?_) (fun h => ?_) <;> (first | exact cndT h (by (try dsimp only); omega) | exact cndF h (by (try dsimp only); omega) | (exfalso; simp at h; omega) | simp at h | skip)) | refine kp ?_ ?_ | refine tw ?_ ?_ | refine appnil rfl ?_ | refine rawnil rfl ?_ | exact trivial | refine side2 ?_ | refine sideL2 ?_ | refine Or.inr ?_ | refine sat_drawH (Tryd.ok ..) (by kernel_rfl) ?_ | refine xi _ (And.intro rfl rfl) ?_ | refine xi _ (fun _ => And.intro rfl rfl) ?_ | refine xi _ rfl ?_)
  (conv => whnf)
  refine calledQ_at (.v (.bool (decide (l = l)))) rfl (fun _ w' hh => by exact sameG_any l l _ _ w' (nmsgs_arg (frz_is (nmsgs_stays ns_stays) h1 (d := 901) rfl hh)) (nmsgs_arg (frz_is (nmsgs_stays ns_stays) h3 (d := 903) rfl hh))) ?_
  rw [decide_eq_true (rfl : l = l)]
  repeat' ((conv => whnf); first | refine walk (Tryd.ok ..) ?_ | (refine Cnd.mk (fun h => ?_) (fun h => ?_) <;> (first | exact cndT h (by (try dsimp only); omega) | exact cndF h (by (try dsimp only); omega) | (exfalso; simp at h; omega) | simp at h | skip)) | refine kp ?_ ?_ | refine tw ?_ ?_ | refine appnil rfl ?_ | refine rawnil rfl ?_ | exact trivial | refine side2 ?_ | refine sideL2 ?_ | refine Or.inr ?_ | refine sat_drawH (Tryd.ok ..) (by kernel_rfl) ?_ | refine xi _ (And.intro rfl rfl) ?_ | refine xi _ (fun _ => And.intro rfl rfl) ?_ | refine xi _ rfl ?_)
  (conv => whnf)
  refine calledQ_at (.v (.bool (decide (l = l)))) rfl (fun _ w' hh => by exact sameG_any l l _ _ w' (nmsgs_arg (frz_is (nmsgs_stays ns_stays) h1 (d := 901) rfl hh)) (nmsgs_arg (frz_is (nmsgs_stays ns_stays) h2 (d := 902) rfl hh))) ?_
  rw [decide_eq_true (rfl : l = l)]
  have hle : ((ba ((segsL l).flatMap wS)).size : Int) ≤ s.size := Int.ofNat_le.2 hA.len
  repeat' ((conv => whnf); first | refine walk (Tryd.ok ..) ?_ | (refine Cnd.mk (fun h => ?_) (fun h => ?_) <;> (first | exact cndT h (by (try dsimp only); omega) | exact cndF h (by (try dsimp only); omega) | (exfalso; simp at h; omega) | simp at h | skip)) | refine kp ?_ ?_ | refine tw ?_ ?_ | refine appnil rfl ?_ | refine rawnil rfl ?_ | exact trivial | refine side2 ?_ | refine sideL2 ?_ | refine Or.inr ?_ | refine sat_drawH (Tryd.ok ..) (by kernel_rfl) ?_ | refine xi _ (And.intro rfl rfl) ?_ | refine xi _ (fun _ => And.intro rfl rfl) ?_ | refine xi _ rfl ?_)
  exact done_pure rfl rfl (congrArg Value.bool (decide_eq_true hle))
end Go.Proofs.YtdohcglpcgahaaaDoor
