/-
  The walk of SegmentAgain. The walk of the law's Small, on messages. What SegmentBack asks, plain. No program in sight. The walk of SegmentBack.
-/
import Derived.Test.YtdohcglpcgahaaaDoorUX
import Derived.Test.YtdohcglpcgahaaaDoorSXX
import Derived.Test.YtdohcglpcgahaaaDoorPX
import Derived.Test.YtdohcglpcgahaaaDoorVX
import Derived.Test.YtdohcglpcgahaaaDoorOX
import Derived.Test.YtdohcglpcgahaaaDoorTL
set_option linter.unusedSimpArgs false
set_option linter.unusedVariables false
namespace Go.Proofs.YtdohcglpcgahaaaDoor
section
open Go Sat Go.RowKit Go.PlainAid
theorem okFrom_mem : ∀ {L : List ByteArray} {l : List Msg}, okFrom L l = true → ∀ m ∈ l, rightM m = true
  | _, [], _, m, h => by cases h
  | L, x :: l, h, m, hm => by
    rw [okFrom] at h
    simp only [Bool.and_eq_true] at h
    rcases List.mem_cons.1 hm with rfl | hm
    · exact h.1
    · exact okFrom_mem h.2.2 m hm
theorem rightM_few {m : Msg} (h : rightM m = true) : FewW m := by
  obtain ⟨h1, h2, h3⟩ := rightM_at h
  have a1 := (letters_ok h1).1
  have a2 := (letters_ok h2).1
  refine ⟨?_, ?_, fun s hs => ?_⟩
  · show m.kind.data.toList.length ≤ _
    omega
  · show m.ref.data.toList.length ≤ _
    omega
  obtain ⟨h4, h5⟩ := h3 s hs
  obtain ⟨h6, h7⟩ := rightS_at h5
  have a3 : s.1.data.toList.length ≤ 3 := by
    unfold tagB at h4
    simp only [Bool.and_eq_true] at h4
    exact (letters_ok h4.1.1).1
  rw [List.length_cons] at h6
  refine ⟨⟨?_, by omega⟩, ⟨by omega, fun e he => ?_⟩⟩
  · show s.1.data.toList.length ≤ _
    omega
  · have := (h7 e (List.mem_cons_of_mem _ he)).1
    omega
theorem segsL_ge : ∀ (l : List Msg), l.length ≤ (segsL l).length ∧ ∀ m ∈ l, m.segs.length ≤ (segsL l).length
  | [] => ⟨Nat.le_refl _, fun m h => by cases h⟩
  | x :: l => by
    obtain ⟨h1, h2⟩ := segsL_ge l
    have e : (segsL (x :: l)).length = (x.segs.length + 2) + (segsL l).length := by
      rw [show segsL (x :: l) = segsM x ++ segsL l from rfl, List.length_append]
      simp [segsM]
    refine ⟨by rw [e, List.length_cons]; omega, fun m hm => ?_⟩
    rcases List.mem_cons.1 hm with rfl | hm
    · omega
    · have := h2 m hm
      omega
theorem AgainG.fewW {t : List UInt8} {l : List Msg} (h : AgainG t l) : ∀ m ∈ l, FewW m := fun m hm => rightM_few (okFrom_mem h.ok m hm)
theorem AgainG.fewO {t : List UInt8} {l : List Msg} (h : AgainG t l) : FewO l := by
  have h1 := segsL_ge l
  have h2 := h.few
  exact ⟨by omega, fun m hm => ⟨by have := h1.2 m hm; omega, fun s hs => ((h.fewW m hm).seg s hs).2⟩⟩
theorem nmsgs_len {w : World} {B : Nat → Prop} {v : Value} {l : List Msg} (h : NMsgs NS w B v l) : ∃ a c, v = .slice a l.length c := by
  obtain ⟨a, A, cap, xs, hv, -⟩ := h
  exact ⟨a, cap, hv⟩
set_option maxRecDepth 100000 in
set_option maxHeartbeats 16000000 in
theorem segmentAgain_any (s : ByteArray) (w : World) (hw : WfT w) :
    Calls Tryd.prog 7 #[.string s] w fun e w' => e = .returned (.bool true) ∧ Below w.heap.size w w' := by
  refine calls_sat (cx := Tryd.cx 66 [] [] [] w) (Tryd.ok ..) Tryd.func7 rfl [.v (.string s)] rfl (by show 1 ≤ 66; omega) [] (holds_nil (Nat.le_refl _)) ?_
  repeat' ((conv => whnf); first | refine walk (Tryd.ok ..) ?_ | (refine Cnd.mk (fun h => ?_) (fun h => ?_) <;> (first | exact cndT h (by (try dsimp only); omega) | exact cndF h (by (try dsimp only); omega) | (exfalso; simp at h; omega) | simp at h | skip)) | refine kp ?_ ?_ | refine tw ?_ ?_ | refine appnil rfl ?_ | refine rawnil rfl ?_ | exact trivial | refine side2 ?_ | refine sideL2 ?_ | refine Or.inr ?_ | refine sat_drawH (Tryd.ok ..) (by kernel_rfl) ?_ | refine xi _ (And.intro rfl rfl) ?_ | refine xi _ (fun _ => And.intro rfl rfl) ?_ | refine xi _ rfl ?_)
  (conv => whnf)
  refine called_at (.v (.bool true)) rfl (fun w' hh => by exact awakeG_any w' (hw.at_ rfl rfl hh)) ?_
  by_cases hsz : (s.size : Int) > 3000
  · repeat' ((conv => whnf); first | refine walk (Tryd.ok ..) ?_ | (refine Cnd.mk (fun h => ?_) (fun h => ?_) <;> (first | exact cndT h (by (try dsimp only); omega) | exact cndF h (by (try dsimp only); omega) | (exfalso; simp at h; omega) | simp at h | skip)) | refine kp ?_ ?_ | refine tw ?_ ?_ | refine appnil rfl ?_ | refine rawnil rfl ?_ | exact trivial | refine side2 ?_ | refine sideL2 ?_ | refine Or.inr ?_ | refine sat_drawH (Tryd.ok ..) (by kernel_rfl) ?_ | refine xi _ (And.intro rfl rfl) ?_ | refine xi _ (fun _ => And.intro rfl rfl) ?_ | refine xi _ rfl ?_)
    exact done_pure rfl rfl rfl
  repeat' ((conv => whnf); first | refine walk (Tryd.ok ..) ?_ | (refine Cnd.mk (fun h => ?_) (fun h => ?_) <;> (first | exact cndT h (by (try dsimp only); omega) | exact cndF h (by (try dsimp only); omega) | (exfalso; simp at h; omega) | simp at h | skip)) | refine kp ?_ ?_ | refine tw ?_ ?_ | refine appnil rfl ?_ | refine rawnil rfl ?_ | exact trivial | refine side2 ?_ | refine sideL2 ?_ | refine Or.inr ?_ | refine sat_drawH (Tryd.ok ..) (by kernel_rfl) ?_ | refine xi _ (And.intro rfl rfl) ?_ | refine xi _ (fun _ => And.intro rfl rfl) ?_ | refine xi _ rfl ?_)
  (conv => whnf)
  obtain ⟨l, p, e, hG⟩ : ∃ l p e, readG s.data.toList = (l, p, e) := ⟨_, _, _, rfl⟩
  refine called_nest 901 (mk := fun v => .tuple #[v, .int .i64 p, .int .i64 e]) (Q := fun w B v => NMsgs NS w B v l) (fun v => .t [.v v, .v (.int .i64 p), .v (.int .i64 e)]) (fun _ => rfl) (fun w' hh => by exact readG_lit hG w' (hw.at_ rfl rfl hh)) ?_
  intro w1 gs1 v1 h1
  obtain ⟨a1, c1, rfl⟩ := nmsgs_len h1
  by_cases he : e = 0
  case neg =>
    have hl := readG_wrong hG he
    subst hl
    repeat' ((conv => whnf); first | refine walk (Tryd.ok ..) ?_ | (refine Cnd.mk (fun h => ?_) (fun h => ?_) <;> (first | exact cndT h (by (try dsimp only); omega) | exact cndF h (by (try dsimp only); omega) | (exfalso; simp at h; omega) | simp at h | skip)) | refine kp ?_ ?_ | refine tw ?_ ?_ | refine appnil rfl ?_ | refine rawnil rfl ?_ | exact trivial | refine side2 ?_ | refine sideL2 ?_ | refine Or.inr ?_ | refine sat_drawH (Tryd.ok ..) (by kernel_rfl) ?_ | refine xi _ (And.intro rfl rfl) ?_ | refine xi _ (fun _ => And.intro rfl rfl) ?_ | refine xi _ rfl ?_)
    all_goals first | exact done_pure rfl rfl rfl | omega
  subst he
  have hlen : s.data.toList.length ≤ 65536 := by
    have : s.data.toList.length = s.size := rfl
    omega
  obtain ⟨rfl, hA⟩ := againG hlen hG
  repeat' ((conv => whnf); first | refine walk (Tryd.ok ..) ?_ | (refine Cnd.mk (fun h => ?_) (fun h => ?_) <;> (first | exact cndT h (by (try dsimp only); omega) | exact cndF h (by (try dsimp only); omega) | (exfalso; simp at h; omega) | simp at h | skip)) | refine kp ?_ ?_ | refine tw ?_ ?_ | refine appnil rfl ?_ | refine rawnil rfl ?_ | exact trivial | refine side2 ?_ | refine sideL2 ?_ | refine Or.inr ?_ | refine sat_drawH (Tryd.ok ..) (by kernel_rfl) ?_ | refine xi _ (And.intro rfl rfl) ?_ | refine xi _ (fun _ => And.intro rfl rfl) ?_ | refine xi _ rfl ?_)
  (conv => whnf)
  refine called_at (.t [.v (.string (ba ((segsL l).flatMap wS))), .v (.int .i64 0)]) rfl (fun w' hh => by exact writeG_lit hA.write _ w' (hw.at_ rfl rfl hh) (nmsgs_arg (frz_is (nmsgs_stays ns_stays) h1 (d := 901) rfl hh)) hA.fewW (Nat.le_trans hA.few (by omega))) ?_
  repeat' ((conv => whnf); first | refine walk (Tryd.ok ..) ?_ | (refine Cnd.mk (fun h => ?_) (fun h => ?_) <;> (first | exact cndT h (by (try dsimp only); omega) | exact cndF h (by (try dsimp only); omega) | (exfalso; simp at h; omega) | simp at h | skip)) | refine kp ?_ ?_ | refine tw ?_ ?_ | refine appnil rfl ?_ | refine rawnil rfl ?_ | exact trivial | refine side2 ?_ | refine sideL2 ?_ | refine Or.inr ?_ | refine sat_drawH (Tryd.ok ..) (by kernel_rfl) ?_ | refine xi _ (And.intro rfl rfl) ?_ | refine xi _ (fun _ => And.intro rfl rfl) ?_ | refine xi _ rfl ?_)
  (conv => whnf)
  refine called_nest 902 (mk := fun v => .tuple #[v, .int .i64 0, .int .i64 0]) (Q := fun w B v => NMsgs NS w B v l) (fun v => .t [.v v, .v (.int .i64 0), .v (.int .i64 0)]) (fun _ => rfl) (fun w' hh => by exact readG_lit (s := ba ((segsL l).flatMap wS)) hA.read w' (hw.at_ rfl rfl hh)) ?_
  intro w2 gs2 v2 h2
  obtain ⟨a2, c2, rfl⟩ := nmsgs_len h2
  repeat' ((conv => whnf); first | refine walk (Tryd.ok ..) ?_ | (refine Cnd.mk (fun h => ?_) (fun h => ?_) <;> (first | exact cndT h (by (try dsimp only); omega) | exact cndF h (by (try dsimp only); omega) | (exfalso; simp at h; omega) | simp at h | skip)) | refine kp ?_ ?_ | refine tw ?_ ?_ | refine appnil rfl ?_ | refine rawnil rfl ?_ | exact trivial | refine side2 ?_ | refine sideL2 ?_ | refine Or.inr ?_ | refine sat_drawH (Tryd.ok ..) (by kernel_rfl) ?_ | refine xi _ (And.intro rfl rfl) ?_ | refine xi _ (fun _ => And.intro rfl rfl) ?_ | refine xi _ rfl ?_)
  (conv => whnf)
  refine called_at (.v (.bool true)) rfl (fun w' hh => by
    have := rightL_any l _ w' (nmsgs_arg (frz_is (nmsgs_stays ns_stays) h1 (d := 901) rfl hh)) (fun m hm => (hA.fewW m hm).m)
    rw [hA.ok] at this
    exact this) ?_
  repeat' ((conv => whnf); first | refine walk (Tryd.ok ..) ?_ | (refine Cnd.mk (fun h => ?_) (fun h => ?_) <;> (first | exact cndT h (by (try dsimp only); omega) | exact cndF h (by (try dsimp only); omega) | (exfalso; simp at h; omega) | simp at h | skip)) | refine kp ?_ ?_ | refine tw ?_ ?_ | refine appnil rfl ?_ | refine rawnil rfl ?_ | exact trivial | refine side2 ?_ | (with_reducible refine Or.inr (Cnd.mk (fun _ => ?_) (fun h => absurd (of_decide_eq_false h) (by omega)))) | (with_reducible refine Or.inr (Cnd.mk (fun _ => ?_) (fun h => absurd h (by simp)))) | refine sideL2 ?_ | refine Or.inr ?_ | refine sat_drawH (Tryd.ok ..) (by kernel_rfl) ?_ | refine xi _ (And.intro rfl rfl) ?_ | refine xi _ (fun _ => And.intro rfl rfl) ?_ | refine xi _ rfl ?_)
  (conv => whnf)
  refine called_nest 903 (mk := id) (Q := fun w B v => NMsgs NS w B v l) (fun v => .v v) (fun _ => rfl) (fun w' hh => by
    have := trimmed_any l _ w' (nmsgs_arg (frz_is (nmsgs_stays ns_stays) h1 (d := 901) rfl hh)) hA.fewO
    rw [hA.trim] at this
    exact this) ?_
  intro w3 gs3 v3 h3
  obtain ⟨a3, c3, rfl⟩ := nmsgs_len h3
  repeat' ((conv => whnf); first | refine walk (Tryd.ok ..) ?_ | (refine Cnd.mk (fun h => ?_) (fun h => ?_) <;> (first | exact cndT h (by (try dsimp only); omega) | exact cndF h (by (try dsimp only); omega) | (exfalso; simp at h; omega) | simp at h | skip)) | refine kp ?_ ?_ | refine tw ?_ ?_ | refine appnil rfl ?_ | refine rawnil rfl ?_ | exact trivial | refine side2 ?_ | refine sideL2 ?_ | refine Or.inr ?_ | refine sat_drawH (Tryd.ok ..) (by kernel_rfl) ?_ | refine xi _ (And.intro rfl rfl) ?_ | refine xi _ (fun _ => And.intro rfl rfl) ?_ | refine xi _ rfl ?_)
  (conv => whnf)
  refine calledQ_at (.v (.bool (decide (l = l)))) rfl (fun _ w' hh => by exact sameG_any l l _ _ w' (nmsgs_arg (frz_is (nmsgs_stays ns_stays) h1 (d := 901) rfl hh)) (nmsgs_arg (frz_is (nmsgs_stays ns_stays) h3 (d := 903) rfl hh))) ?_
  rw [decide_eq_true (rfl : l = l)]
  repeat' ((conv => whnf); first | refine walk (Tryd.ok ..) ?_ | (refine Cnd.mk (fun h => ?_) (fun h => ?_) <;> (first | exact cndT h (by (try dsimp only); omega) | exact cndF h (by (try dsimp only); omega) | (exfalso; simp at h; omega) | simp at h | skip)) | refine kp ?_ ?_ | refine tw ?_ ?_ | refine appnil rfl ?_ | refine rawnil rfl ?_ | exact trivial | refine side2 ?_ | refine sideL2 ?_ | refine Or.inr ?_ | refine sat_drawH (Tryd.ok ..) (by kernel_rfl) ?_ | refine xi _ (And.intro rfl rfl) ?_ | refine xi _ (fun _ => And.intro rfl rfl) ?_ | refine xi _ rfl ?_)
  (conv => whnf)
  refine calledQ_at (.v (.bool (decide (l = l)))) rfl (fun _ w' hh => by exact sameG_any l l _ _ w' (nmsgs_arg (frz_is (nmsgs_stays ns_stays) h1 (d := 901) rfl hh)) (nmsgs_arg (frz_is (nmsgs_stays ns_stays) h2 (d := 902) rfl hh))) ?_
  rw [decide_eq_true (rfl : l = l)]
  have hle : ((ba ((segsL l).flatMap wS)).size : Int) ≤ s.size := Int.ofNat_le.2 hA.len
  repeat' ((conv => whnf); first | refine walk (Tryd.ok ..) ?_ | (refine Cnd.mk (fun h => ?_) (fun h => ?_) <;> (first | exact cndT h (by (try dsimp only); omega) | exact cndF h (by (try dsimp only); omega) | (exfalso; simp at h; omega) | simp at h | skip)) | refine kp ?_ ?_ | refine tw ?_ ?_ | refine appnil rfl ?_ | refine rawnil rfl ?_ | exact trivial | refine side2 ?_ | refine sideL2 ?_ | refine Or.inr ?_ | refine sat_drawH (Tryd.ok ..) (by kernel_rfl) ?_ | refine xi _ (And.intro rfl rfl) ?_ | refine xi _ (fun _ => And.intro rfl rfl) ?_ | refine xi _ rfl ?_)
  exact done_pure rfl rfl (congrArg Value.bool (decide_eq_true hle))
end
section
open Go Sat Go.RowKit Go.PlainAid
/-- what Small of chapter 4 tells of data -/
def SmallD (d : Dat) (b : Bool) : Prop := b = true → mS d ≤ 1000000000000 → mS d ≤ 700
theorem small_one (d : Dat) (va : Value) (w : World) (hA : NLA w (fun _ => True) va [d]) :
    Calls Tryd.prog 13 #[va] w fun e w' => ∃ b : Bool, SmallD d b ∧ e = .returned (.bool b) ∧ Below w.heap.size w w' := by
  by_cases h : mS d ≤ 1000000000000
  · refine (small_says [d] va w hA (fun s hs => by rw [List.mem_singleton] at hs; subst hs; exact h)).mono fun e w' hp => ?_
    obtain ⟨b, h1, h2⟩ := hp
    exact ⟨b, fun hb _ => (h1 hb).2 d List.mem_cons_self, h2⟩
  · refine (small_some [d] va w hA).mono fun e w' hp => ?_
    obtain ⟨b, h1, h2⟩ := hp
    exact ⟨b, fun _ h' => absurd h' h, h2⟩
structure SmallM (m : Msg) : Prop where
  segs : m.segs.length ≤ 12
  kind : m.kind.size ≤ 100
  ref : m.ref.size ≤ 100
  seg : ∀ s ∈ m.segs, s.1.size ≤ 100 ∧ (mS s.2 ≤ 1000000000000 → mS s.2 ≤ 700)
def SmallG (l : List Msg) (b : Bool) : Prop := b = true → l.length ≤ 6 ∧ ∀ m ∈ l, SmallM m
set_option maxRecDepth 100000 in
set_option maxHeartbeats 16000000 in
theorem smallG_any (l : List Msg) (va : Value) (w : World) (hA : NMsgs NSA w (fun _ => True) va l) :
    Calls Tryd.prog 11 #[va] w fun e w' => ∃ b : Bool, SmallG l b ∧ e = .returned (.bool b) ∧ Below w.heap.size w w' := by
  obtain ⟨A', A, cA, xs, rfl, aA, hcA, hrA, -, hxA⟩ := hA
  refine calls_sat (cx := Tryd.cx 74 [] [] [] w) (Tryd.ok ..) Tryd.func11 rfl [.v (.slice A' l.length cA)] rfl (by show 1 ≤ 74; omega) [] (holds_nil (Nat.le_refl _)) ?_
  have hmax : l.length ≤ 9223372036854775807 := Nat.le_trans (Nat.le_trans hcA.1 hcA.2) (by decide)
  repeat' ((conv => whnf); first | refine walk (Tryd.ok ..) ?_ | (refine Cnd.mk (fun h => ?_) (fun h => ?_) <;> (first | exact cndT h (by (try dsimp only); omega) | exact cndF h (by (try dsimp only); omega) | (exfalso; simp at h; omega) | simp at h | skip)) | refine kp ?_ ?_ | refine tw ?_ ?_ | refine appnil rfl ?_ | refine rawnil rfl ?_ | exact trivial | refine side2 ?_ | refine sideL2 ?_ | refine Or.inr ?_ | refine sat_drawH (Tryd.ok ..) (by kernel_rfl) ?_ | refine xi _ (And.intro rfl rfl) ?_ | refine xi _ (fun _ => And.intro rfl rfl) ?_ | refine xi _ rfl ?_)
  refine sat_loop (Tryd.ok ..) (α := Nat) (fun i => ([(0, .yes, .v (.slice A' l.length cA)), (3, .yes, .v (.int .i64 i))], []))
    (fun i => i ≤ l.length ∧ ∀ m ∈ l.take i, SmallM m) (fun i => l.length - i) (fun _ => rfl) ?_ ?_
  · refine ⟨0, ⟨Nat.zero_le _, fun m h => by simp at h⟩, ?_, ?_, rfl⟩
    all_goals ((repeat' (first | exact trivial | exact rfl | refine And.intro ?_ ?_)) <;> (try (conv => whnf)) <;> (try simp only [SV.real, SV.r2, SV.r1]))
  rintro i ⟨hi, hs0⟩
  by_cases hi1 : i < l.length
  case neg =>
    obtain rfl : i = l.length := by omega
    rw [List.take_length] at hs0
    repeat' ((conv => whnf); first | refine walk (Tryd.ok ..) ?_ | (refine Cnd.mk (fun h => ?_) (fun h => ?_) <;> (first | exact cndT h (by (try dsimp only); omega) | exact cndF h (by (try dsimp only); omega) | (exfalso; simp at h; omega) | simp at h | skip)) | refine kp ?_ ?_ | refine tw ?_ ?_ | refine appnil rfl ?_ | refine rawnil rfl ?_ | exact trivial | refine side2 ?_ | refine sideL2 ?_ | refine Or.inr ?_ | refine sat_drawH (Tryd.ok ..) (by kernel_rfl) ?_ | refine xi _ (And.intro rfl rfl) ?_ | refine xi _ (fun _ => And.intro rfl rfl) ?_ | refine xi _ rfl ?_)
    exact done_some rfl rfl (decide ((l.length : Int) ≤ 6)) (fun h => ⟨by have := of_decide_eq_true h; omega, hs0⟩) rfl
  obtain ⟨m, hm⟩ : ∃ s, l[i]? = some s := ⟨_, List.getElem?_eq_getElem hi1⟩
  obtain ⟨vm, hcm, hvm⟩ := hxA i m hm
  obtain ⟨p, rfl, rfl⟩ := some_ofz aA hrA (by omega)
  obtain ⟨am, Am, cm, xm, rfl, aAm, hcmm, hrm, -, hxm⟩ := hvm
  have hmaxm : m.segs.length ≤ 9223372036854775807 := Nat.le_trans (Nat.le_trans hcmm.1 hcmm.2) (by decide)
  repeat' ((conv => whnf); first | refine walk (Tryd.ok ..) ?_ | (refine Cnd.mk (fun h => ?_) (fun h => ?_) <;> (first | exact cndT h (by (try dsimp only); omega) | exact cndF h (by (try dsimp only); omega) | (exfalso; simp at h; omega) | simp at h | skip)) | refine kp ?_ ?_ | refine tw ?_ ?_ | refine appnil rfl ?_ | refine rawnil rfl ?_ | exact trivial | refine side2 ?_ | refine sideL2 ?_ | refine Or.inr ?_ | refine sat_drawH (Tryd.ok ..) (by kernel_rfl) ?_ | refine xi _ (And.intro rfl rfl) ?_ | refine xi _ (fun _ => And.intro rfl rfl) ?_ | refine xi _ rfl ?_ | refine xi _ (fun _ => (ro_cellz (j := 0) rfl rfl hrA hcm rfl rfl (kz i 3) hi1)) ?_ | refine xi _ (ro_cellz (j := 0) rfl rfl hrA hcm rfl rfl (kz i 3) hi1) ?_ | refine xi _ (fun _ => (ro_cellz (j := 1) rfl rfl hrA hcm rfl rfl (kz i 3) hi1)) ?_ | refine xi _ (ro_cellz (j := 1) rfl rfl hrA hcm rfl rfl (kz i 3) hi1) ?_ | refine xi _ (fun _ => (ro_cellz (j := 2) rfl rfl hrA hcm rfl rfl (kz i 3) hi1)) ?_ | refine xi _ (ro_cellz (j := 2) rfl rfl hrA hcm rfl rfl (kz i 3) hi1) ?_)
  · exact done_some rfl rfl false (fun h => by cases h) rfl
  refine sat_loop (Tryd.ok ..) (α := Nat) (fun k => ([(0, .yes, .v (.slice (adr (some p)) l.length cA)), (3, .yes, .v (.int .i64 i)), (4, .yes, .v (.int .i64 k))], []))
    (fun k => k ≤ m.segs.length ∧ ∀ s ∈ m.segs.take k, s.1.size ≤ 100 ∧ (mS s.2 ≤ 1000000000000 → mS s.2 ≤ 700)) (fun k => m.segs.length - k) (fun _ => rfl) ?_ ?_
  · refine ⟨0, ⟨Nat.zero_le _, fun m h => by simp at h⟩, ?_, ?_, rfl⟩
    all_goals ((repeat' (first | exact trivial | exact rfl | refine And.intro ?_ ?_)) <;> (try (conv => whnf)) <;> (try simp only [SV.real, SV.r2, SV.r1]))
  rintro k ⟨hk, hs1⟩
  by_cases hk1 : k < m.segs.length
  case neg =>
    obtain rfl : k = m.segs.length := by omega
    rw [List.take_length] at hs1
    repeat' ((conv => whnf); first | refine walk (Tryd.ok ..) ?_ | (refine Cnd.mk (fun h => ?_) (fun h => ?_) <;> (first | exact cndT h (by (try dsimp only); omega) | exact cndF h (by (try dsimp only); omega) | (exfalso; simp at h; omega) | simp at h | skip)) | refine kp ?_ ?_ | refine tw ?_ ?_ | refine appnil rfl ?_ | refine rawnil rfl ?_ | exact trivial | refine side2 ?_ | refine sideL2 ?_ | refine Or.inr ?_ | refine sat_drawH (Tryd.ok ..) (by kernel_rfl) ?_ | refine xi _ (And.intro rfl rfl) ?_ | refine xi _ (fun _ => And.intro rfl rfl) ?_ | refine xi _ rfl ?_ | refine xi _ (fun _ => (ro_cellz (j := 2) rfl rfl hrA hcm rfl rfl (kz i 3) hi1)) ?_ | refine xi _ (ro_cellz (j := 2) rfl rfl hrA hcm rfl rfl (kz i 3) hi1) ?_)
    refine ⟨i + 1, ⟨⟨hi1, fun m' hm' => ?_⟩, by omega⟩, ?_, ?_, rfl⟩
    · rw [List.take_add_one, hm] at hm'
      rcases List.mem_append.1 hm' with hm' | hm'
      · exact hs0 m' hm'
      · simp at hm'
        subst hm'
        exact ⟨by omega, by omega, by omega, hs1⟩
    all_goals ((repeat' (first | exact trivial | exact rfl | refine And.intro ?_ ?_)) <;> (try (conv => whnf)) <;> (try simp only [SV.real, SV.r2, SV.r1]))
  obtain ⟨s, hs⟩ : ∃ s, m.segs[k]? = some s := ⟨_, List.getElem?_eq_getElem hk1⟩
  obtain ⟨vd, hcd, hvd⟩ := hxm k s hs
  obtain ⟨q, rfl, rfl⟩ := some_ofz aAm hrm (by omega)
  obtain ⟨ad, nd, cd2, rfl⟩ := nsa_sl _ _ _ _ hvd
  by_cases hsz : s.1.size ≤ 100
  case neg =>
    have hG : decide ((100 : Int) < (s.1.size : Int)) = true := decide_eq_true (by omega)
    repeat' ((conv => whnf); first | ((refine Or.inl ?_; (conv => whnf); refine calledQ_at (.v (.bool true)) rfl (fun h _ _ => absurd h (by simp [Grd.holds, hG])) ?_)) | refine walk (Tryd.ok ..) ?_ | (refine Cnd.mk (fun h => ?_) (fun h => ?_) <;> (first | exact cndT h (by (try dsimp only); omega) | exact cndF h (by (try dsimp only); omega) | (exfalso; simp at h; omega) | simp at h | skip)) | refine kp ?_ ?_ | refine tw ?_ ?_ | refine appnil rfl ?_ | refine rawnil rfl ?_ | exact trivial | refine side2 ?_ | refine sideL2 ?_ | refine Or.inr ?_ | refine sat_drawH (Tryd.ok ..) (by kernel_rfl) ?_ | refine xi _ (And.intro rfl rfl) ?_ | refine xi _ (fun _ => And.intro rfl rfl) ?_ | refine xi _ rfl ?_ | refine xi _ (fun _ => (ro_cellz (j := 2) rfl rfl hrA hcm rfl rfl (kz i 3) hi1)) ?_ | refine xi _ (ro_cellz (j := 2) rfl rfl hrA hcm rfl rfl (kz i 3) hi1) ?_ | refine xi _ (fun _ => (ro_cellz (j := 0) rfl rfl hrm hcd rfl rfl (kz k 2) hk1)) ?_ | refine xi _ (ro_cellz (j := 0) rfl rfl hrm hcd rfl rfl (kz k 2) hk1) ?_ | refine xi _ (fun _ => (ro_cellz (j := 1) rfl rfl hrm hcd rfl rfl (kz k 2) hk1)) ?_ | refine xi _ (ro_cellz (j := 1) rfl rfl hrm hcd rfl rfl (kz k 2) hk1) ?_)
    all_goals first | exact done_some rfl rfl false (fun h => by cases h) rfl | skip
  have hG : decide ((100 : Int) < (s.1.size : Int)) = false := decide_eq_false (by omega)
  repeat' ((conv => whnf); first | refine walk (Tryd.ok ..) ?_ | (refine Cnd.mk (fun h => ?_) (fun h => ?_) <;> (first | exact cndT h (by (try dsimp only); omega) | exact cndF h (by (try dsimp only); omega) | (exfalso; simp at h; omega) | simp at h | skip)) | refine kp ?_ ?_ | refine tw ?_ ?_ | refine appnil rfl ?_ | refine rawnil rfl ?_ | exact trivial | refine side2 ?_ | refine sideL2 ?_ | refine Or.inr ?_ | refine sat_drawH (Tryd.ok ..) (by kernel_rfl) ?_ | refine xi _ (And.intro rfl rfl) ?_ | refine xi _ (fun _ => And.intro rfl rfl) ?_ | refine xi _ rfl ?_ | refine xi _ (fun _ => (ro_cellz (j := 2) rfl rfl hrA hcm rfl rfl (kz i 3) hi1)) ?_ | refine xi _ (ro_cellz (j := 2) rfl rfl hrA hcm rfl rfl (kz i 3) hi1) ?_ | refine xi _ (fun _ => (ro_cellz (j := 0) rfl rfl hrm hcd rfl rfl (kz k 2) hk1)) ?_ | refine xi _ (ro_cellz (j := 0) rfl rfl hrm hcd rfl rfl (kz k 2) hk1) ?_ | refine xi _ (fun _ => (ro_cellz (j := 1) rfl rfl hrm hcd rfl rfl (kz k 2) hk1)) ?_ | refine xi _ (ro_cellz (j := 1) rfl rfl hrm hcd rfl rfl (kz k 2) hk1) ?_)
  (conv => whnf)
  refine ⟨by show (!decide (_ < _)) = true; rw [decide_eq_false (by omega)]; rfl, ?_⟩
  (conv => whnf)
  intro g67 hg67
  repeat' ((conv => whnf); first | ((with_reducible refine Or.inr (Cnd.mk (fun _ => ?_) (fun h => absurd h (by simp [hG]))))) | refine walk (Tryd.ok ..) ?_ | (refine Cnd.mk (fun h => ?_) (fun h => ?_) <;> (first | exact cndT h (by (try dsimp only); omega) | exact cndF h (by (try dsimp only); omega) | (exfalso; simp at h; omega) | simp at h | skip)) | refine kp ?_ ?_ | refine tw ?_ ?_ | refine appnil rfl ?_ | refine rawnil rfl ?_ | exact trivial | refine side2 ?_ | refine sideL2 ?_ | refine Or.inr ?_ | refine sat_drawH (Tryd.ok ..) (by kernel_rfl) ?_ | refine xi _ (And.intro rfl rfl) ?_ | refine xi _ (fun _ => And.intro rfl rfl) ?_ | refine xi _ rfl ?_)
  (conv => whnf)
  refine called_some (SmallD s.2) (fun b => .v (.bool b)) (fun w' hh => by
    have h67 := blk_nest NSA hh 67 (g := g67) [s.2] [.slice ad nd cd2] rfl rfl (by unfold maxLen; simp) rfl ⟨lent_nest nsa_stays rfl rfl hvd hh, trivial⟩
    exact small_one s.2 _ w' (nest_to h67)) ?_
  intro b hb
  cases b with
  | false =>
    repeat' ((conv => whnf); first | refine walk (Tryd.ok ..) ?_ | (refine Cnd.mk (fun h => ?_) (fun h => ?_) <;> (first | exact cndT h (by (try dsimp only); omega) | exact cndF h (by (try dsimp only); omega) | (exfalso; simp at h; omega) | simp at h | skip)) | refine kp ?_ ?_ | refine tw ?_ ?_ | refine appnil rfl ?_ | refine rawnil rfl ?_ | exact trivial | refine side2 ?_ | refine sideL2 ?_ | refine Or.inr ?_ | refine sat_drawH (Tryd.ok ..) (by kernel_rfl) ?_ | refine xi _ (And.intro rfl rfl) ?_ | refine xi _ (fun _ => And.intro rfl rfl) ?_ | refine xi _ rfl ?_)
    exact done_some rfl rfl false (fun h => by cases h) rfl
  | true =>
  repeat' ((conv => whnf); first | refine walk (Tryd.ok ..) ?_ | (refine Cnd.mk (fun h => ?_) (fun h => ?_) <;> (first | exact cndT h (by (try dsimp only); omega) | exact cndF h (by (try dsimp only); omega) | (exfalso; simp at h; omega) | simp at h | skip)) | refine kp ?_ ?_ | refine tw ?_ ?_ | refine appnil rfl ?_ | refine rawnil rfl ?_ | exact trivial | refine side2 ?_ | refine sideL2 ?_ | refine Or.inr ?_ | refine sat_drawH (Tryd.ok ..) (by kernel_rfl) ?_ | refine xi _ (And.intro rfl rfl) ?_ | refine xi _ (fun _ => And.intro rfl rfl) ?_ | refine xi _ rfl ?_)
  refine ⟨k + 1, ⟨⟨hk1, fun t ht => ?_⟩, by omega⟩, ?_, ?_, rfl⟩
  · rw [List.take_add_one, hs] at ht
    rcases List.mem_append.1 ht with ht | ht
    · exact hs1 t ht
    · simp at ht
      subst ht
      exact ⟨hsz, hb rfl⟩
  all_goals ((repeat' (first | exact trivial | exact rfl | refine And.intro ?_ ?_)) <;> (try (conv => whnf)) <;> (try simp only [SV.real, SV.r2, SV.r1]))
end
section
open Go Sat Go.RowKit Go.PlainAid
theorem itB_right : ∀ n : Nat, n ≤ 12 → rightC (itB ((n : Int) + 2)) = true
  | 0, _ => by kernel_rfl
  | 1, _ => by kernel_rfl
  | 2, _ => by kernel_rfl
  | 3, _ => by kernel_rfl
  | 4, _ => by kernel_rfl
  | 5, _ => by kernel_rfl
  | 6, _ => by kernel_rfl
  | 7, _ => by kernel_rfl
  | 8, _ => by kernel_rfl
  | 9, _ => by kernel_rfl
  | 10, _ => by kernel_rfl
  | 11, _ => by kernel_rfl
  | 12, _ => by kernel_rfl
  | n + 13, h => by omega
theorem segsM_right {m : Msg} (h : rightM m = true) (hn : m.segs.length ≤ 12) : (segsM m).all rightS = true := by
  obtain ⟨hk, hr, hs⟩ := rightM_at h
  rw [segsM_eq, List.all_cons, List.all_append, head_right hk hr, Bool.true_and, Bool.and_eq_true]
  refine ⟨?_, ?_⟩
  · rw [List.all_map, List.all_eq_true]
    exact fun s h => body_right (hs s h).2
  · rw [List.all_cons, List.all_nil, Bool.and_true]
    exact right3 (by decide) (itB_right _ hn) (rightC_letters hr (by omega))
theorem segsL_right : ∀ {l : List Msg} {L : List ByteArray}, okFrom L l = true → (∀ m ∈ l, SmallM m) → (segsL l).all rightS = true
  | [], _, _, _ => rfl
  | m :: l, L, h, hs => by
    obtain ⟨h1, h2, h3⟩ := okFrom_at h
    rw [show segsL (m :: l) = segsM m ++ segsL l from rfl, List.all_append, segsM_right h1 (hs m List.mem_cons_self).segs, segsL_right h3 (fun m hm => hs m (List.mem_cons_of_mem _ hm))]
    rfl
theorem segsM_len2 (m : Msg) : (segsM m).length = m.segs.length + 2 := by simp [segsM]
theorem segsL_small : ∀ {l : List Msg}, (∀ m ∈ l, SmallM m) → (segsL l).length ≤ l.length * 14
  | [], _ => by simp [segsL]
  | m :: l, hs => by
    have h1 := (hs m List.mem_cons_self).segs
    have h2 := segsL_small (l := l) (fun m hm => hs m (List.mem_cons_of_mem _ hm))
    rw [show segsL (m :: l) = segsM m ++ segsL l from rfl, List.length_append, segsM_len2, List.length_cons]
    omega
theorem sumW_map {α : Type} (m : α → Nat) (g : α → α) : ∀ (l : List α), (∀ x ∈ l, m (g x) ≤ m x) → sumW m (l.map g) ≤ sumW m l
  | [], _ => by simp
  | x :: l, h => by
    have h1 := sumW_map m g l (fun x hx => h x (List.mem_cons_of_mem _ hx))
    have h2 := h x List.mem_cons_self
    rw [List.map_cons]
    unfold sumW
    omega
theorem mS_trim {d : Dat} (h : ∀ e ∈ d, e ≠ []) : mS (trimS d) ≤ mS d := by
  unfold trimS
  refine Nat.le_trans (sumW_take mE _ _) (sumW_map mE trimE d fun e he => ?_)
  unfold trimE
  rw [if_neg (h e he)]
  exact sumW_take mC _ _
theorem flat_bound {α : Type} (f : α → List UInt8) (K : Nat) : ∀ (l : List α), (∀ x ∈ l, (f x).length ≤ K) → (l.flatMap f).length ≤ l.length * K
  | [], _ => by simp
  | x :: l, h => by
    have h1 := flat_bound f K l (fun x hx => h x (List.mem_cons_of_mem _ hx))
    have h2 := h x List.mem_cons_self
    rw [List.flatMap_cons, List.length_append, List.length_cons, Nat.succ_mul]
    omega
/-- one small message is short -/
theorem one_short {m : Msg} (h : rightM m = true) (hs : SmallM m) : ((segsM m).flatMap wS).length ≤ 65536 := by
  obtain ⟨hk, hr, hg⟩ := rightM_at h
  have a1 := (letters_ok hk).1
  have a2 := (letters_ok hr).1
  have e1 : m.kind.size ≤ 6 := a1
  have e2 : m.ref.size ≤ 14 := a2
  have e3 : (itB ((m.segs.length : Int) + 2)).size ≤ 100 := by
    have := itB_right _ hs.segs
    unfold rightC at this
    rw [Bool.and_eq_true, decide_eq_true_eq] at this
    exact this.1
  have h1 : ∀ s ∈ segsM m, (wS s).length ≤ 4000 := by
    intro s h0
    have hl := wS_len s
    rw [segsM_eq] at h0
    rcases List.mem_cons.1 h0 with rfl | h0
    · have : mS (headS m) = (3 + 1 + 1) + ((m.ref.size + 1 + 1) + ((m.kind.size + 1 + 1) + 0)) := rfl
      omega
    rcases List.mem_append.1 h0 with h0 | h0
    · obtain ⟨x, hx, rfl⟩ := List.mem_map.1 h0
      obtain ⟨ht, hrs⟩ := hg x hx
      obtain ⟨b1, b2⟩ := hs.seg x hx
      have b3 := mS_right hrs
      have b4 : mS ([x.1] :: x.2) = (x.1.size + 1 + 1) + mS x.2 := rfl
      have b5 := b2 (by omega)
      have b6 : mS (bodyS x) = (x.1.size + 1 + 1) + mS (trimS x.2) := rfl
      have b7 : mS (trimS x.2) ≤ mS x.2 := mS_trim fun e he hne => by
        have := ((rightS_at hrs).2 e (List.mem_cons_of_mem _ he)).1.1
        rw [hne] at this
        simp at this
      omega
    · rw [List.mem_singleton] at h0
      subst h0
      have : mS (tailS m) = (3 + 1 + 1) + (((itB ((m.segs.length : Int) + 2)).size + 1 + 1) + ((m.ref.size + 1 + 1) + 0)) := rfl
      omega
  have h2 := flat_bound wS 4000 (segsM m) h1
  have h3 := hs.segs
  rw [segsM_len2] at h2
  have : (m.segs.length + 2) * 4000 ≤ 14 * 4000 := Nat.mul_le_mul_right _ (by omega)
  omega
theorem writeRun_long : ∀ (l : List Segm) (acc : List UInt8), acc.length ≤ 65536 → 65536 < (acc ++ l.flatMap wS).length → writeRun l acc = (⟨#[]⟩, 3)
  | [], acc, h, h2 => by simp at h2; omega
  | s :: l, acc, h, h2 => by
    unfold writeRun
    split
    · rfl
    · rename_i h3
      exact writeRun_long l _ (by omega) (by rw [List.append_assoc]; exact h2)
/-- what Write of chapter 4 makes of right segments -/
theorem writeL_two {l : List Segm} (hn : l.length ≤ 5000) (hr : l.all rightS = true) : (l.flatMap wS).length ≤ 65536 ∧ writeL l = (ba (l.flatMap wS), 0) ∨ 65536 < (l.flatMap wS).length ∧ writeL l = (⟨#[]⟩, 3) := by
  rcases Nat.lt_or_ge 65536 (l.flatMap wS).length with h | h
  · refine .inr ⟨h, ?_⟩
    unfold writeL
    rw [if_neg (by omega), if_pos hr]
    exact writeRun_long l [] (by simp) h
  · exact .inl ⟨h, writeL_eq hn hr h⟩
/-- a text of right segments that are no messages -/
theorem bad_text {L : List Segm} (hn : L.length ≤ 5000) (hr : L.all rightS = true) (hl : (L.flatMap wS).length ≤ 65536) (hb : Bad L 0 rst0) : ∃ p e, e ≠ 0 ∧ readG (L.flatMap wS) = ([], p, e) := by
  have hE : readE (L.flatMap wS) = (L, 0, 0) := by
    unfold readE
    rw [if_neg (by omega)]
    exact back hn hr
  have hG : readG (L.flatMap wS) = runG L 0 rst0 := by
    unfold readG
    rw [hE]
    rw [if_pos rfl]
  obtain ⟨l, p, e, h⟩ : ∃ l p e, readG (L.flatMap wS) = (l, p, e) := ⟨_, _, _, rfl⟩
  have he : e ≠ 0 := by
    unfold Bad at hb
    rw [← hG, h] at hb
    exact hb
  have := readG_wrong h he
  subst this
  exact ⟨p, e, he, h⟩
theorem segsL_trim : ∀ l : List Msg, segsL (l.map trimM) = segsL l
  | [] => rfl
  | m :: l => by
    rw [List.map_cons, show segsL (trimM m :: l.map trimM) = segsM (trimM m) ++ segsL (l.map trimM) from rfl, segsL_trim l, show segsL (m :: l) = segsM m ++ segsL l from rfl]
    congr 1
    have e1 : (trimM m).segs.map bodyS = m.segs.map bodyS := by
      show (m.segs.map fun s => (s.1, trimS s.2)).map bodyS = _
      rw [List.map_map]
      refine List.map_congr_left fun s _ => ?_
      show [s.1] :: trimS (trimS s.2) = [s.1] :: trimS s.2
      rw [trimS_idem]
    rw [segsM_eq, segsM_eq, e1]
    show headS m :: (m.segs.map bodyS ++ [tailS (trimM m)]) = _
    have e2 : tailS (trimM m) = tailS m := by
      show [[endS], [itB ((((m.segs.map fun s => (s.1, trimS s.2)).length : Nat) : Int) + 2)], [m.ref]] = [[endS], [itB ((m.segs.length : Int) + 2)], [m.ref]]
      rw [List.length_map]
    rw [e2]
/-- right small messages, written short -/
structure BackG (l : List Msg) : Prop where
  all : (segsL l).all rightS = true
  few : (segsL l).length ≤ 84
  len : ((segsL l).flatMap wS).length ≤ 65536
  write : writeG l = (ba ((segsL l).flatMap wS), 0)
  read : readG ((segsL l).flatMap wS) = (l.map trimM, 0, 0)
  lex : readE ((segsL l).flatMap wS) = (segsL l, 0, 0)
  again : writeG (l.map trimM) = (ba ((segsL l).flatMap wS), 0)
  fewT : ∀ m ∈ l.map trimM, FewW m
theorem back_two {l : List Msg} (hok : okFrom [] l = true) (hs : ∀ m ∈ l, SmallM m) (h6 : l.length ≤ 6) : BackG l ∨ (writeG l = (⟨#[]⟩, 3) ∧ 1 < l.length) := by
  have hr := segsL_right hok hs
  have hn := segsL_small hs
  rcases writeL_two (l := segsL l) (by omega) hr with ⟨h1, h2⟩ | ⟨h1, h2⟩
  · left
    have hb := back_all hok (by omega) hr h1
    obtain ⟨-, hA⟩ := againG h1 hb.2
    refine ⟨hr, by omega, h1, hb.1, hb.2, ?_, ?_, hA.fewW⟩
    · unfold readE
      rw [if_neg (by omega)]
      exact back (by omega) hr
    · rw [hA.write, segsL_trim]
  · right
    refine ⟨by unfold writeG; rw [if_pos hok, h2], ?_⟩
    match l, hok, hs, h1 with
    | [], _, _, h1 => simp [segsL] at h1
    | [m], hok, hs, h1 =>
      have := one_short (okFrom_at hok).1 (hs m List.mem_cons_self)
      rw [show segsL [m] = segsM m ++ [] from rfl, List.append_nil] at h1
      omega
    | _ :: _ :: _, _, _, _ => simp
theorem flat_sub {α : Type} (f : α → List UInt8) (l : List α) (i : Nat) : ((l.eraseIdx i).flatMap f).length ≤ (l.flatMap f).length := by
  induction l generalizing i with
  | nil => simp
  | cons x l ih =>
    cases i with
    | zero => rw [List.eraseIdx_cons_zero, List.flatMap_cons, List.length_append]; omega
    | succ i =>
      have := ih i
      rw [List.eraseIdx_cons_succ, List.flatMap_cons, List.flatMap_cons, List.length_append, List.length_append]
      omega
theorem all_erase {l : List Segm} (h : l.all rightS = true) (i : Nat) : (l.eraseIdx i).all rightS = true := by
  rw [List.all_eq_true] at h ⊢
  exact fun x hx => h x (List.mem_of_mem_eraseIdx hx)
theorem all_twice {l : List Segm} (h : l.all rightS = true) (i : Nat) : (twice l i).all rightS = true := by
  rw [List.all_eq_true] at h ⊢
  intro x hx
  rcases List.mem_append.1 hx with hx | hx
  · exact h x (List.mem_of_mem_take hx)
  · exact h x (List.mem_of_mem_drop hx)
theorem BackG.less {l : List Msg} (h : BackG l) (hok : okFrom [] l = true) {i : Nat} (hi : i < (segsL l).length) : writeL ((segsL l).eraseIdx i) = (ba (((segsL l).eraseIdx i).flatMap wS), 0) ∧ ∃ p e, e ≠ 0 ∧ readG (((segsL l).eraseIdx i).flatMap wS) = ([], p, e) := by
  have h1 := flat_sub wS (segsL l) i
  have h2 := h.len
  have h3 := h.few
  have h4 : ((segsL l).eraseIdx i).length ≤ 5000 := by rw [List.length_eraseIdx, if_pos hi]; omega
  exact ⟨writeL_eq h4 (all_erase h.all i) (by omega), bad_text h4 (all_erase h.all i) (by omega) (less_bad l i 0 rst0 rfl hok hi)⟩
theorem BackG.more {l : List Msg} (h : BackG l) (hok : okFrom [] l = true) {i : Nat} (hi : i < (segsL l).length) : (∃ p e, e ≠ 0 ∧ writeL (twice (segsL l) i) = (ba ((twice (segsL l) i).flatMap wS), 0) ∧ readG ((twice (segsL l) i).flatMap wS) = ([], p, e)) ∨ writeL (twice (segsL l) i) = (⟨#[]⟩, 3) := by
  have h3 := h.few
  have h4 : (twice (segsL l) i).length ≤ 5000 := by unfold twice; rw [List.length_append, List.length_take, List.length_drop]; omega
  rcases writeL_two h4 (all_twice h.all i) with ⟨h5, h6⟩ | ⟨h5, h6⟩
  · left
    obtain ⟨p, e, he, h7⟩ := bad_text h4 (all_twice h.all i) h5 (more_bad l i 0 rst0 rfl hok hi)
    exact ⟨p, e, he, h6, h7⟩
  · exact .inr h6
theorem readG_none : readG [] = ([], 0, 0) := by
  unfold readG
  rw [show readE [] = ([], 0, 0) from rfl]
  rfl
end
section
open Go Sat Go.RowKit Go.PlainAid
theorem ArgM.fewW {l : List Msg} (h : ArgM l) : ∀ m ∈ l, FewW m := fun m hm => by
  obtain ⟨h1, h2, -, h3⟩ := h.msg m hm
  refine ⟨Nat.le_trans h1 (by decide), Nat.le_trans h2 (by decide), fun s hs => ?_⟩
  obtain ⟨h4, h5, h6⟩ := h3 s hs
  exact ⟨⟨Nat.le_trans h4 (by decide), h6⟩, h5⟩
theorem ArgM.fewO {l : List Msg} (h : ArgM l) (h6 : l.length ≤ 6) (hs : ∀ m ∈ l, SmallM m) : FewO l :=
  ⟨by omega, fun m hm => ⟨by have := (hs m hm).segs; omega, fun s hx => ((h.msg m hm).2.2.2 s hx).2.1⟩⟩
theorem readL_lit {s : ByteArray} {a : Ans} (h : readE s.data.toList = a) (w : World) : Calls Tryd.prog 22 #[.string s] w (Gives (fun v => .tuple #[v, .int .i64 a.2.1, .int .i64 a.2.2]) (fun w B v => NL w B v a.1) w) := by
  subst h
  exact read_any s w
theorem writeL_lit {a : List Segm} {r : ByteArray × Int} (h : writeL a = r) (va : Value) (w : World) (hA : NL w (fun _ => True) va a) : Calls Tryd.prog 23 #[va] w fun e w' => e = .returned (.tuple #[.string r.1, .int .i64 r.2]) ∧ Below w.heap.size w w' := by
  subst h
  exact write_any a va w hA
/-- cells of a part of a nest of one's own -/
theorem raw_part {cx : Cx} {H : Heap} {p : Nat × Nat} {n c d lo m : Nat} {x : Option Addr} {w0 : World} {gs : List Nat} {xs : List Value} {K : Nat → List Value → Prop} (h : Ro w0 (some p) n 1 xs) (hB : p.1 ∈ gs) (hf : hfind H d = some (.own gs (Frz w0 gs))) (hle : lo + m ≤ n) (hx : x = some ⟨p.1, p.2 + lo, none⟩ ∨ m = 0 ∧ ∃ ad, x = some ad) (k : K m ((xs.drop lo).take m)) : RawSrc cx H 1 x m c K := by
  refine ⟨.inr ⟨_, k, by rw [List.length_take, List.length_drop, h.1]; omega, fun w hw => .inl ?_⟩⟩
  rcases hx with rfl | ⟨rfl, ad, rfl⟩
  · refine ⟨_, rfl, fun j u hu => ?_⟩
    rw [List.getElem?_take] at hu
    split at hu
    · rename_i hj
      rw [List.getElem?_drop] at hu
      obtain ⟨q, hq, hl, hc⟩ := h.2 (by omega)
      cases hq
      rw [add_mk, Nat.add_assoc, ← hc _ u hu]
      exact World.cell?_of_block (frz_of hf hw p.1 hB)
    · cases hu
  · exact ⟨ad, rfl, fun j u hu => by simp at hu⟩
theorem raw_lay {cx : Cx} {H : Heap} {x x' : Option Addr} {m m' c : Nat} {K : Nat → List Value → Prop} (hm : m = m') (hx : x = x') (h : RawSrc cx H 1 x' m' c K) : RawSrc cx H 1 x m c K := by
  subst hm hx
  exact h
theorem part_all {w : World} {B : Nat → Prop} {xs : List Value} {l : List Segm} (hl : xs.length = l.length) (h : ∀ (i : Nat) (x : Value) (a : Segm), xs[i]? = some x → l[i]? = some a → NS w B x a) (lo m : Nat) : allV ((xs.drop lo).take m) = true := allV_of fun u hu => by
  have hu2 := List.mem_of_mem_drop (List.mem_of_mem_take hu)
  obtain ⟨i, hi, rfl⟩ := List.getElem_of_mem hu2
  exact nest_cells (h i xs[i] (l[i]'(by omega)) (List.getElem?_eq_getElem _) (List.getElem?_eq_getElem _))
theorem part_rel {α : Type} {R : Value → α → Prop} {xs : List Value} {l : List α} (h : ∀ (i : Nat) (x : Value) (a : α), xs[i]? = some x → l[i]? = some a → R x a) (lo m : Nat) : ∀ (j : Nat) (x : Value) (a : α), ((xs.drop lo).take m)[j]? = some x → ((l.drop lo).take m)[j]? = some a → R x a := by
  intro j x a hx ha
  rw [List.getElem?_take] at hx ha
  split at hx
  · rename_i hj
    rw [if_pos hj] at ha
    rw [List.getElem?_drop] at hx ha
    exact h _ _ _ hx ha
  · cases hx
/-- a row of parts of a nest of one's own -/
theorem cat_nest {cx : Cx} {H : Heap} {w w4 : World} (hw : Holds cx H w) {d1 d2 : Nat} {A : Option (Nat × Nat)} {T nn cap : Nat} {X1 X2 xs : List Value} {gs : List Nat} {L1 L2 L : List Segm} (hf1 : hfind H d1 = some (.row A T 1 nn cap xs)) (hf2 : hfind H d2 = some (.own gs (Frz w4 gs))) (hxs : xs = X1 ++ X2) (hL : L = L1 ++ L2) (hn : nn = L.length) (hl : X1.length = L1.length)
    (h1 : ∀ (j : Nat) (x : Value) (a : Segm), X1[j]? = some x → L1[j]? = some a → NS w4 (fun g => g ∈ gs) x a) (h2 : ∀ (j : Nat) (x : Value) (a : Segm), X2[j]? = some x → L2[j]? = some a → NS w4 (fun g => g ∈ gs) x a) : NL w (fun _ => True) (.slice (adr A) nn cap) L := by
  subst hxs hL hn
  refine ⟨A, cap, X1 ++ X2, rfl, row_caps hw hf1, ro_of_row hw hf1, fun p hp hn => ⟨trivial, own_cells0 (hw.at_ hf1) hn p hp⟩, fun i x a hx ha => frz_nest ns_stays ?_ hf2 hw⟩
  rcases Nat.lt_or_ge i X1.length with h | h
  · rw [List.getElem?_append_left h] at hx
    rw [List.getElem?_append_left (by omega)] at ha
    exact h1 i x a hx ha
  · rw [List.getElem?_append_right h] at hx
    rw [List.getElem?_append_right (by omega), ← hl] at ha
    exact h2 _ x a hx ha
set_option maxRecDepth 100000 in
set_option maxHeartbeats 16000000 in
theorem segmentBack_any (l : List Msg) (v : Value) (which : Int) (w : World) (hw : WfT w) (hA : NMsgs NSA w (fun _ => True) v l) (hf : ArgM l) :
    Calls Tryd.prog 6 #[v, .int .i64 which] w fun e w' => e = .returned (.bool true) ∧ Below w.heap.size w w' := by
  obtain ⟨pv, cv, rfl⟩ : ∃ a c, v = .slice a l.length c := by
    obtain ⟨a, A, cap, xs, hv, -⟩ := hA
    exact ⟨a, cap, hv⟩
  refine calls_sat (cx := Tryd.cx 173 [18, 19] [] [] w) (Tryd.ok ..) Tryd.func6 rfl [.v (.slice pv l.length cv), .v (.int .i64 which)] rfl (by show 2 ≤ 173; omega) [] (holds_nil (Nat.le_refl _)) ?_
  have hAw : ∀ {H : Heap} {w' : World}, Holds (Tryd.cx 173 [18, 19] [] [] w) H w' → NMsgs NSA w' (fun _ => True) (.slice pv l.length cv) l := fun hh => lent_nest (nmsgs_stays nsa_stays) rfl rfl hA hh
  repeat' ((conv => whnf); first | refine walk (Tryd.ok ..) ?_ | (refine Cnd.mk (fun h => ?_) (fun h => ?_) <;> (first | exact cndT h (by (try dsimp only); omega) | exact cndF h (by (try dsimp only); omega) | (exfalso; simp at h; omega) | simp at h | skip)) | refine kp ?_ ?_ | refine tw ?_ ?_ | refine appnil rfl ?_ | refine rawnil rfl ?_ | exact trivial | refine side2 ?_ | refine sideL2 ?_ | refine Or.inr ?_ | refine sat_drawH (Tryd.ok ..) (by kernel_rfl) ?_ | refine xi _ (And.intro rfl rfl) ?_ | refine xi _ (fun _ => And.intro rfl rfl) ?_ | refine xi _ rfl ?_)
  (conv => whnf)
  refine called_at (.v (.bool true)) rfl (fun w' hh => by exact awakeG_any w' (hw.at_ rfl rfl hh)) ?_
  repeat' ((conv => whnf); first | refine walk (Tryd.ok ..) ?_ | (refine Cnd.mk (fun h => ?_) (fun h => ?_) <;> (first | exact cndT h (by (try dsimp only); omega) | exact cndF h (by (try dsimp only); omega) | (exfalso; simp at h; omega) | simp at h | skip)) | refine kp ?_ ?_ | refine tw ?_ ?_ | refine appnil rfl ?_ | refine rawnil rfl ?_ | exact trivial | refine side2 ?_ | refine sideL2 ?_ | refine Or.inr ?_ | refine sat_drawH (Tryd.ok ..) (by kernel_rfl) ?_ | refine xi _ (And.intro rfl rfl) ?_ | refine xi _ (fun _ => And.intro rfl rfl) ?_ | refine xi _ rfl ?_)
  (conv => whnf)
  refine called_some (SmallG l) (fun b => .v (.bool b)) (fun w' hh => by exact smallG_any l _ w' (hAw hh)) ?_
  intro b hb
  cases b with
  | false =>
    repeat' ((conv => whnf); first | refine walk (Tryd.ok ..) ?_ | (refine Cnd.mk (fun h => ?_) (fun h => ?_) <;> (first | exact cndT h (by (try dsimp only); omega) | exact cndF h (by (try dsimp only); omega) | (exfalso; simp at h; omega) | simp at h | skip)) | refine kp ?_ ?_ | refine tw ?_ ?_ | refine appnil rfl ?_ | refine rawnil rfl ?_ | exact trivial | refine side2 ?_ | refine sideL2 ?_ | refine Or.inr ?_ | refine sat_drawH (Tryd.ok ..) (by kernel_rfl) ?_ | refine xi _ (And.intro rfl rfl) ?_ | refine xi _ (fun _ => And.intro rfl rfl) ?_ | refine xi _ rfl ?_)
    exact done_pure rfl rfl rfl
  | true =>
  obtain ⟨h6, hs⟩ := hb rfl
  have hmany : (segsL l).length ≤ 1000000 := by
    have := segsL_small hs
    omega
  cases hok : okFrom [] l with
  | false =>
    have hno : writeG l = (⟨#[]⟩, 2) := by unfold writeG; rw [if_neg (by rw [hok]; simp)]; rfl
    repeat' ((conv => whnf); first | refine walk (Tryd.ok ..) ?_ | (refine Cnd.mk (fun h => ?_) (fun h => ?_) <;> (first | exact cndT h (by (try dsimp only); omega) | exact cndF h (by (try dsimp only); omega) | (exfalso; simp at h; omega) | simp at h | skip)) | refine kp ?_ ?_ | refine tw ?_ ?_ | refine appnil rfl ?_ | refine rawnil rfl ?_ | exact trivial | refine side2 ?_ | refine sideL2 ?_ | refine Or.inr ?_ | refine sat_drawH (Tryd.ok ..) (by kernel_rfl) ?_ | refine xi _ (And.intro rfl rfl) ?_ | refine xi _ (fun _ => And.intro rfl rfl) ?_ | refine xi _ rfl ?_)
    (conv => whnf)
    refine called_at (.t [.v (.string ⟨#[]⟩), .v (.int .i64 2)]) rfl (fun w' hh => by exact writeG_lit hno _ w' (hw.at_ rfl rfl hh) (hAw hh) hf.fewW hmany) ?_
    repeat' ((conv => whnf); first | refine walk (Tryd.ok ..) ?_ | (refine Cnd.mk (fun h => ?_) (fun h => ?_) <;> (first | exact cndT h (by (try dsimp only); omega) | exact cndF h (by (try dsimp only); omega) | (exfalso; simp at h; omega) | simp at h | skip)) | refine kp ?_ ?_ | refine tw ?_ ?_ | refine appnil rfl ?_ | refine rawnil rfl ?_ | exact trivial | refine side2 ?_ | refine sideL2 ?_ | refine Or.inr ?_ | refine sat_drawH (Tryd.ok ..) (by kernel_rfl) ?_ | refine xi _ (And.intro rfl rfl) ?_ | refine xi _ (fun _ => And.intro rfl rfl) ?_ | refine xi _ rfl ?_)
    (conv => whnf)
    refine called_at (.v (.bool false)) rfl (fun w' hh => by
      have := rightL_any l _ w' (hAw hh) (fun m hm => (hf.fewW m hm).m)
      rw [hok] at this
      exact this) ?_
    repeat' ((conv => whnf); first | refine walk (Tryd.ok ..) ?_ | (refine Cnd.mk (fun h => ?_) (fun h => ?_) <;> (first | exact cndT h (by (try dsimp only); omega) | exact cndF h (by (try dsimp only); omega) | (exfalso; simp at h; omega) | simp at h | skip)) | refine kp ?_ ?_ | refine tw ?_ ?_ | refine appnil rfl ?_ | refine rawnil rfl ?_ | exact trivial | refine side2 ?_ | refine sideL2 ?_ | refine Or.inr ?_ | refine sat_drawH (Tryd.ok ..) (by kernel_rfl) ?_ | refine xi _ (And.intro rfl rfl) ?_ | refine xi _ (fun _ => And.intro rfl rfl) ?_ | refine xi _ rfl ?_)
    exact done_pure rfl rfl rfl
  | true =>
  rcases back_two hok hs h6 with hB | ⟨hno, h1l⟩
  case inr =>
    repeat' ((conv => whnf); first | refine walk (Tryd.ok ..) ?_ | (refine Cnd.mk (fun h => ?_) (fun h => ?_) <;> (first | exact cndT h (by (try dsimp only); omega) | exact cndF h (by (try dsimp only); omega) | (exfalso; simp at h; omega) | simp at h | skip)) | refine kp ?_ ?_ | refine tw ?_ ?_ | refine appnil rfl ?_ | refine rawnil rfl ?_ | exact trivial | refine side2 ?_ | refine sideL2 ?_ | refine Or.inr ?_ | refine sat_drawH (Tryd.ok ..) (by kernel_rfl) ?_ | refine xi _ (And.intro rfl rfl) ?_ | refine xi _ (fun _ => And.intro rfl rfl) ?_ | refine xi _ rfl ?_)
    (conv => whnf)
    refine called_at (.t [.v (.string ⟨#[]⟩), .v (.int .i64 3)]) rfl (fun w' hh => by exact writeG_lit hno _ w' (hw.at_ rfl rfl hh) (hAw hh) hf.fewW hmany) ?_
    repeat' ((conv => whnf); first | refine walk (Tryd.ok ..) ?_ | (refine Cnd.mk (fun h => ?_) (fun h => ?_) <;> (first | exact cndT h (by (try dsimp only); omega) | exact cndF h (by (try dsimp only); omega) | (exfalso; simp at h; omega) | simp at h | skip)) | refine kp ?_ ?_ | refine tw ?_ ?_ | refine appnil rfl ?_ | refine rawnil rfl ?_ | exact trivial | refine side2 ?_ | refine sideL2 ?_ | refine Or.inr ?_ | refine sat_drawH (Tryd.ok ..) (by kernel_rfl) ?_ | refine xi _ (And.intro rfl rfl) ?_ | refine xi _ (fun _ => And.intro rfl rfl) ?_ | refine xi _ rfl ?_)
    (conv => whnf)
    refine called_at (.v (.bool true)) rfl (fun w' hh => by
      have := rightL_any l _ w' (hAw hh) (fun m hm => (hf.fewW m hm).m)
      rw [hok] at this
      exact this) ?_
    repeat' ((conv => whnf); first | refine walk (Tryd.ok ..) ?_ | (refine Cnd.mk (fun h => ?_) (fun h => ?_) <;> (first | exact cndT h (by (try dsimp only); omega) | exact cndF h (by (try dsimp only); omega) | (exfalso; simp at h; omega) | simp at h | skip)) | refine kp ?_ ?_ | refine tw ?_ ?_ | refine appnil rfl ?_ | refine rawnil rfl ?_ | exact trivial | refine side2 ?_ | refine sideL2 ?_ | refine Or.inr ?_ | refine sat_drawH (Tryd.ok ..) (by kernel_rfl) ?_ | refine xi _ (And.intro rfl rfl) ?_ | refine xi _ (fun _ => And.intro rfl rfl) ?_ | refine xi _ rfl ?_)
    exact done_pure rfl rfl (congrArg Value.bool (decide_eq_true (by omega)))
  repeat' ((conv => whnf); first | refine walk (Tryd.ok ..) ?_ | (refine Cnd.mk (fun h => ?_) (fun h => ?_) <;> (first | exact cndT h (by (try dsimp only); omega) | exact cndF h (by (try dsimp only); omega) | (exfalso; simp at h; omega) | simp at h | skip)) | refine kp ?_ ?_ | refine tw ?_ ?_ | refine appnil rfl ?_ | refine rawnil rfl ?_ | exact trivial | refine side2 ?_ | refine sideL2 ?_ | refine Or.inr ?_ | refine sat_drawH (Tryd.ok ..) (by kernel_rfl) ?_ | refine xi _ (And.intro rfl rfl) ?_ | refine xi _ (fun _ => And.intro rfl rfl) ?_ | refine xi _ rfl ?_)
  (conv => whnf)
  obtain ⟨tx, htx⟩ : ∃ tx, tx = ba ((segsL l).flatMap wS) := ⟨_, rfl⟩
  have htd : tx.data.toList = (segsL l).flatMap wS := by rw [htx]; rfl
  have hRd : readG tx.data.toList = (l.map trimM, 0, 0) := by rw [htd]; exact hB.read
  have hLx : readE tx.data.toList = (segsL l, 0, 0) := by rw [htd]; exact hB.lex
  refine called_at (.t [.v (.string tx), .v (.int .i64 0)]) rfl (fun w' hh => by rw [htx]; exact writeG_lit hB.write _ w' (hw.at_ rfl rfl hh) (hAw hh) hf.fewW hmany) ?_
  repeat' ((conv => whnf); first | refine walk (Tryd.ok ..) ?_ | (refine Cnd.mk (fun h => ?_) (fun h => ?_) <;> (first | exact cndT h (by (try dsimp only); omega) | exact cndF h (by (try dsimp only); omega) | (exfalso; simp at h; omega) | simp at h | skip)) | refine kp ?_ ?_ | refine tw ?_ ?_ | refine appnil rfl ?_ | refine rawnil rfl ?_ | exact trivial | refine side2 ?_ | refine sideL2 ?_ | refine Or.inr ?_ | refine sat_drawH (Tryd.ok ..) (by kernel_rfl) ?_ | refine xi _ (And.intro rfl rfl) ?_ | refine xi _ (fun _ => And.intro rfl rfl) ?_ | refine xi _ rfl ?_)
  (conv => whnf)
  refine called_at (.v (.bool true)) rfl (fun w' hh => by
    have := rightL_any l _ w' (hAw hh) (fun m hm => (hf.fewW m hm).m)
    rw [hok] at this
    exact this) ?_
  repeat' ((conv => whnf); first | refine walk (Tryd.ok ..) ?_ | (refine Cnd.mk (fun h => ?_) (fun h => ?_) <;> (first | exact cndT h (by (try dsimp only); omega) | exact cndF h (by (try dsimp only); omega) | (exfalso; simp at h; omega) | simp at h | skip)) | refine kp ?_ ?_ | refine tw ?_ ?_ | refine appnil rfl ?_ | refine rawnil rfl ?_ | exact trivial | refine side2 ?_ | refine sideL2 ?_ | refine Or.inr ?_ | refine sat_drawH (Tryd.ok ..) (by kernel_rfl) ?_ | refine xi _ (And.intro rfl rfl) ?_ | refine xi _ (fun _ => And.intro rfl rfl) ?_ | refine xi _ rfl ?_)
  (conv => whnf)
  refine called_nest 902 (mk := fun v => .tuple #[v, .int .i64 0, .int .i64 0]) (Q := fun w B v => NMsgs NS w B v (l.map trimM)) (fun v => .t [.v v, .v (.int .i64 0), .v (.int .i64 0)]) (fun _ => rfl) (fun w' hh => by exact readG_lit hRd w' (hw.at_ rfl rfl hh)) ?_
  intro w1 gs1 v1 h1
  obtain ⟨a1, c1, rfl⟩ := nmsgs_len h1
  repeat' ((conv => whnf); first | refine walk (Tryd.ok ..) ?_ | (refine Cnd.mk (fun h => ?_) (fun h => ?_) <;> (first | exact cndT h (by (try dsimp only); omega) | exact cndF h (by (try dsimp only); omega) | (exfalso; simp at h; omega) | simp at h | skip)) | refine kp ?_ ?_ | refine tw ?_ ?_ | refine appnil rfl ?_ | refine rawnil rfl ?_ | exact trivial | refine side2 ?_ | refine sideL2 ?_ | refine Or.inr ?_ | refine sat_drawH (Tryd.ok ..) (by kernel_rfl) ?_ | refine xi _ (And.intro rfl rfl) ?_ | refine xi _ (fun _ => And.intro rfl rfl) ?_ | refine xi _ rfl ?_)
  (conv => whnf)
  refine called_at (.t [.v (.string tx), .v (.int .i64 0)]) rfl (fun w' hh => by rw [htx]; exact writeG_lit hB.again _ w' (hw.at_ rfl rfl hh) (nmsgs_arg (frz_is (nmsgs_stays ns_stays) h1 (d := 902) rfl hh)) hB.fewT (by rw [segsL_trim]; exact hmany)) ?_
  have htt : (tx == tx) = true := (MapKept.bytes_beq _ _).2 rfl
  repeat' ((conv => whnf); first | refine walk (Tryd.ok ..) ?_ | (refine Cnd.mk (fun h => ?_) (fun h => ?_) <;> (first | exact cndT h (by (try dsimp only); omega) | exact cndF h (by (try dsimp only); omega) | (exfalso; simp at h; omega) | simp at h | skip)) | refine kp ?_ ?_ | refine tw ?_ ?_ | refine appnil rfl ?_ | refine rawnil rfl ?_ | exact trivial | refine side2 ?_ | (with_reducible refine Or.inr (Cnd.mk (fun _ => ?_) (fun h => absurd (of_decide_eq_false h) (by omega)))) | (with_reducible refine Or.inr (Cnd.mk (fun _ => ?_) (fun h => absurd h (by simp)))) | refine sideL2 ?_ | refine Or.inr ?_ | refine sat_drawH (Tryd.ok ..) (by kernel_rfl) ?_ | refine xi _ (And.intro rfl rfl) ?_ | refine xi _ (fun _ => And.intro rfl rfl) ?_ | refine xi _ rfl ?_)
  (conv => whnf)
  refine called_nest 903 (mk := id) (Q := fun w B v => NMsgs NS w B v (l.map trimM)) (fun v => .v v) (fun _ => rfl) (fun w' hh => by exact trimmed_any l _ w' (hAw hh) (hf.fewO h6 hs)) ?_
  intro w3 gs3 v3 h3
  obtain ⟨a3, c3, rfl⟩ := nmsgs_len h3
  repeat' ((conv => whnf); first | refine walk (Tryd.ok ..) ?_ | (refine Cnd.mk (fun h => ?_) (fun h => ?_) <;> (first | exact cndT h (by (try dsimp only); omega) | exact cndF h (by (try dsimp only); omega) | (exfalso; simp at h; omega) | simp at h | skip)) | refine kp ?_ ?_ | refine tw ?_ ?_ | refine appnil rfl ?_ | refine rawnil rfl ?_ | exact trivial | refine side2 ?_ | (with_reducible refine Or.inr (Cnd.mk (fun _ => ?_) (fun h => absurd (of_decide_eq_false h) (by omega)))) | (with_reducible refine Or.inr (Cnd.mk (fun _ => ?_) (fun h => absurd h (by simp)))) | refine sideL2 ?_ | refine Or.inr ?_ | refine sat_drawH (Tryd.ok ..) (by kernel_rfl) ?_ | refine xi _ (And.intro rfl rfl) ?_ | refine xi _ (fun _ => And.intro rfl rfl) ?_ | refine xi _ rfl ?_)
  (conv => whnf)
  refine called_at (.v (.bool true)) rfl (fun w' hh => by
    have := sameG_any (l.map trimM) (l.map trimM) _ _ w' (nmsgs_arg (frz_is (nmsgs_stays ns_stays) h1 (d := 902) rfl hh)) (nmsgs_arg (frz_is (nmsgs_stays ns_stays) h3 (d := 903) rfl hh))
    rw [decide_eq_true (rfl : l.map trimM = l.map trimM)] at this
    exact this) ?_
  repeat' ((conv => whnf); first | refine walk (Tryd.ok ..) ?_ | (refine Cnd.mk (fun h => ?_) (fun h => ?_) <;> (first | exact cndT h (by (try dsimp only); omega) | exact cndF h (by (try dsimp only); omega) | (exfalso; simp at h; omega) | simp at h | skip)) | refine kp ?_ ?_ | refine tw ?_ ?_ | refine appnil rfl ?_ | refine rawnil rfl ?_ | exact trivial | refine side2 ?_ | refine sideL2 ?_ | refine Or.inr ?_ | refine sat_drawH (Tryd.ok ..) (by kernel_rfl) ?_ | refine xi _ (And.intro rfl rfl) ?_ | refine xi _ (fun _ => And.intro rfl rfl) ?_ | refine xi _ rfl ?_)
  (conv => whnf)
  refine called_nest 904 (mk := fun v => .tuple #[v, .int .i64 0, .int .i64 0]) (Q := fun w B v => NL w B v (segsL l)) (fun v => .t [.v v, .v (.int .i64 0), .v (.int .i64 0)]) (fun _ => rfl) (fun w' hh => by exact readL_lit hLx w') ?_
  intro w4 gs4 v4 h4
  obtain ⟨A4, c4, xs4, rfl, hc4, hr4, hB4, hx4⟩ := h4
  by_cases hnil : l = []
  · subst hnil
    repeat' ((conv => whnf); first | refine walk (Tryd.ok ..) ?_ | (refine Cnd.mk (fun h => ?_) (fun h => ?_) <;> (first | exact cndT h (by (try dsimp only); omega) | exact cndF h (by (try dsimp only); omega) | (exfalso; simp at h; omega) | simp at h | skip)) | refine kp ?_ ?_ | refine tw ?_ ?_ | refine appnil rfl ?_ | refine rawnil rfl ?_ | exact trivial | refine side2 ?_ | refine sideL2 ?_ | refine Or.inr ?_ | refine sat_drawH (Tryd.ok ..) (by kernel_rfl) ?_ | refine xi _ (And.intro rfl rfl) ?_ | refine xi _ (fun _ => And.intro rfl rfl) ?_ | refine xi _ rfl ?_)
    all_goals first | exact done_pure rfl rfl rfl | exact absurd rfl (by assumption)
  have hlen : 2 ≤ (segsL l).length := by
    match l, hnil with
    | m :: l, _ =>
      rw [show segsL (m :: l) = segsM m ++ segsL l from rfl, List.length_append, segsM_len2]
      omega
  obtain ⟨n, hn⟩ : ∃ n, n = (segsL l).length := ⟨_, rfl⟩
  rw [← hn] at hc4 hr4 hB4 hlen ⊢
  obtain ⟨p, rfl, _⟩ := hr4.some_ (by omega)
  have hfew := hB.few
  have hmaxn : n ≤ 9223372036854775807 := by omega
  repeat' ((conv => whnf); first | refine walk (Tryd.ok ..) ?_ | (refine Cnd.mk (fun h => ?_) (fun h => ?_) <;> (first | exact cndT h (by (try dsimp only); omega) | exact cndF h (by (try dsimp only); omega) | (exfalso; simp at h; omega) | simp at h | skip)) | refine kp ?_ ?_ | refine tw ?_ ?_ | refine appnil rfl ?_ | refine rawnil rfl ?_ | exact trivial | refine side2 ?_ | refine sideL2 ?_ | refine Or.inr ?_ | refine sat_drawH (Tryd.ok ..) (by kernel_rfl) ?_ | refine xi _ (And.intro rfl rfl) ?_ | refine xi _ (fun _ => And.intro rfl rfl) ?_ | refine xi _ rfl ?_)
  (conv => whnf)
  obtain ⟨i, hi, hin⟩ : ∃ i : Nat, which % (n : Int) = i ∧ i < n := by
    have h1 := Int.emod_nonneg which (show (n : Int) ≠ 0 by omega)
    have h2 := Int.emod_lt_of_pos which (show 0 < (n : Int) by omega)
    exact ⟨(which % (n : Int)).toNat, by omega, by omega⟩
  refine called_at (.v (.int .i64 i)) rfl (fun w' hh => by rw [← hi]; exact pick_any which n w' (by omega) (by omega)) ?_
  repeat' ((conv => whnf); first | refine walk (Tryd.ok ..) ?_ | (refine Cnd.mk (fun h => ?_) (fun h => ?_) <;> (first | exact cndT h (by (try dsimp only); omega) | exact cndF h (by (try dsimp only); omega) | (exfalso; simp at h; omega) | simp at h | skip)) | refine kp ?_ ?_ | refine tw ?_ ?_ | refine appnil rfl ?_ | refine rawnil rfl ?_ | exact trivial | refine side2 ?_ | refine sideL2 ?_ | refine Or.inr ?_ | refine xi _ (And.intro rfl rfl) ?_ | refine xi _ (fun _ => And.intro rfl rfl) ?_ | refine xi _ rfl ?_)
  refine sat_draw (Tryd.ok ..) [] [] (by kernel_rfl) (fun w hw => hw.sub trivial) ?_
  repeat' ((conv => whnf); first | refine walk (Tryd.ok ..) ?_ | (refine Cnd.mk (fun h => ?_) (fun h => ?_) <;> (first | exact cndT h (by (try dsimp only); omega) | exact cndF h (by (try dsimp only); omega) | (exfalso; simp at h; omega) | simp at h | skip)) | refine kp ?_ ?_ | refine tw ?_ ?_ | refine appnil rfl ?_ | refine rawnil rfl ?_ | exact trivial | refine side2 ?_ | refine sideL2 ?_ | refine Or.inr ?_ | refine xi _ (And.intro rfl rfl) ?_ | refine xi _ (fun _ => And.intro rfl rfl) ?_ | refine xi _ rfl ?_)
  (conv => whnf)
  have hxl4 : xs4.length = n := by rw [hr4.1, Nat.mul_one]
  have hv1 : allV ((xs4.drop 0).take i) = true := part_all (by omega) hx4 0 i
  have hv2 : allV ((xs4.drop (i + 1)).take (n - (i + 1))) = true := part_all (by omega) hx4 (i + 1) (n - (i + 1))
  have hv3 : allV ((xs4.drop 0).take (i + 1)) = true := part_all (by omega) hx4 0 (i + 1)
  have hv4 : allV ((xs4.drop i).take (n - i)) = true := part_all (by omega) hx4 i (n - i)
  intro g108 hg108
  repeat' ((conv => whnf); first | refine walk (Tryd.ok ..) ?_ | (refine Cnd.mk (fun h => ?_) (fun h => ?_) <;> (first | exact cndT h (by (try dsimp only); omega) | exact cndF h (by (try dsimp only); omega) | (exfalso; simp at h; omega) | simp at h | skip)) | refine kp ?_ ?_ | refine tw ?_ ?_ | refine appnil rfl ?_ | refine rawnil rfl ?_ | exact trivial | refine side2 ?_ | refine sideL2 ?_ | refine Or.inr ?_ | refine xi _ (And.intro rfl rfl) ?_ | refine xi _ (fun _ => And.intro rfl rfl) ?_ | refine xi _ rfl ?_)
  (conv => whnf)
  refine raw_lay (m' := i) (x' := some ⟨p.1, p.2 + 0, none⟩) (by omega) (by rw [if_neg (by omega)]; simp [adr, add_mk]) ?_
  refine raw_part (d := 904) (lo := 0) (p := p) hr4 (hB4 p rfl (by omega)).1 rfl (by omega) (.inl rfl) ?_
  repeat' ((conv => whnf); first | refine walk (Tryd.ok ..) ?_ | (refine Cnd.mk (fun h => ?_) (fun h => ?_) <;> (first | exact cndT h (by (try dsimp only); omega) | exact cndF h (by (try dsimp only); omega) | (exfalso; simp at h; omega) | simp at h | skip)) | refine kp ?_ ?_ | refine tw ?_ ?_ | refine appnil rfl ?_ | refine rawnil rfl ?_ | exact trivial | refine side2 ?_ | refine sideL2 ?_ | refine Or.inr ?_ | refine xi _ (And.intro rfl rfl) ?_ | refine xi _ (fun _ => And.intro rfl rfl) ?_ | refine xi _ rfl ?_)
  (conv => whnf)
  intro A108 c108
  repeat' ((conv => whnf); first | refine walk (Tryd.ok ..) ?_ | (refine Cnd.mk (fun h => ?_) (fun h => ?_) <;> (first | exact cndT h (by (try dsimp only); omega) | exact cndF h (by (try dsimp only); omega) | (exfalso; simp at h; omega) | simp at h | skip)) | refine kp ?_ ?_ | refine tw ?_ ?_ | refine appnil rfl ?_ | refine rawnil rfl ?_ | exact trivial | refine side2 ?_ | refine sideL2 ?_ | refine Or.inr ?_ | refine xi _ (And.intro rfl rfl) ?_ | refine xi _ (fun _ => And.intro rfl rfl) ?_ | refine xi _ rfl ?_)
  (conv => whnf)
  refine raw_lay (m' := n - (i + 1)) (x' := if c4 = i + 1 then adr (some p) else some ⟨p.1, p.2 + (i + 1), none⟩) (by omega) (by
    rw [show ((i : Int) + 1).toNat = i + 1 by omega]
    split
    · rfl
    · simp [adr, add_mk]) ?_
  refine raw_part (d := 904) (lo := i + 1) (p := p) hr4 (hB4 p rfl (by omega)).1 rfl (by omega) (by
    split
    · exact .inr ⟨by omega, _, rfl⟩
    · exact .inl rfl) ?_
  repeat' ((conv => whnf); first | refine walk (Tryd.ok ..) ?_ | (refine Cnd.mk (fun h => ?_) (fun h => ?_) <;> (first | exact cndT h (by (try dsimp only); omega) | exact cndF h (by (try dsimp only); omega) | (exfalso; simp at h; omega) | simp at h | skip)) | refine kp ?_ ?_ | refine tw ?_ ?_ | refine appnil rfl ?_ | refine rawnil rfl ?_ | exact trivial | refine side2 ?_ | refine sideL2 ?_ | refine Or.inr ?_ | refine xi _ (And.intro rfl rfl) ?_ | refine xi _ (fun _ => And.intro rfl rfl) ?_ | refine xi _ rfl ?_)
  (conv => whnf)
  intro A117 c117
  repeat' ((conv => whnf); first | refine walk (Tryd.ok ..) ?_ | (refine Cnd.mk (fun h => ?_) (fun h => ?_) <;> (first | exact cndT h (by (try dsimp only); omega) | exact cndF h (by (try dsimp only); omega) | (exfalso; simp at h; omega) | simp at h | skip)) | refine kp ?_ ?_ | refine tw ?_ ?_ | refine appnil rfl ?_ | refine rawnil rfl ?_ | exact trivial | refine side2 ?_ | refine sideL2 ?_ | refine Or.inr ?_ | refine xi _ (And.intro rfl rfl) ?_ | refine xi _ (fun _ => And.intro rfl rfl) ?_ | refine xi _ rfl ?_)
  (conv => whnf)
  obtain ⟨hLw, pL, eL, heL, hLr⟩ := hB.less hok (i := i) (by omega)
  obtain ⟨tl, htl⟩ : ∃ tl, tl = ba (((segsL l).eraseIdx i).flatMap wS) := ⟨_, rfl⟩
  have htld : readG tl.data.toList = ([], pL, eL) := by rw [htl]; exact hLr
  refine called_at (.t [.v (.string tl), .v (.int .i64 0)]) rfl (fun w' hh => by
    rw [htl]
    exact writeL_lit hLw _ w' (cat_nest hh (d1 := 108) (d2 := 904) (X1 := (xs4.drop 0).take i) (X2 := (xs4.drop (i + 1)).take (n - (i + 1))) (L1 := ((segsL l).drop 0).take i) (L2 := ((segsL l).drop (i + 1)).take (n - (i + 1))) rfl rfl rfl (by
      rw [List.eraseIdx_eq_take_drop_succ, List.drop_zero, List.take_of_length_le (i := n - (i + 1)) (by rw [List.length_drop]; omega)]) (by
      rw [List.length_eraseIdx, if_pos (by omega)]; omega) (by
      rw [List.length_take, List.length_take, List.length_drop, List.length_drop]; omega) (part_rel hx4 0 i) (part_rel hx4 (i + 1) (n - (i + 1))))) ?_
  repeat' ((conv => whnf); first | refine walk (Tryd.ok ..) ?_ | (refine Cnd.mk (fun h => ?_) (fun h => ?_) <;> (first | exact cndT h (by (try dsimp only); omega) | exact cndF h (by (try dsimp only); omega) | (exfalso; simp at h; omega) | simp at h | skip)) | refine kp ?_ ?_ | refine tw ?_ ?_ | refine appnil rfl ?_ | refine rawnil rfl ?_ | exact trivial | refine side2 ?_ | refine sideL2 ?_ | refine Or.inr ?_ | refine xi _ (And.intro rfl rfl) ?_ | refine xi _ (fun _ => And.intro rfl rfl) ?_ | refine xi _ rfl ?_)
  refine sat_draw (Tryd.ok ..) [] [] (by kernel_rfl) (fun w hw => hw.sub trivial) ?_
  repeat' ((conv => whnf); first | refine walk (Tryd.ok ..) ?_ | (refine Cnd.mk (fun h => ?_) (fun h => ?_) <;> (first | exact cndT h (by (try dsimp only); omega) | exact cndF h (by (try dsimp only); omega) | (exfalso; simp at h; omega) | simp at h | skip)) | refine kp ?_ ?_ | refine tw ?_ ?_ | refine appnil rfl ?_ | refine rawnil rfl ?_ | exact trivial | refine side2 ?_ | refine sideL2 ?_ | refine Or.inr ?_ | refine xi _ (And.intro rfl rfl) ?_ | refine xi _ (fun _ => And.intro rfl rfl) ?_ | refine xi _ rfl ?_)
  (conv => whnf)
  intro g122 hg122
  repeat' ((conv => whnf); first | refine walk (Tryd.ok ..) ?_ | (refine Cnd.mk (fun h => ?_) (fun h => ?_) <;> (first | exact cndT h (by (try dsimp only); omega) | exact cndF h (by (try dsimp only); omega) | (exfalso; simp at h; omega) | simp at h | skip)) | refine kp ?_ ?_ | refine tw ?_ ?_ | refine appnil rfl ?_ | refine rawnil rfl ?_ | exact trivial | refine side2 ?_ | refine sideL2 ?_ | refine Or.inr ?_ | refine xi _ (And.intro rfl rfl) ?_ | refine xi _ (fun _ => And.intro rfl rfl) ?_ | refine xi _ rfl ?_)
  (conv => whnf)
  refine raw_lay (m' := i + 1) (x' := some ⟨p.1, p.2 + 0, none⟩) (by omega) (by rw [if_neg (by omega)]; simp [adr, add_mk]) ?_
  refine raw_part (d := 904) (lo := 0) (p := p) hr4 (hB4 p rfl (by omega)).1 rfl (by omega) (.inl rfl) ?_
  repeat' ((conv => whnf); first | refine walk (Tryd.ok ..) ?_ | (refine Cnd.mk (fun h => ?_) (fun h => ?_) <;> (first | exact cndT h (by (try dsimp only); omega) | exact cndF h (by (try dsimp only); omega) | (exfalso; simp at h; omega) | simp at h | skip)) | refine kp ?_ ?_ | refine tw ?_ ?_ | refine appnil rfl ?_ | refine rawnil rfl ?_ | exact trivial | refine side2 ?_ | refine sideL2 ?_ | refine Or.inr ?_ | refine xi _ (And.intro rfl rfl) ?_ | refine xi _ (fun _ => And.intro rfl rfl) ?_ | refine xi _ rfl ?_)
  (conv => whnf)
  intro A122 c122
  repeat' ((conv => whnf); first | refine walk (Tryd.ok ..) ?_ | (refine Cnd.mk (fun h => ?_) (fun h => ?_) <;> (first | exact cndT h (by (try dsimp only); omega) | exact cndF h (by (try dsimp only); omega) | (exfalso; simp at h; omega) | simp at h | skip)) | refine kp ?_ ?_ | refine tw ?_ ?_ | refine appnil rfl ?_ | refine rawnil rfl ?_ | exact trivial | refine side2 ?_ | refine sideL2 ?_ | refine Or.inr ?_ | refine xi _ (And.intro rfl rfl) ?_ | refine xi _ (fun _ => And.intro rfl rfl) ?_ | refine xi _ rfl ?_)
  (conv => whnf)
  refine raw_lay (m' := n - i) (x' := some ⟨p.1, p.2 + i, none⟩) (by omega) (by rw [if_neg (by omega)]; simp [adr, add_mk]) ?_
  refine raw_part (d := 904) (lo := i) (p := p) hr4 (hB4 p rfl (by omega)).1 rfl (by omega) (.inl rfl) ?_
  repeat' ((conv => whnf); first | refine walk (Tryd.ok ..) ?_ | (refine Cnd.mk (fun h => ?_) (fun h => ?_) <;> (first | exact cndT h (by (try dsimp only); omega) | exact cndF h (by (try dsimp only); omega) | (exfalso; simp at h; omega) | simp at h | skip)) | refine kp ?_ ?_ | refine tw ?_ ?_ | refine appnil rfl ?_ | refine rawnil rfl ?_ | exact trivial | refine side2 ?_ | refine sideL2 ?_ | refine Or.inr ?_ | refine xi _ (And.intro rfl rfl) ?_ | refine xi _ (fun _ => And.intro rfl rfl) ?_ | refine xi _ rfl ?_)
  (conv => whnf)
  intro A131 c131
  repeat' ((conv => whnf); first | refine walk (Tryd.ok ..) ?_ | (refine Cnd.mk (fun h => ?_) (fun h => ?_) <;> (first | exact cndT h (by (try dsimp only); omega) | exact cndF h (by (try dsimp only); omega) | (exfalso; simp at h; omega) | simp at h | skip)) | refine kp ?_ ?_ | refine tw ?_ ?_ | refine appnil rfl ?_ | refine rawnil rfl ?_ | exact trivial | refine side2 ?_ | refine sideL2 ?_ | refine Or.inr ?_ | refine xi _ (And.intro rfl rfl) ?_ | refine xi _ (fun _ => And.intro rfl rfl) ?_ | refine xi _ rfl ?_)
  (conv => whnf)
  have htw : twice (segsL l) i = ((segsL l).drop 0).take (i + 1) ++ ((segsL l).drop i).take (n - i) := by
    rw [List.drop_zero, List.take_of_length_le (i := n - i) (by rw [List.length_drop]; omega)]
    rfl
  have htwl : i + 1 + (n - i) = (twice (segsL l) i).length := by
    rw [htw, List.length_append, List.length_take, List.length_take, List.length_drop, List.length_drop]
    omega
  have hne : eL ≠ 0 := heL
  rcases hB.more hok (i := i) (by omega) with ⟨pM, eM, heM, hMw, hMr⟩ | hMw
  · obtain ⟨tm, htm⟩ : ∃ tm, tm = ba ((twice (segsL l) i).flatMap wS) := ⟨_, rfl⟩
    have htmd : readG tm.data.toList = ([], pM, eM) := by rw [htm]; exact hMr
    refine called_at (.t [.v (.string tm), .v (.int .i64 0)]) rfl (fun w' hh => by
      rw [htm]
      exact writeL_lit hMw _ w' (cat_nest hh (d1 := 122) (d2 := 904) (X1 := (xs4.drop 0).take (i + 1)) (X2 := (xs4.drop i).take (n - i)) (L1 := ((segsL l).drop 0).take (i + 1)) (L2 := ((segsL l).drop i).take (n - i)) rfl rfl rfl htw (by omega) (by
        rw [List.length_take, List.length_take, List.length_drop, List.length_drop]; omega) (part_rel hx4 0 (i + 1)) (part_rel hx4 i (n - i)))) ?_
    repeat' ((conv => whnf); first | refine walk (Tryd.ok ..) ?_ | (refine Cnd.mk (fun h => ?_) (fun h => ?_) <;> (first | exact cndT h (by (try dsimp only); omega) | exact cndF h (by (try dsimp only); omega) | (exfalso; simp at h; omega) | simp at h | skip)) | refine kp ?_ ?_ | refine tw ?_ ?_ | refine appnil rfl ?_ | refine rawnil rfl ?_ | exact trivial | refine side2 ?_ | refine sideL2 ?_ | refine Or.inr ?_ | refine sat_drawH (Tryd.ok ..) (by kernel_rfl) ?_ | refine xi _ (And.intro rfl rfl) ?_ | refine xi _ (fun _ => And.intro rfl rfl) ?_ | refine xi _ rfl ?_)
    (conv => whnf)
    refine called_nest 905 (mk := fun v => .tuple #[v, .int .i64 pL, .int .i64 eL]) (Q := fun w B v => NMsgs NS w B v []) (fun v => .t [.v v, .v (.int .i64 pL), .v (.int .i64 eL)]) (fun _ => rfl) (fun w' hh => by exact readG_lit htld w' (hw.at_ rfl rfl hh)) ?_
    intro w5 gs5 v5 h5
    obtain ⟨a5, c5, rfl⟩ := nmsgs_len h5
    repeat' ((conv => whnf); first | refine walk (Tryd.ok ..) ?_ | (refine Cnd.mk (fun h => ?_) (fun h => ?_) <;> (first | exact cndT h (by (try dsimp only); omega) | exact cndF h (by (try dsimp only); omega) | (exfalso; simp at h; omega) | simp at h | skip)) | refine kp ?_ ?_ | refine tw ?_ ?_ | refine appnil rfl ?_ | refine rawnil rfl ?_ | exact trivial | refine side2 ?_ | refine sideL2 ?_ | refine Or.inr ?_ | refine sat_drawH (Tryd.ok ..) (by kernel_rfl) ?_ | refine xi _ (And.intro rfl rfl) ?_ | refine xi _ (fun _ => And.intro rfl rfl) ?_ | refine xi _ rfl ?_)
    (conv => whnf)
    refine called_nest 906 (mk := fun v => .tuple #[v, .int .i64 pM, .int .i64 eM]) (Q := fun w B v => NMsgs NS w B v []) (fun v => .t [.v v, .v (.int .i64 pM), .v (.int .i64 eM)]) (fun _ => rfl) (fun w' hh => by exact readG_lit htmd w' (hw.at_ rfl rfl hh)) ?_
    intro w6 gs6 v6 h6
    obtain ⟨a6, c6, rfl⟩ := nmsgs_len h6
    rw [show ([] : List Msg).length = 0 from rfl]
    repeat' ((conv => whnf); first | refine walk (Tryd.ok ..) ?_ | (refine Cnd.mk (fun h => ?_) (fun h => ?_) <;> (first | exact cndT h (by (try dsimp only); omega) | exact cndF h (by (try dsimp only); omega) | (exfalso; simp at h; omega) | simp at h | skip)) | refine kp ?_ ?_ | refine tw ?_ ?_ | refine appnil rfl ?_ | refine rawnil rfl ?_ | exact trivial | refine side2 ?_ | refine sideL2 ?_ | refine Or.inr ?_ | refine sat_drawH (Tryd.ok ..) (by kernel_rfl) ?_ | refine xi _ (And.intro rfl rfl) ?_ | refine xi _ (fun _ => And.intro rfl rfl) ?_ | refine xi _ rfl ?_)
    exact done_pure rfl rfl (by simp [SV.real, SV.r2, SV.r1, heM, heL])
  · refine called_at (.t [.v (.string ⟨#[]⟩), .v (.int .i64 3)]) rfl (fun w' hh => by
      exact writeL_lit hMw _ w' (cat_nest hh (d1 := 122) (d2 := 904) (X1 := (xs4.drop 0).take (i + 1)) (X2 := (xs4.drop i).take (n - i)) (L1 := ((segsL l).drop 0).take (i + 1)) (L2 := ((segsL l).drop i).take (n - i)) rfl rfl rfl htw (by omega) (by
        rw [List.length_take, List.length_take, List.length_drop, List.length_drop]; omega) (part_rel hx4 0 (i + 1)) (part_rel hx4 i (n - i)))) ?_
    have hemp : readG (⟨#[]⟩ : ByteArray).data.toList = ([], 0, 0) := readG_none
    repeat' ((conv => whnf); first | refine walk (Tryd.ok ..) ?_ | (refine Cnd.mk (fun h => ?_) (fun h => ?_) <;> (first | exact cndT h (by (try dsimp only); omega) | exact cndF h (by (try dsimp only); omega) | (exfalso; simp at h; omega) | simp at h | skip)) | refine kp ?_ ?_ | refine tw ?_ ?_ | refine appnil rfl ?_ | refine rawnil rfl ?_ | exact trivial | refine side2 ?_ | refine sideL2 ?_ | refine Or.inr ?_ | refine sat_drawH (Tryd.ok ..) (by kernel_rfl) ?_ | refine xi _ (And.intro rfl rfl) ?_ | refine xi _ (fun _ => And.intro rfl rfl) ?_ | refine xi _ rfl ?_)
    (conv => whnf)
    refine called_nest 905 (mk := fun v => .tuple #[v, .int .i64 pL, .int .i64 eL]) (Q := fun w B v => NMsgs NS w B v []) (fun v => .t [.v v, .v (.int .i64 pL), .v (.int .i64 eL)]) (fun _ => rfl) (fun w' hh => by exact readG_lit htld w' (hw.at_ rfl rfl hh)) ?_
    intro w5 gs5 v5 h5
    obtain ⟨a5, c5, rfl⟩ := nmsgs_len h5
    repeat' ((conv => whnf); first | refine walk (Tryd.ok ..) ?_ | (refine Cnd.mk (fun h => ?_) (fun h => ?_) <;> (first | exact cndT h (by (try dsimp only); omega) | exact cndF h (by (try dsimp only); omega) | (exfalso; simp at h; omega) | simp at h | skip)) | refine kp ?_ ?_ | refine tw ?_ ?_ | refine appnil rfl ?_ | refine rawnil rfl ?_ | exact trivial | refine side2 ?_ | refine sideL2 ?_ | refine Or.inr ?_ | refine sat_drawH (Tryd.ok ..) (by kernel_rfl) ?_ | refine xi _ (And.intro rfl rfl) ?_ | refine xi _ (fun _ => And.intro rfl rfl) ?_ | refine xi _ rfl ?_)
    (conv => whnf)
    refine called_nest 906 (mk := fun v => .tuple #[v, .int .i64 0, .int .i64 0]) (Q := fun w B v => NMsgs NS w B v []) (fun v => .t [.v v, .v (.int .i64 0), .v (.int .i64 0)]) (fun _ => rfl) (fun w' hh => by exact readG_lit hemp w' (hw.at_ rfl rfl hh)) ?_
    intro w6 gs6 v6 h6
    obtain ⟨a6, c6, rfl⟩ := nmsgs_len h6
    rw [show ([] : List Msg).length = 0 from rfl]
    repeat' ((conv => whnf); first | refine walk (Tryd.ok ..) ?_ | (refine Cnd.mk (fun h => ?_) (fun h => ?_) <;> (first | exact cndT h (by (try dsimp only); omega) | exact cndF h (by (try dsimp only); omega) | (exfalso; simp at h; omega) | simp at h | skip)) | refine kp ?_ ?_ | refine tw ?_ ?_ | refine appnil rfl ?_ | refine rawnil rfl ?_ | exact trivial | refine side2 ?_ | refine sideL2 ?_ | refine Or.inr ?_ | refine sat_drawH (Tryd.ok ..) (by kernel_rfl) ?_ | refine xi _ (And.intro rfl rfl) ?_ | refine xi _ (fun _ => And.intro rfl rfl) ?_ | refine xi _ rfl ?_)
    exact done_pure rfl rfl (by simp [SV.real, SV.r2, SV.r1, heL])
end
end Go.Proofs.YtdohcglpcgahaaaDoor
