/-
  The walks of the hydro package: the weight at a draught.
-/
import Derived.Test.YtomhfakkebaciaaH12
set_option linter.unusedSimpArgs false
set_option linter.unusedVariables false
namespace Go.Proofs.Ytomhfakkebaciaa
open Go Sat Go.RowKit Go.PlainAid
theorem chain_line (a b p q : Int) (x : Fr) (S M D T : Nat × Nat) (g : Nat) (w : World) (hx : Big x) (ha : I64 a) (hba : I64 (b - a)) (hp : I64 p) (hqp : I64 (q - p)) (hA : Ro w (some (g, 0)) 4 1 (bysV [S, M, D, T]))
    (s1 : Ro w (some (S.1, 0)) 1 1 [opV 51]) (s2 : Ro w (some (S.2, 0)) 1 1 [.int .i64 p]) (m1 : Ro w (some (M.1, 0)) 1 1 [opV 52]) (m2 : Ro w (some (M.2, 0)) 1 1 [.int .i64 (b - a)])
    (d1 : Ro w (some (D.1, 0)) 1 1 [opV 19]) (d2 : Ro w (some (D.2, 0)) 1 1 [.int .i64 (q - p)]) (t1 : Ro w (some (T.1, 0)) 1 1 [opV 14]) (t2 : Ro w (some (T.2, 0)) 1 1 [.int .i64 a]) :
    Calls Try.prog 50 #[frV x, .slice (some ⟨g, 0, none⟩) 4 4] w fun e w' => e = .returned (.tuple #[frV (lineE a b x p q).1, .int .i64 (lineE a b x p q).2]) ∧ Below w.heap.size w w' := by
  rw [line_chain]
  refine chain_any x _ [S, M, D, T] (some (g, 0)) 4 w hx rfl (by show 4 ≤ 1000; omega) hA ?_ ?_
  · intro k o u ho hu f w' hf hb
    rcases k with _ | _ | _ | _ | k
    · cases ho; cases hu
      exact sub_by f p _ _ w' hf hp (s1.below hb) (s2.below hb)
    · cases ho; cases hu
      exact mul_by f (b - a) _ _ w' hf hba (m1.below hb) (m2.below hb)
    · cases ho; cases hu
      exact div_by f (q - p) _ _ w' hf hqp (d1.below hb) (d2.below hb)
    · cases ho; cases hu
      exact add_by f a _ _ w' hf ha (t1.below hb) (t2.below hb)
    · simp at ho
  · intro o ho f
    simp only [List.mem_cons, List.not_mem_nil, or_false] at ho
    rcases ho with rfl | rfl | rfl | rfl
    · exact subE_big _ _
    · exact mulE_big _ _
    · exact divE_big _ _
    · exact addE_big _ _
theorem deep_lt {l : List HRow} {x : Fr} : ∀ (j : Nat) (c : HRow), j < deepI l x → l[j]? = some c → deepC x c < 0 := by
  intro j c hj hc
  unfold deepI at hj
  have hl := (List.getElem?_eq_some_iff.1 hc).1
  have h2 := List.not_of_lt_findIdx hj
  rw [List.getElem?_eq_getElem hl] at hc
  cases hc
  simp at h2
  omega
theorem deep_ge {l : List HRow} {x : Fr} {r : HRow} (h : l[deepI l x]? = some r) : 0 ≤ deepC x r := by
  obtain ⟨h1, h2⟩ := List.getElem?_eq_some_iff.1 h
  have h3 := List.findIdx_getElem (p := fun r => decide (0 ≤ deepC x r)) (xs := l) (w := h1)
  have h4 := of_decide_eq_true h3
  rw [← h2]
  exact h4
set_option maxRecDepth 100000 in
set_option maxHeartbeats 16000000 in
theorem weight_any (l : List HRow) (x : Fr) (A : Option (Nat × Nat)) (cap : Nat) (w : World) (hA : Ro w A l.length 5 (rwL l)) (hl : l.length ≤ 9223372036854775807) (hx : Big x) :
    Calls Try.prog 22 #[.slice (adr A) l.length cap, frV x] w fun e w' => e = .returned (.tuple #[frV (weightH l x).1, .int .i64 (weightH l x).2]) ∧ Below w.heap.size w w' := by
  have lx := frC_len x
  have lz := frC_len zeroF
  refine calls_sat (cx := Try.cx 90 [9, 11] [] [] w) (Try.ok ..) Try.func22 rfl [.o 300 A l.length cap, .a (frC x)] rfl (by show 2 ≤ 90; omega) [(300, .ro A l.length 5 (rwL l))] (holds_ros rfl rfl ⟨hA, trivial⟩) ?_
  repeat' ((conv => whnf); first | refine walk (Try.ok ..) ?_ | (refine Cnd.mk (fun h => ?_) (fun h => ?_) <;> (first | exact cndT h (by (try dsimp only); omega) | exact cndF h (by (try dsimp only); omega) | (exfalso; simp at h; omega) | simp at h | skip)) | refine kp ?_ ?_ | refine tw ?_ ?_ | exact trivial | refine side2 ?_ | refine sideL2 ?_ | refine Or.inr ?_ | refine sat_drawH (Try.ok ..) (by kernel_rfl) ?_ | refine xi _ (And.intro rfl rfl) ?_ | refine xi _ (fun _ => And.intro rfl rfl) ?_ | refine xi _ rfl ?_)
  (conv => whnf)
  intro g3 hg3
  repeat' ((conv => whnf); first | refine walk (Try.ok ..) ?_ | (refine Cnd.mk (fun h => ?_) (fun h => ?_) <;> (first | exact cndT h (by (try dsimp only); omega) | exact cndF h (by (try dsimp only); omega) | (exfalso; simp at h; omega) | simp at h | skip)) | refine kp ?_ ?_ | refine tw ?_ ?_ | exact trivial | refine side2 ?_ | refine sideL2 ?_ | refine Or.inr ?_ | refine sat_drawH (Try.ok ..) (by kernel_rfl) ?_ | refine xi _ (And.intro rfl rfl) ?_ | refine xi _ (fun _ => And.intro rfl rfl) ?_ | refine xi _ rfl ?_)
  (conv => whnf)
  intro g4 hg4
  repeat' ((conv => whnf); first | refine walk (Try.ok ..) ?_ | (refine Cnd.mk (fun h => ?_) (fun h => ?_) <;> (first | exact cndT h (by (try dsimp only); omega) | exact cndF h (by (try dsimp only); omega) | (exfalso; simp at h; omega) | simp at h | skip)) | refine kp ?_ ?_ | refine tw ?_ ?_ | exact trivial | refine side2 ?_ | refine sideL2 ?_ | refine Or.inr ?_ | refine sat_drawH (Try.ok ..) (by kernel_rfl) ?_ | refine xi _ (And.intro rfl rfl) ?_ | refine xi _ (fun _ => And.intro rfl rfl) ?_ | refine xi _ rfl ?_)
  refine called_at (.v (.bool (rightH l))) rfl (fun w' hh => by exact hRight_any l A cap w' (ro_of_ro hh (id := 300) rfl) hl) ?_
  repeat' ((conv => whnf); first | refine walk (Try.ok ..) ?_ | (refine Cnd.mk (fun h => ?_) (fun h => ?_) <;> (first | exact cndT h (by (try dsimp only); omega) | exact cndF h (by (try dsimp only); omega) | (exfalso; simp at h; omega) | simp at h | skip)) | refine kp ?_ ?_ | refine tw ?_ ?_ | exact trivial | refine side2 ?_ | refine sideL2 ?_ | refine Or.inr ?_ | refine sat_drawH (Try.ok ..) (by kernel_rfl) ?_ | refine xi _ (And.intro rfl rfl) ?_ | refine xi _ (fun _ => And.intro rfl rfl) ?_ | refine xi _ rfl ?_)
  refine calledQ_pure (.v (.bool (rightF x))) rfl (fun _ w' => by rw [tk1]; exact right_any x w' hx) ?_
  repeat' ((conv => whnf); first | refine walk (Try.ok ..) ?_ | (refine Cnd.mk (fun h => ?_) (fun h => ?_) <;> (first | exact cndT h (by (try dsimp only); omega) | exact cndF h (by (try dsimp only); omega) | (exfalso; simp at h; omega) | simp at h | skip)) | refine kp ?_ ?_ | refine tw ?_ ?_ | exact trivial | refine side2 ?_ | refine sideL2 ?_ | refine Or.inr ?_ | refine sat_drawH (Try.ok ..) (by kernel_rfl) ?_ | refine xi _ (And.intro rfl rfl) ?_ | refine xi _ (fun _ => And.intro rfl rfl) ?_ | refine xi _ rfl ?_)
  case refine_1 =>
    have hn : (rightH l && rightF x) = false := by
      cases h1 : rightH l <;> cases h2 : rightF x <;> first | rfl | (rw [h1, h2] at h; simp at h)
    rw [weight_no hn]
    exact done_pure rfl rfl (congrArg (fun l => (SV.t [.a l, .v (.int .i64 2)]).real) (show _ = frC zeroF from rfl))
  have hr : rightH l = true := by cases h1 : rightH l <;> first | rfl | (rw [h1] at h; simp at h)
  have hrx : rightF x = true := by cases h1 : rightF x <;> first | rfl | (rw [h1] at h; simp at h)
  have h2 := (right_is hr).two
  have h100 := (right_is hr).most
  have h100' : l.length ≤ 100 := h100
  clear h
  repeat' ((conv => whnf); first | refine walk (Try.ok ..) ?_ | (refine Cnd.mk (fun h => ?_) (fun h => ?_) <;> (first | exact cndT h (by (try dsimp only); omega) | exact cndF h (by (try dsimp only); omega) | (exfalso; simp at h; omega) | simp at h | skip)) | refine kp ?_ ?_ | refine tw ?_ ?_ | exact trivial | refine side2 ?_ | refine sideL2 ?_ | refine Or.inr ?_ | refine sat_drawH (Try.ok ..) (by kernel_rfl) ?_ | refine xi _ (And.intro rfl rfl) ?_ | refine xi _ (fun _ => And.intro rfl rfl) ?_ | refine xi _ rfl ?_)
  (conv => whnf)
  intro g6 hg6
  repeat' ((conv => whnf); first | refine walk (Try.ok ..) ?_ | (refine Cnd.mk (fun h => ?_) (fun h => ?_) <;> (first | exact cndT h (by (try dsimp only); omega) | exact cndF h (by (try dsimp only); omega) | (exfalso; simp at h; omega) | simp at h | skip)) | refine kp ?_ ?_ | refine tw ?_ ?_ | exact trivial | refine side2 ?_ | refine sideL2 ?_ | refine Or.inr ?_ | refine sat_drawH (Try.ok ..) (by kernel_rfl) ?_ | refine xi _ (And.intro rfl rfl) ?_ | refine xi _ (fun _ => And.intro rfl rfl) ?_ | refine xi _ rfl ?_)
  (conv => whnf)
  refine called_at (.v (.int .i64 (whereI l.length (deepI l x)))) rfl (fun w' hh => by exact index_any l A cap x g3 g6 w' (ro_of_ro hh (id := 300) rfl) hr hx (ro_of_blk hh (id := 3) rfl 0 1 17 (Nat.le_of_eq lx.symm)) (ro_of_blk hh (id := 6) rfl 0 1 1 (Nat.le_refl _))) ?_
  by_cases hi : deepI l x < l.length
  case neg =>
    have hw : whereI l.length (deepI l x) = -1 := by unfold whereI; rw [if_neg hi]
    rw [hw, weight_none hr hrx (fun j c hc => deep_lt j c (by have := (List.getElem?_eq_some_iff.1 hc).1; omega) hc)]
    obtain ⟨r0, hr0⟩ : ∃ a, l[0]? = some a := ⟨_, List.getElem?_eq_getElem (by omega)⟩
    obtain ⟨⟨_, _⟩, ⟨_, _⟩, _, _, _⟩ := ok_row ((right_is hr).row _ r0 hr0)
    repeat' ((conv => whnf); first | refine walk (Try.ok ..) ?_ | (refine Cnd.mk (fun h => ?_) (fun h => ?_) <;> (first | exact cndT h (by (try dsimp only); omega) | exact cndF h (by (try dsimp only); omega) | (exfalso; simp at h; omega) | simp at h | skip)) | refine kp ?_ ?_ | refine tw ?_ ?_ | exact trivial | refine side2 ?_ | refine sideL2 ?_ | refine Or.inr ?_ | refine sat_drawH (Try.ok ..) (by kernel_rfl) ?_ | refine xi _ (And.intro rfl rfl) ?_ | refine xi _ (fun _ => And.intro rfl rfl) ?_ | refine xi _ rfl ?_ | refine xi _ (fun _ => (rw_cells hr0 rfl)) ?_ | refine xi _ (rw_cells hr0 rfl) ?_)
    (conv => whnf)
    refine calledQ_at (.v (.int .i64 (deepC x r0))) rfl (fun _ w' hh => by exact deeper_any x r0 g3 w' hx (by refine ⟨?_, ?_⟩ <;> omega) (ro_of_blk hh (id := 3) rfl 0 1 17 (Nat.le_of_eq lx.symm))) ?_
    repeat' ((conv => whnf); first | refine walk (Try.ok ..) ?_ | (refine Cnd.mk (fun h => ?_) (fun h => ?_) <;> (first | exact cndT h (by (try dsimp only); omega) | exact cndF h (by (try dsimp only); omega) | (exfalso; simp at h; omega) | simp at h | skip)) | refine kp ?_ ?_ | refine tw ?_ ?_ | exact trivial | refine side2 ?_ | refine sideL2 ?_ | refine Or.inr ?_ | refine sat_drawH (Try.ok ..) (by kernel_rfl) ?_ | refine xi _ (And.intro rfl rfl) ?_ | refine xi _ (fun _ => And.intro rfl rfl) ?_ | refine xi _ rfl ?_)
    exact done_pure rfl rfl (congrArg (fun l => (SV.t [.a l, .v (.int .i64 6)]).real) (show _ = frC zeroF from rfl))
  obtain ⟨r, hri⟩ : ∃ a, l[deepI l x]? = some a := ⟨_, List.getElem?_eq_getElem hi⟩
  have hge := deep_ge hri
  have hw : whereI l.length (deepI l x) = deepI l x := by unfold whereI; rw [if_pos hi]
  obtain ⟨⟨_, _⟩, ⟨_, _⟩, _, _, _⟩ := ok_row ((right_is hr).row _ r hri)
  rw [hw]
  obtain ⟨r0, hr0⟩ : ∃ a, l[0]? = some a := ⟨_, List.getElem?_eq_getElem (by omega)⟩
  obtain ⟨⟨_, _⟩, ⟨_, _⟩, _, _, _⟩ := ok_row ((right_is hr).row _ r0 hr0)
  have hat := weight_at (x := x) hr hrx hri
  have hzero := fun (h : deepI l x = 0) => weight_zero (x := x) (r := r) hr hrx (h ▸ hri)
  have hline := fun a (ha : l[deepI l x - 1]? = some a) (h0 : 0 < deepI l x) (hp : 0 < deepC x r) => weight_line hr hrx hri ha h0 hp deep_lt
  have hC := cmpE_bd (ofF r.d) x
  have hC0 := cmpE_bd (ofF r0.d) x
  have hD : -1 ≤ deepC x r ∧ deepC x r ≤ 1 := hC
  have hD0 : -1 ≤ deepC x r0 ∧ deepC x r0 ≤ 1 := hC0
  have hsame : deepI l x = 0 → r0 = r := fun h => by rw [h, hr0] at hri; cases hri; rfl
  have hlt := deep_lt (l := l) (x := x)
  obtain ⟨i, ei⟩ : ∃ i, i = deepI l x := ⟨_, rfl⟩
  rw [← ei] at hat hri hi hzero hline hsame hlt ⊢
  repeat' ((conv => whnf); first | refine walk (Try.ok ..) ?_ | (refine Cnd.mk (fun h => ?_) (fun h => ?_) <;> (first | exact cndT h (by (try dsimp only); omega) | exact cndF h (by (try dsimp only); omega) | (exfalso; simp at h; omega) | simp at h | skip)) | refine kp ?_ ?_ | refine tw ?_ ?_ | exact trivial | refine side2 ?_ | refine sideL2 ?_ | refine Or.inr ?_ | refine sat_drawH (Try.ok ..) (by kernel_rfl) ?_ | refine xi _ (And.intro rfl rfl) ?_ | refine xi _ (fun _ => And.intro rfl rfl) ?_ | refine xi _ rfl ?_ | refine xi _ (fun _ => (rw_cells hr0 rfl)) ?_ | refine xi _ (rw_cells hr0 rfl) ?_)
  (conv => whnf)
  refine calledQ_at (.v (.int .i64 (deepC x r0))) rfl (fun _ w' hh => by exact deeper_any x r0 g3 w' hx (by refine ⟨?_, ?_⟩ <;> omega) (ro_of_blk hh (id := 3) rfl 0 1 17 (Nat.le_of_eq lx.symm))) ?_
  by_cases hi0 : i = 0 ∧ 0 < deepC x r
  · obtain ⟨h0, hp⟩ := hi0
    rw [hzero h0 hp]
    have := hsame h0
    subst this
    repeat' ((conv => whnf); first | refine walk (Try.ok ..) ?_ | (refine Cnd.mk (fun h => ?_) (fun h => ?_) <;> (first | exact cndT h (by (try dsimp only); omega) | exact cndF h (by (try dsimp only); omega) | (exfalso; simp at h; omega) | simp at h | skip)) | refine kp ?_ ?_ | refine tw ?_ ?_ | exact trivial | refine side2 ?_ | refine sideL2 ?_ | refine Or.inr ?_ | refine sat_drawH (Try.ok ..) (by kernel_rfl) ?_ | refine xi _ (And.intro rfl rfl) ?_ | refine xi _ (fun _ => And.intro rfl rfl) ?_ | refine xi _ rfl ?_)
    all_goals exact done_pure rfl rfl (congrArg (fun l => (SV.t [.a l, .v (.int .i64 6)]).real) (show _ = frC zeroF from rfl))
  have hno : ¬ ((i : Int) < 0 ∨ ((i : Int) = 0 ∧ 0 < deepC x r0)) := by
    intro h
    rcases h with h | ⟨h, h1⟩
    · omega
    · have h3 : i = 0 := by omega
      exact hi0 ⟨h3, by rw [← hsame h3]; exact h1⟩
  repeat' ((conv => whnf); first | refine walk (Try.ok ..) ?_ | (refine Cnd.mk (fun h => ?_) (fun h => ?_) <;> (first | exact cndT h (by (try dsimp only); omega) | exact cndF h (by (try dsimp only); omega) | (exfalso; simp at h; omega) | simp at h | skip)) | refine kp ?_ ?_ | refine tw ?_ ?_ | exact trivial | refine side2 ?_ | refine sideL2 ?_ | refine Or.inr ?_ | refine sat_drawH (Try.ok ..) (by kernel_rfl) ?_ | refine xi _ (And.intro rfl rfl) ?_ | refine xi _ (fun _ => And.intro rfl rfl) ?_ | refine xi _ rfl ?_ | refine xi _ (fun _ => (rw_cells hri rfl)) ?_ | refine xi _ (rw_cells hri rfl) ?_)
  (conv => whnf)
  refine calledQ_at (.v (.int .i64 (deepC x r))) rfl (fun _ w' hh => by exact deeper_any x r g3 w' hx (by refine ⟨?_, ?_⟩ <;> omega) (ro_of_blk hh (id := 3) rfl 0 1 17 (Nat.le_of_eq lx.symm))) ?_
  have hrk : (rwL l)[mulS (i : Int).toNat 5 + 1]? = some (.int .i64 r.k) := (rw_cells hri rfl).2 1 (by omega)
  by_cases h0 : deepC x r = 0
  · rw [hat h0 hlt]
    repeat' ((conv => whnf); first | refine walk (Try.ok ..) ?_ | (refine Cnd.mk (fun h => ?_) (fun h => ?_) <;> (first | exact cndT h (by (try dsimp only); omega) | exact cndF h (by (try dsimp only); omega) | (exfalso; simp at h; omega) | simp at h | skip)) | refine kp ?_ ?_ | refine tw ?_ ?_ | exact trivial | refine side2 ?_ | refine sideL2 ?_ | refine Or.inr ?_ | refine sat_drawH (Try.ok ..) (by kernel_rfl) ?_ | refine xi _ (And.intro rfl rfl) ?_ | refine xi _ (fun _ => And.intro rfl rfl) ?_ | refine xi _ rfl ?_ | refine xi _ (fun _ => hrk) ?_ | refine xi _ hrk ?_)
    refine called_pure (.a (frC (ofF r.k))) rfl (fun w' => by exact of_frac _ w' (by refine ⟨?_, ?_⟩ <;> omega)) ?_
    have lk := frC_len (ofF r.k)
    repeat' ((conv => whnf); first | refine walk (Try.ok ..) ?_ | (refine Cnd.mk (fun h => ?_) (fun h => ?_) <;> (first | exact cndT h (by (try dsimp only); omega) | exact cndF h (by (try dsimp only); omega) | (exfalso; simp at h; omega) | simp at h | skip)) | refine kp ?_ ?_ | refine tw ?_ ?_ | exact trivial | refine side2 ?_ | refine sideL2 ?_ | refine Or.inr ?_ | refine sat_drawH (Try.ok ..) (by kernel_rfl) ?_ | refine xi _ (And.intro rfl rfl) ?_ | refine xi _ (fun _ => And.intro rfl rfl) ?_ | refine xi _ rfl ?_)
    exact done_pure rfl rfl (congrArg (fun l => (SV.t [.a l, .v (.int .i64 0)]).real) (tk1 (ofF r.k)))
  have hi1 : 0 < i := by
    rcases Nat.eq_zero_or_pos i with h3 | h3
    · exact absurd ⟨h3, by omega⟩ hi0
    · exact h3
  obtain ⟨a, ha⟩ : ∃ a, l[i - 1]? = some a := ⟨_, List.getElem?_eq_getElem (by omega)⟩
  obtain ⟨⟨_, _⟩, ⟨_, _⟩, _, _, _⟩ := ok_row ((right_is hr).row _ a ha)
  rw [hline a ha hi1 (by omega)]
  have hL := fun (S M D T : Nat × Nat) g w => chain_line a.k r.k a.d r.d x S M D T g w hx (by refine ⟨?_, ?_⟩ <;> omega) (by refine ⟨?_, ?_⟩ <;> omega) (by refine ⟨?_, ?_⟩ <;> omega) (by refine ⟨?_, ?_⟩ <;> omega)
  obtain ⟨v, hv⟩ : ∃ v, v = lineE a.k r.k x a.d r.d := ⟨_, rfl⟩
  rw [← hv] at hL ⊢
  have lv := frC_len v.1
  have ca := rw_cells ha (i := (i : Int) - 1) (by omega)
  have cr := rw_cells hri (i := (i : Int)) rfl
  clear hat hzero hline hlt hsame hC hC0
  repeat' ((conv => whnf); first | refine walk (Try.ok ..) ?_ | (refine Cnd.mk (fun h => ?_) (fun h => ?_) <;> (first | exact cndT h (by (try dsimp only); omega) | exact cndF h (by (try dsimp only); omega) | (exfalso; simp at h; omega) | simp at h | skip)) | refine kp ?_ ?_ | refine tw ?_ ?_ | exact trivial | refine side2 ?_ | refine sideL2 ?_ | refine Or.inr ?_ | refine xi _ (And.intro rfl rfl) ?_ | refine xi _ (fun _ => And.intro rfl rfl) ?_ | refine xi _ rfl ?_)
  (conv => whnf)
  refine sat_join0 (fun (s : Nat × Nat) => ([(3, .yes, .p 3 g3 0 0), (4, .yes, .p 4 g4 0 0), (8, .yes, .p 8 s.1 0 0), (9, .yes, .p 9 s.2 0 0)], [(3, .blk g3 26 (frC x)), (4, .blk g4 26 (frC zeroF)), (8, .blk s.1 31 (rwC a)), (9, .blk s.2 31 (rwC r))])) (fun _ => True) (fun _ => rfl) ?_ ?_
  · refine sat_drawH (Try.ok ..) (by kernel_rfl) ?_
    repeat' ((conv => whnf); first | refine walk (Try.ok ..) ?_ | (refine Cnd.mk (fun h => ?_) (fun h => ?_) <;> (first | exact cndT h (by (try dsimp only); omega) | exact cndF h (by (try dsimp only); omega) | (exfalso; simp at h; omega) | simp at h | skip)) | refine kp ?_ ?_ | refine tw ?_ ?_ | exact trivial | refine side2 ?_ | refine sideL2 ?_ | refine Or.inr ?_ | refine sat_drawH (Try.ok ..) (by kernel_rfl) ?_ | refine xi _ (And.intro rfl rfl) ?_ | refine xi _ (fun _ => And.intro rfl rfl) ?_ | refine xi _ rfl ?_ | refine xi _ (fun _ => ca) ?_ | refine xi _ ca ?_ | refine xi _ (fun _ => cr) ?_ | refine xi _ cr ?_ | intro g hg | (exact ⟨(_, _), trivial, by ((repeat' (first | exact trivial | exact rfl | refine And.intro ?_ ?_)) <;> (try (conv => whnf)) <;> (try simp only [SV.real, SV.r2, SV.r1])), by ((repeat' (first | exact trivial | exact rfl | refine And.intro ?_ ?_)) <;> (try (conv => whnf)) <;> (try simp only [SV.real, SV.r2, SV.r1])), rfl⟩))
  rintro ⟨g8, g9⟩ -
  dsimp only
  repeat' ((conv => whnf); first | refine walk (Try.ok ..) ?_ | (refine Cnd.mk (fun h => ?_) (fun h => ?_) <;> (first | exact cndT h (by (try dsimp only); omega) | exact cndF h (by (try dsimp only); omega) | (exfalso; simp at h; omega) | simp at h | skip)) | refine kp ?_ ?_ | refine tw ?_ ?_ | exact trivial | refine side2 ?_ | refine sideL2 ?_ | refine Or.inr ?_ | refine xi _ (And.intro rfl rfl) ?_ | refine xi _ (fun _ => And.intro rfl rfl) ?_ | refine xi _ rfl ?_)
  (conv => whnf)
  refine sat_draw (Try.ok ..) [] [(3, .blk g3 26 (frC x)), (8, .blk g8 31 (rwC a)), (9, .blk g9 31 (rwC r))] (by kernel_rfl) (fun w hw => hw.sub ?_) ?_
  · ((repeat' (first | exact trivial | exact rfl | refine And.intro ?_ ?_)) <;> (try (conv => whnf)) <;> (try simp only [SV.real, SV.r2, SV.r1]))
  repeat' ((conv => whnf); first | refine walk (Try.ok ..) ?_ | (refine Cnd.mk (fun h => ?_) (fun h => ?_) <;> (first | exact cndT h (by (try dsimp only); omega) | exact cndF h (by (try dsimp only); omega) | (exfalso; simp at h; omega) | simp at h | skip)) | refine kp ?_ ?_ | refine tw ?_ ?_ | exact trivial | refine side2 ?_ | refine sideL2 ?_ | refine Or.inr ?_ | refine sat_drawH (Try.ok ..) (by kernel_rfl) ?_ | refine xi _ (And.intro rfl rfl) ?_ | refine xi _ (fun _ => And.intro rfl rfl) ?_ | refine xi _ rfl ?_ | intro g hg | ((refine called_newblk2 401 402 (c1 := [.v (opV 51)]) (c2 := [.v (.int .i64 (a.d))]) (fun g1 g2 => .v (byV g1 g2)) (fun w' _ => by exact by_any 51 (a.d) w') ?_; intro gs1 gs2)) | ((refine called_newblk2 403 404 (c1 := [.v (opV 52)]) (c2 := [.v (.int .i64 (r.k - a.k))]) (fun g1 g2 => .v (byV g1 g2)) (fun w' _ => by exact by_any 52 (r.k - a.k) w') ?_; intro gm1 gm2)) | ((refine called_newblk2 405 406 (c1 := [.v (opV 19)]) (c2 := [.v (.int .i64 (r.d - a.d))]) (fun g1 g2 => .v (byV g1 g2)) (fun w' _ => by exact by_any 19 (r.d - a.d) w') ?_; intro gd1 gd2)) | ((refine called_newblk2 407 408 (c1 := [.v (opV 14)]) (c2 := [.v (.int .i64 (a.k))]) (fun g1 g2 => .v (byV g1 g2)) (fun w' _ => by exact by_any 14 (a.k) w') ?_; intro ga1 ga2)))
  repeat' ((conv => whnf); first | refine walk (Try.ok ..) ?_ | (refine Cnd.mk (fun h => ?_) (fun h => ?_) <;> (first | exact cndT h (by (try dsimp only); omega) | exact cndF h (by (try dsimp only); omega) | (exfalso; simp at h; omega) | simp at h | skip)) | refine kp ?_ ?_ | refine tw ?_ ?_ | exact trivial | refine side2 ?_ | refine sideL2 ?_ | refine Or.inr ?_ | refine sat_drawH (Try.ok ..) (by kernel_rfl) ?_ | refine xi _ (And.intro rfl rfl) ?_ | refine xi _ (fun _ => And.intro rfl rfl) ?_ | refine xi _ rfl ?_)
  (conv => whnf)
  refine called_at (.t [.a (frC v.1), .v (.int .i64 v.2)]) rfl (fun w' hh => by
    rw [tk1]
    exact hL (gs1, gs2) (gm1, gm2) (gd1, gd2) (ga1, ga2) g w' (ro_of_blk hh (id := 86) rfl 0 4 1 (Nat.le_refl _)) (ro_of_blk hh (id := 401) rfl 0 1 1 (Nat.le_refl _)) (ro_of_blk hh (id := 402) rfl 0 1 1 (Nat.le_refl _)) (ro_of_blk hh (id := 403) rfl 0 1 1 (Nat.le_refl _)) (ro_of_blk hh (id := 404) rfl 0 1 1 (Nat.le_refl _)) (ro_of_blk hh (id := 405) rfl 0 1 1 (Nat.le_refl _)) (ro_of_blk hh (id := 406) rfl 0 1 1 (Nat.le_refl _)) (ro_of_blk hh (id := 407) rfl 0 1 1 (Nat.le_refl _)) (ro_of_blk hh (id := 408) rfl 0 1 1 (Nat.le_refl _))) ?_
  repeat' ((conv => whnf); first | refine walk (Try.ok ..) ?_ | (refine Cnd.mk (fun h => ?_) (fun h => ?_) <;> (first | exact cndT h (by (try dsimp only); omega) | exact cndF h (by (try dsimp only); omega) | (exfalso; simp at h; omega) | simp at h | skip)) | refine kp ?_ ?_ | refine tw ?_ ?_ | exact trivial | refine side2 ?_ | refine sideL2 ?_ | refine Or.inr ?_ | refine sat_drawH (Try.ok ..) (by kernel_rfl) ?_ | refine xi _ (And.intro rfl rfl) ?_ | refine xi _ (fun _ => And.intro rfl rfl) ?_ | refine xi _ rfl ?_)
  exact done_pure rfl rfl (congrArg (fun l => (SV.t [.a l, .v (.int .i64 v.2)]).real) (tk1 v.1))
end Go.Proofs.Ytomhfakkebaciaa
