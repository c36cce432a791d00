/-
  The walks of the reference for hydrostatic tables: the weight at a draught.
-/
import Derived.Test.YtomhfakkebaciaaH8
set_option linter.unusedSimpArgs false
set_option linter.unusedVariables false
namespace Go.Proofs.Ytomhfakkebaciaa
open Go Sat Go.RowKit Go.PlainAid
theorem deep_at {l : List HRow} {x : Fr} {i : Nat} {r : HRow} (hr : l[i]? = some r) (h0 : 0 ≤ deepC x r) (hno : ∀ (j : Nat) (c : HRow), j < i → l[j]? = some c → deepC x c < 0) : deepI l x = i := by
  have hi := (List.getElem?_eq_some_iff.1 hr).1
  unfold deepI
  rcases Nat.lt_trichotomy (l.findIdx fun r => decide (0 ≤ deepC x r)) i with h | h | h
  · have h1 : (l.findIdx fun r => decide (0 ≤ deepC x r)) < l.length := by omega
    have h2 := List.findIdx_getElem (p := fun r => decide (0 ≤ deepC x r)) (xs := l) (w := h1)
    have h3 := hno _ _ h (List.getElem?_eq_getElem h1)
    have h4 := of_decide_eq_true h2
    omega
  · exact h
  · have h2 := List.not_of_lt_findIdx h
    rw [List.getElem?_eq_getElem hi] at hr
    cases hr
    simp at h2
    omega
theorem deep_none {l : List HRow} {x : Fr} (hno : ∀ (j : Nat) (c : HRow), l[j]? = some c → deepC x c < 0) : l[deepI l x]? = none := by
  refine List.getElem?_eq_none ?_
  unfold deepI
  refine Nat.le_of_not_lt fun h1 => ?_
  have h2 := List.findIdx_getElem (p := fun r => decide (0 ≤ deepC x r)) (xs := l) (w := h1)
  have h3 := hno _ _ (List.getElem?_eq_getElem h1)
  have h4 := of_decide_eq_true h2
  omega
theorem weight_no {l : List HRow} {x : Fr} (h : (rightH l && rightF x) = false) : weightH l x = (zeroF, 2) := by
  unfold weightH
  rw [if_neg]
  intro ⟨h1, h2⟩
  rw [h1, h2] at h
  cases h
theorem weight_none {l : List HRow} {x : Fr} (hr : rightH l = true) (hx : rightF x = true) (hno : ∀ (j : Nat) (c : HRow), l[j]? = some c → deepC x c < 0) : weightH l x = (zeroF, 6) := by
  unfold weightH
  rw [if_pos ⟨hr, hx⟩, deep_none hno]
theorem weight_at {l : List HRow} {x : Fr} (hr : rightH l = true) (hx : rightF x = true) {i : Nat} {r : HRow} (hi : l[i]? = some r) (h0 : deepC x r = 0) (hno : ∀ (j : Nat) (c : HRow), j < i → l[j]? = some c → deepC x c < 0) : weightH l x = (ofF r.k, 0) := by
  unfold weightH
  rw [if_pos ⟨hr, hx⟩, deep_at hi (by omega) hno, hi]
  dsimp only
  rw [if_pos h0]
theorem weight_zero {l : List HRow} {x : Fr} (hr : rightH l = true) (hx : rightF x = true) {r : HRow} (hi : l[0]? = some r) (h0 : 0 < deepC x r) : weightH l x = (zeroF, 6) := by
  unfold weightH
  rw [if_pos ⟨hr, hx⟩, deep_at (i := 0) hi (by omega) (fun j c h => absurd h (Nat.not_lt_zero _)), hi]
  dsimp only
  rw [if_neg (by omega), if_pos rfl]
theorem weight_line {l : List HRow} {x : Fr} (hr : rightH l = true) (hx : rightF x = true) {i : Nat} {a r : HRow} (hi : l[i]? = some r) (ha : l[i - 1]? = some a) (hp : 0 < i) (h0 : 0 < deepC x r) (hno : ∀ (j : Nat) (c : HRow), j < i → l[j]? = some c → deepC x c < 0) :
    weightH l x = lineE a.k r.k x a.d r.d := by
  unfold weightH
  rw [if_pos ⟨hr, hx⟩, deep_at hi (by omega) hno, hi]
  dsimp only
  rw [if_neg (by omega), if_neg (by omega), ha]
set_option maxRecDepth 100000 in
set_option maxHeartbeats 16000000 in
theorem rWeight_any (l : List HRow) (x : Fr) (A : Option (Nat × Nat)) (cap : Nat) (w : World) (hA : Ro w A l.length 5 (rwL l)) (hl : l.length ≤ 9223372036854775807) (hx : Big x) :
    Calls Try.prog 27 #[.slice (adr A) l.length cap, frV x] w fun e w' => e = .returned (.tuple #[frV (weightH l x).1, .int .i64 (weightH l x).2]) ∧ Below w.heap.size w w' := by
  have lx := frC_len x
  have lz := frC_len zeroF
  refine calls_sat (cx := Try.cx 78 [10] [] [] w) (Try.ok ..) Try.func27 rfl [.o 300 A l.length cap, .a (frC x)] rfl (by show 2 ≤ 78; omega) [(300, .ro A l.length 5 (rwL l))] (holds_ros rfl rfl ⟨hA, trivial⟩) ?_
  repeat' ((conv => whnf); first | refine walk (Try.ok ..) ?_ | (refine Cnd.mk (fun h => ?_) (fun h => ?_) <;> (first | exact cndT h (by (try dsimp only); omega) | exact cndF h (by (try dsimp only); omega) | (exfalso; simp at h; omega) | simp at h | skip)) | refine kp ?_ ?_ | refine tw ?_ ?_ | exact trivial | refine side2 ?_ | refine sideL2 ?_ | refine Or.inr ?_ | refine sat_drawH (Try.ok ..) (by kernel_rfl) ?_ | refine xi _ (And.intro rfl rfl) ?_ | refine xi _ (fun _ => And.intro rfl rfl) ?_ | refine xi _ rfl ?_)
  (conv => whnf)
  intro g3 hg3
  repeat' ((conv => whnf); first | refine walk (Try.ok ..) ?_ | (refine Cnd.mk (fun h => ?_) (fun h => ?_) <;> (first | exact cndT h (by (try dsimp only); omega) | exact cndF h (by (try dsimp only); omega) | (exfalso; simp at h; omega) | simp at h | skip)) | refine kp ?_ ?_ | refine tw ?_ ?_ | exact trivial | refine side2 ?_ | refine sideL2 ?_ | refine Or.inr ?_ | refine sat_drawH (Try.ok ..) (by kernel_rfl) ?_ | refine xi _ (And.intro rfl rfl) ?_ | refine xi _ (fun _ => And.intro rfl rfl) ?_ | refine xi _ rfl ?_)
  (conv => whnf)
  intro g4 hg4
  repeat' ((conv => whnf); first | refine walk (Try.ok ..) ?_ | (refine Cnd.mk (fun h => ?_) (fun h => ?_) <;> (first | exact cndT h (by (try dsimp only); omega) | exact cndF h (by (try dsimp only); omega) | (exfalso; simp at h; omega) | simp at h | skip)) | refine kp ?_ ?_ | refine tw ?_ ?_ | exact trivial | refine side2 ?_ | refine sideL2 ?_ | refine Or.inr ?_ | refine sat_drawH (Try.ok ..) (by kernel_rfl) ?_ | refine xi _ (And.intro rfl rfl) ?_ | refine xi _ (fun _ => And.intro rfl rfl) ?_ | refine xi _ rfl ?_)
  refine called_at (.v (.bool (rightH l))) rfl (fun w' hh => by exact rRight_any l A cap w' (ro_of_ro hh (id := 300) rfl) hl) ?_
  repeat' ((conv => whnf); first | refine walk (Try.ok ..) ?_ | (refine Cnd.mk (fun h => ?_) (fun h => ?_) <;> (first | exact cndT h (by (try dsimp only); omega) | exact cndF h (by (try dsimp only); omega) | (exfalso; simp at h; omega) | simp at h | skip)) | refine kp ?_ ?_ | refine tw ?_ ?_ | exact trivial | refine side2 ?_ | refine sideL2 ?_ | refine Or.inr ?_ | refine sat_drawH (Try.ok ..) (by kernel_rfl) ?_ | refine xi _ (And.intro rfl rfl) ?_ | refine xi _ (fun _ => And.intro rfl rfl) ?_ | refine xi _ rfl ?_)
  refine calledQ_pure (.v (.bool (rightF x))) rfl (fun _ w' => by rw [tk1]; exact rright_any x w' hx) ?_
  repeat' ((conv => whnf); first | refine walk (Try.ok ..) ?_ | (refine Cnd.mk (fun h => ?_) (fun h => ?_) <;> (first | exact cndT h (by (try dsimp only); omega) | exact cndF h (by (try dsimp only); omega) | (exfalso; simp at h; omega) | simp at h | skip)) | refine kp ?_ ?_ | refine tw ?_ ?_ | exact trivial | refine side2 ?_ | refine sideL2 ?_ | refine Or.inr ?_ | refine sat_drawH (Try.ok ..) (by kernel_rfl) ?_ | refine xi _ (And.intro rfl rfl) ?_ | refine xi _ (fun _ => And.intro rfl rfl) ?_ | refine xi _ rfl ?_)
  case refine_1 =>
    have hn : (rightH l && rightF x) = false := by
      cases h1 : rightH l <;> cases h2 : rightF x <;> first | rfl | (rw [h1, h2] at h; simp at h)
    rw [weight_no hn]
    exact done_pure rfl rfl (congrArg (fun l => (SV.t [.a l, .v (.int .i64 2)]).real) (show _ = frC zeroF from rfl))
  have hr : rightH l = true := by cases h1 : rightH l <;> first | rfl | (rw [h1] at h; simp at h)
  have hrx : rightF x = true := by cases h1 : rightF x <;> first | rfl | (rw [h1] at h; simp at h)
  have h2 := (right_is hr).two
  have h100 := (right_is hr).most
  have h100' : l.length ≤ 100 := h100
  clear h
  refine sat_loop (Try.ok ..) (α := Nat) (fun j => ([(0, .yes, .o 300 A l.length cap), (3, .yes, .p 3 g3 0 0), (4, .yes, .p 4 g4 0 0), (5, .yes, .v (.int .i64 0)), (6, .yes, .v (.int .i64 (j : Nat)))], [(3, .blk g3 62 (frC x)), (4, .blk g4 62 (frC zeroF)), (300, .ro A l.length 5 (rwL l))]))
    (fun j => j ≤ l.length ∧ ∀ (i : Nat) (c : HRow), i < j → l[i]? = some c → deepC x c < 0) (fun j => l.length - j) (fun _ => rfl) ?_ ?_
  · refine ⟨0, ⟨by omega, fun i c hi => absurd hi (Nat.not_lt_zero _)⟩, ?_, ?_, rfl⟩
    all_goals ((repeat' (first | exact trivial | exact rfl | refine And.intro ?_ ?_)) <;> (try (conv => whnf)) <;> (try simp only [SV.real, SV.r2, SV.r1]))
  rintro j ⟨hj, hno⟩
  by_cases hj1 : j < l.length
  case neg =>
    rw [weight_none hr hrx (fun i c hc => hno i c (by have := (List.getElem?_eq_some_iff.1 hc).1; omega) hc)]
    repeat' ((conv => whnf); first | refine walk (Try.ok ..) ?_ | (refine Cnd.mk (fun h => ?_) (fun h => ?_) <;> (first | exact cndT h (by (try dsimp only); omega) | exact cndF h (by (try dsimp only); omega) | (exfalso; simp at h; omega) | simp at h | skip)) | refine kp ?_ ?_ | refine tw ?_ ?_ | exact trivial | refine side2 ?_ | refine sideL2 ?_ | refine Or.inr ?_ | refine sat_drawH (Try.ok ..) (by kernel_rfl) ?_ | refine xi _ (And.intro rfl rfl) ?_ | refine xi _ (fun _ => And.intro rfl rfl) ?_ | refine xi _ rfl ?_)
    exact done_pure rfl rfl (congrArg (fun l => (SV.t [.a l, .v (.int .i64 6)]).real) (show _ = frC zeroF from rfl))
  obtain ⟨r, hrj⟩ : ∃ a, l[j]? = some a := ⟨_, List.getElem?_eq_getElem hj1⟩
  have hrd : (rwL l)[mulS ((j : Int)).toNat 5 + 0]? = some (.int .i64 r.d) := (rw_cells hrj rfl).2 0 (by omega)
  have hrk : (rwL l)[mulS ((j : Int)).toNat 5 + 1]? = some (.int .i64 r.k) := (rw_cells hrj rfl).2 1 (by omega)
  obtain ⟨⟨_, _⟩, ⟨_, _⟩, _, _, _⟩ := ok_row ((right_is hr).row _ r hrj)
  have ld := frC_len (ofF r.d)
  have lk := frC_len (ofF r.k)
  have hC := fun w => rCmp_any x (ofF r.d) w hx (ofF_big _)
  have hcm := cmp_anti x r
  obtain ⟨n, hn⟩ : ∃ n, n = cmpE x (ofF r.d) := ⟨_, rfl⟩
  rw [← hn] at hC hcm
  repeat' ((conv => whnf); first | refine walk (Try.ok ..) ?_ | (refine Cnd.mk (fun h => ?_) (fun h => ?_) <;> (first | exact cndT h (by (try dsimp only); omega) | exact cndF h (by (try dsimp only); omega) | (exfalso; simp at h; omega) | simp at h | skip)) | refine kp ?_ ?_ | refine tw ?_ ?_ | exact trivial | refine side2 ?_ | refine sideL2 ?_ | refine Or.inr ?_ | refine sat_drawH (Try.ok ..) (by kernel_rfl) ?_ | refine xi _ (And.intro rfl rfl) ?_ | refine xi _ (fun _ => And.intro rfl rfl) ?_ | refine xi _ rfl ?_ | refine xi _ (fun _ => hrd) ?_ | refine xi _ hrd ?_)
  refine calledQ_pure (.a (frC (ofF r.d))) rfl (fun _ w' => by exact rof2 _ w' (by refine ⟨?_, ?_⟩ <;> omega)) ?_
  repeat' ((conv => whnf); first | refine walk (Try.ok ..) ?_ | (refine Cnd.mk (fun h => ?_) (fun h => ?_) <;> (first | exact cndT h (by (try dsimp only); omega) | exact cndF h (by (try dsimp only); omega) | (exfalso; simp at h; omega) | simp at h | skip)) | refine kp ?_ ?_ | refine tw ?_ ?_ | exact trivial | refine side2 ?_ | refine sideL2 ?_ | refine Or.inr ?_ | refine sat_drawH (Try.ok ..) (by kernel_rfl) ?_ | refine xi _ (And.intro rfl rfl) ?_ | refine xi _ (fun _ => And.intro rfl rfl) ?_ | refine xi _ rfl ?_)
  refine calledQ_pure (.t [.v (.int .i64 n.1), .v (.int .i64 n.2)]) rfl (fun _ w' => by rw [tk1]; exact hC w') ?_
  by_cases h0 : n.1 = 0
  · rw [weight_at hr hrx hrj (by omega) hno]
    repeat' ((conv => whnf); first | refine walk (Try.ok ..) ?_ | (refine Cnd.mk (fun h => ?_) (fun h => ?_) <;> (first | exact cndT h (by (try dsimp only); omega) | exact cndF h (by (try dsimp only); omega) | (exfalso; simp at h; omega) | simp at h | skip)) | refine kp ?_ ?_ | refine tw ?_ ?_ | exact trivial | refine side2 ?_ | refine sideL2 ?_ | refine Or.inr ?_ | refine sat_drawH (Try.ok ..) (by kernel_rfl) ?_ | refine xi _ (And.intro rfl rfl) ?_ | refine xi _ (fun _ => And.intro rfl rfl) ?_ | refine xi _ rfl ?_ | refine xi _ (fun _ => hrk) ?_ | refine xi _ hrk ?_)
    refine called_pure (.a (frC (ofF r.k))) rfl (fun w' => by exact rof2 _ w' (by refine ⟨?_, ?_⟩ <;> omega)) ?_
    repeat' ((conv => whnf); first | refine walk (Try.ok ..) ?_ | (refine Cnd.mk (fun h => ?_) (fun h => ?_) <;> (first | exact cndT h (by (try dsimp only); omega) | exact cndF h (by (try dsimp only); omega) | (exfalso; simp at h; omega) | simp at h | skip)) | refine kp ?_ ?_ | refine tw ?_ ?_ | exact trivial | refine side2 ?_ | refine sideL2 ?_ | refine Or.inr ?_ | refine sat_drawH (Try.ok ..) (by kernel_rfl) ?_ | refine xi _ (And.intro rfl rfl) ?_ | refine xi _ (fun _ => And.intro rfl rfl) ?_ | refine xi _ rfl ?_)
    exact done_pure rfl rfl (congrArg (fun l => (SV.t [.a l, .v (.int .i64 0)]).real) (tk1 (ofF r.k)))
  by_cases hlt : n.1 < 0
  case neg =>
    repeat' ((conv => whnf); first | refine walk (Try.ok ..) ?_ | (refine Cnd.mk (fun h => ?_) (fun h => ?_) <;> (first | exact cndT h (by (try dsimp only); omega) | exact cndF h (by (try dsimp only); omega) | (exfalso; simp at h; omega) | simp at h | skip)) | refine kp ?_ ?_ | refine tw ?_ ?_ | exact trivial | refine side2 ?_ | refine sideL2 ?_ | refine Or.inr ?_ | refine sat_drawH (Try.ok ..) (by kernel_rfl) ?_ | refine xi _ (And.intro rfl rfl) ?_ | refine xi _ (fun _ => And.intro rfl rfl) ?_ | refine xi _ rfl ?_)
    refine ⟨j + 1, ⟨⟨by omega, fun i c hi hc => ?_⟩, by omega⟩, ?_, ?_, rfl⟩
    · rcases Nat.lt_or_eq_of_le (Nat.le_of_lt_succ hi) with h3 | h3
      · exact hno i c h3 hc
      · subst h3
        rw [hrj] at hc
        cases hc
        omega
    all_goals ((repeat' (first | exact trivial | exact rfl | refine And.intro ?_ ?_)) <;> (try (conv => whnf)) <;> (try simp only [SV.real, SV.r2, SV.r1]))
  by_cases hj0 : j = 0
  · subst hj0
    rw [weight_zero hr hrx hrj (by omega)]
    repeat' ((conv => whnf); first | refine walk (Try.ok ..) ?_ | (refine Cnd.mk (fun h => ?_) (fun h => ?_) <;> (first | exact cndT h (by (try dsimp only); omega) | exact cndF h (by (try dsimp only); omega) | (exfalso; simp at h; omega) | simp at h | skip)) | refine kp ?_ ?_ | refine tw ?_ ?_ | exact trivial | refine side2 ?_ | refine sideL2 ?_ | refine Or.inr ?_ | refine sat_drawH (Try.ok ..) (by kernel_rfl) ?_ | refine xi _ (And.intro rfl rfl) ?_ | refine xi _ (fun _ => And.intro rfl rfl) ?_ | refine xi _ rfl ?_)
    exact done_pure rfl rfl (congrArg (fun l => (SV.t [.a l, .v (.int .i64 6)]).real) (show _ = frC zeroF from rfl))
  obtain ⟨a, ha⟩ : ∃ a, l[j - 1]? = some a := ⟨_, List.getElem?_eq_getElem (by omega)⟩
  have had : (rwL l)[mulS ((j : Int) - 1).toNat 5 + 0]? = some (.int .i64 a.d) := (rw_cells ha (by omega)).2 0 (by omega)
  have hak : (rwL l)[mulS ((j : Int) - 1).toNat 5 + 1]? = some (.int .i64 a.k) := (rw_cells ha (by omega)).2 1 (by omega)
  obtain ⟨⟨_, _⟩, ⟨_, _⟩, _, _, _⟩ := ok_row ((right_is hr).row _ a ha)
  rw [weight_line hr hrx hrj ha (by omega) (by omega) hno]
  have hL := fun w => rline_any a.k r.k a.d r.d x w hx (by refine ⟨?_, ?_⟩ <;> omega) (by refine ⟨?_, ?_⟩ <;> omega) (by refine ⟨?_, ?_⟩ <;> omega) (by refine ⟨?_, ?_⟩ <;> omega) (by refine ⟨?_, ?_⟩ <;> omega) (by refine ⟨?_, ?_⟩ <;> omega)
  obtain ⟨v, hv⟩ : ∃ v, v = lineE a.k r.k x a.d r.d := ⟨_, rfl⟩
  rw [← hv] at hL ⊢
  have lv := frC_len v.1
  repeat' ((conv => whnf); first | refine walk (Try.ok ..) ?_ | (refine Cnd.mk (fun h => ?_) (fun h => ?_) <;> (first | exact cndT h (by (try dsimp only); omega) | exact cndF h (by (try dsimp only); omega) | (exfalso; simp at h; omega) | simp at h | skip)) | refine kp ?_ ?_ | refine tw ?_ ?_ | exact trivial | refine side2 ?_ | refine sideL2 ?_ | refine Or.inr ?_ | refine xi _ (And.intro rfl rfl) ?_ | refine xi _ (fun _ => And.intro rfl rfl) ?_ | refine xi _ rfl ?_)
  (conv => whnf)
  refine sat_draw (Try.ok ..) [] [(3, .blk g3 62 (frC x)), (300, .ro A l.length 5 (rwL l))] (by kernel_rfl) (fun w hw => hw.sub ?_) ?_
  · ((repeat' (first | exact trivial | exact rfl | refine And.intro ?_ ?_)) <;> (try (conv => whnf)) <;> (try simp only [SV.real, SV.r2, SV.r1]))
  repeat' ((conv => whnf); first | refine walk (Try.ok ..) ?_ | (refine Cnd.mk (fun h => ?_) (fun h => ?_) <;> (first | exact cndT h (by (try dsimp only); omega) | exact cndF h (by (try dsimp only); omega) | (exfalso; simp at h; omega) | simp at h | skip)) | refine kp ?_ ?_ | refine tw ?_ ?_ | exact trivial | refine side2 ?_ | refine sideL2 ?_ | refine Or.inr ?_ | refine sat_drawH (Try.ok ..) (by kernel_rfl) ?_ | refine xi _ (And.intro rfl rfl) ?_ | refine xi _ (fun _ => And.intro rfl rfl) ?_ | refine xi _ rfl ?_ | refine xi _ (fun _ => had) ?_ | refine xi _ had ?_ | refine xi _ (fun _ => hak) ?_ | refine xi _ hak ?_ | refine xi _ (fun _ => hrd) ?_ | refine xi _ hrd ?_ | refine xi _ (fun _ => hrk) ?_ | refine xi _ hrk ?_)
  refine called_pure (.t [.a (frC v.1), .v (.int .i64 v.2)]) rfl (fun w' => by rw [tk1]; exact hL w') ?_
  repeat' ((conv => whnf); first | refine walk (Try.ok ..) ?_ | (refine Cnd.mk (fun h => ?_) (fun h => ?_) <;> (first | exact cndT h (by (try dsimp only); omega) | exact cndF h (by (try dsimp only); omega) | (exfalso; simp at h; omega) | simp at h | skip)) | refine kp ?_ ?_ | refine tw ?_ ?_ | exact trivial | refine side2 ?_ | refine sideL2 ?_ | refine Or.inr ?_ | refine sat_drawH (Try.ok ..) (by kernel_rfl) ?_ | refine xi _ (And.intro rfl rfl) ?_ | refine xi _ (fun _ => And.intro rfl rfl) ?_ | refine xi _ rfl ?_)
  exact done_pure rfl rfl (congrArg (fun l => (SV.t [.a l, .v (.int .i64 v.2)]).real) (tk1 v.1))
end Go.Proofs.Ytomhfakkebaciaa
