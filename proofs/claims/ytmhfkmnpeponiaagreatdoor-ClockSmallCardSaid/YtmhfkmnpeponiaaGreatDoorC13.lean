/-
  The walks of the clock package: the windows of a tide.
-/
import Derived.Test.YtmhfkmnpeponiaaGreatDoorC12
import Derived.Test.YtmhfkmnpeponiaaGreatDoorC9
import Derived.Test.YtmhfkmnpeponiaaGreatDoorCQ
namespace Go.Proofs.YtmhfkmnpeponiaaGreatDoor
open Go Sat Go.RowKit Go.PlainAid
set_option linter.unusedSimpArgs false
set_option linter.unusedVariables false
theorem toldAt_past {p : Int → Bool} {x to a : Int} (hxt : x ≤ to) (h : to ≤ a) : toldAt p x to a = toldAt p x to to := by
  unfold toldAt clip
  rw [show min (max a x) to = to by omega, show min (max to x) to = to by omega]
theorem toldAt_len (p : Int → Bool) {x to a : Int} (hxt : x ≤ to) : (toldAt p x to a).length ≤ (toldAt p x to to).length := by
  unfold toldAt clip
  obtain ⟨d, hd⟩ : ∃ d, (min (max to x) to - x).toNat = (min (max a x) to - x).toNat + d := ⟨(min (max to x) to - x).toNat - (min (max a x) to - x).toNat, by omega⟩
  rw [hd]
  exact runs_len _ _ _ d
theorem addT_grow (l : List Sp) (x : Int) : (addT l x).length ≤ l.length + 1 := by
  unfold addT
  cases hl : l.getLast? with
  | none => simp
  | some s =>
    dsimp only
    split
    · rw [List.length_append, List.length_dropLast]; simp only [List.length_cons, List.length_nil]; omega
    · simp
theorem runs_grow (p : Int → Bool) (x : Int) : ∀ n, (runs p x n).length ≤ n := by
  intro n
  induction n with
  | zero => simp [runs]
  | succ n ih =>
    rw [runs]
    split
    · have := addT_grow (runs p x n) (x + n)
      omega
    · omega
theorem addS_grow (l : List Sp) (a b : Int) : (addS l a b).length ≤ l.length + 1 := by
  unfold addS
  split
  · cases hl : l.getLast? with
    | none => simp
    | some s =>
      dsimp only
      split
      · rw [List.length_append, List.length_dropLast]; simp only [List.length_cons, List.length_nil]; omega
      · simp
  · omega
/-- the number of the first high water that the program looks at -/
theorem first_num {t : Td} (h : Tidy t) {x f : Int} (hx : 0 ≤ x) (hx2 : x ≤ 100000000) (hf : f = max (((x - t.first - t.after) * t.den).tdiv t.num - 1) 0) : (0 ≤ f ∧ f ≤ 100000000) ∧ ∀ j : Nat, (j : Int) < f → hiw t j + t.after ≤ x := by
  have hn := h.num
  have hd := h.den
  have hs := h.some
  have hg := h.gap
  have h0 := h.first
  have ha := h.after
  rcases Int.lt_or_le (x - t.first - t.after) 0 with h1 | h1
  · have h2 : ((x - t.first - t.after) * t.den).tdiv t.num ≤ 0 := by
      have e : (x - t.first - t.after) * t.den = -((t.first + t.after - x) * t.den) := by rw [← Int.neg_mul]; congr 1; omega
      rw [e, Int.neg_tdiv]
      have := Int.tdiv_nonneg (a := (t.first + t.after - x) * t.den) (b := t.num) (Int.mul_nonneg (by omega) (by omega)) (by omega)
      omega
    have e : f = 0 := by omega
    subst e
    exact ⟨by omega, fun j hj => absurd hj (by omega)⟩
  · have h2 : 0 ≤ (x - t.first - t.after) * t.den := Int.mul_nonneg h1 (by omega)
    rw [Int.tdiv_eq_ediv_of_nonneg h2] at hf
    have h3 : t.den ≤ t.num := by
      have h5 : 1 ≤ t.num / t.den := by omega
      rw [Int.le_ediv_iff_mul_le (by omega)] at h5
      omega
    have h4 : (x - t.first - t.after) * t.den / t.num ≤ x - t.first - t.after := by
      refine Int.ediv_le_of_le_mul (by omega) ?_
      exact Int.mul_le_mul_of_nonneg_left h3 h1
    refine ⟨by omega, fun j hj => win_first h (by rw [← hf]; exact hj)⟩
theorem tdiv_bd {x n : Int} (h : -200000000000 ≤ x ∧ x ≤ 100000000000) (hn : 1 ≤ n) : -200000000000 ≤ x.tdiv n ∧ x.tdiv n ≤ 100000000000 := by
  rcases Int.lt_or_le x 0 with h1 | h1
  · have e : x.tdiv n = -((-x).tdiv n) := by rw [Int.neg_tdiv]; omega
    rw [e, Int.tdiv_eq_ediv_of_nonneg (by omega)]
    have h2 := Int.ediv_nonneg (a := -x) (b := n) (by omega) (by omega)
    have h3 := Int.ediv_le_self (a := -x) n (by omega)
    omega
  · rw [Int.tdiv_eq_ediv_of_nonneg h1]
    have h2 := Int.ediv_nonneg (a := x) (b := n) h1 (by omega)
    have h3 := Int.ediv_le_self (a := x) n h1
    omega
def wnOk (t : Td) (a b : Int) : Bool := tidalB t && orderedB a b
noncomputable def wnR (t : Td) (a b : Int) : List Sp := toldAt (winP t) a b b
noncomputable def wnL (t : Td) (a b : Int) : List Sp := if wnOk t a b ∧ (wnR t a b).length ≤ 1000 then wnR t a b else []
noncomputable def wnE (t : Td) (a b : Int) : Int := if wnOk t a b then (if (wnR t a b).length ≤ 1000 then 0 else 5) else 2
theorem wn_no {t : Td} {a b : Int} (h : wnOk t a b = false) : wnL t a b = [] ∧ wnE t a b = 2 := by unfold wnL wnE; rw [h]; exact ⟨rfl, rfl⟩
theorem wn_yes {t : Td} {a b : Int} (h : wnOk t a b = true) (h2 : (wnR t a b).length ≤ 1000) : wnL t a b = wnR t a b ∧ wnE t a b = 0 := by unfold wnL wnE; rw [h, if_pos ⟨rfl, h2⟩, if_pos h2]; exact ⟨rfl, rfl⟩
theorem wn_many {t : Td} {a b : Int} (h : wnOk t a b = true) (h2 : ¬ (wnR t a b).length ≤ 1000) : wnL t a b = [] ∧ wnE t a b = 5 := by unfold wnL wnE; rw [h, if_neg (fun hc => h2 hc.2), if_neg h2]; exact ⟨rfl, rfl⟩
theorem ord_of {a b : Int} (h : orderedB a b = true) : (0 ≤ a ∧ a ≤ 100000000) ∧ (0 ≤ b ∧ b ≤ 100000000) ∧ a ≤ b := by
  unfold orderedB at h
  simp only [Bool.and_eq_true, decide_eq_true_eq, timed_iff2] at h
  exact ⟨h.1.1, h.1.2, h.2⟩
/-- how far the windows are told when the k-th high water is looked at -/
structure WinK (t : Td) (x to : Int) (k : Nat) (pos : Int) : Prop where
  le : pos ≤ hiw t k - t.before
  no : ∀ y, pos ≤ y → y < hiw t k - t.before → x ≤ y → winP t y = false
theorem winK_first {t : Td} (h : Tidy t) {x to : Int} {k : Nat} (hk : ∀ j : Nat, (j : Int) < k → hiw t j + t.after ≤ x) : WinK t x to k (min x (hiw t k - t.before)) ∧ toldAt (winP t) x to (min x (hiw t k - t.before)) = toldAt (winP t) x to x :=
  ⟨⟨by omega, fun y h1 h2 h3 => winP_out h (k := k) h2 (fun j hj => by have := hk j (by omega); omega)⟩, by
    unfold toldAt clip
    rw [show max (min x (hiw t k - t.before)) x = x by omega, show max x x = x by omega]⟩
theorem winK_next {t : Td} (h : Tidy t) {x to pos : Int} {k : Nat} (hxt : x ≤ to) (hI : WinK t x to k pos) :
    WinK t x to (k + 1) (hiw t k + t.after) ∧ toldAt (winP t) x to (hiw t k + t.after) = addS (toldAt (winP t) x to pos) (max (hiw t k - t.before) x) (min (hiw t k + t.after) to) := by
  have hb := h.before
  have ha := h.after
  refine ⟨⟨?_, fun y h1 h2 _ => winP_out h (k := k + 1) h2 (fun j hj => ?_)⟩, ?_⟩
  · have := hiw_ahead h (show k < k + 1 by omega)
    omega
  · have := hiw_le h (show (j : Int) ≤ (k : Int) by omega)
    omega
  · exact toldAt_step hxt hI.le (by omega) (fun y h1 h2 h3 _ => hI.no y h1 h2 h3) (fun y h1 h2 _ _ => winP_in (k := k) (by omega) h2)
theorem winK_end {t : Td} {x to pos : Int} {k : Nat} (hxt : x ≤ to) (hI : WinK t x to k pos) (hk : to ≤ hiw t k - t.before) : toldAt (winP t) x to pos = toldAt (winP t) x to to := by
  rw [← toldAt_past hxt hk]
  exact (toldAt_no hxt hI.le (fun y h1 h2 h3 _ => hI.no y h1 h2 h3)).symm
set_option maxRecDepth 100000 in
set_option maxHeartbeats 8000000 in
theorem windows_any (t : Td) (a b : Int) (w : World) : Calls Tryz.prog 40 #[tdV t, .int .i64 a, .int .i64 b] w fun e w' => ∃ v, e = .returned (.tuple #[v, .int .i64 (wnE t a b)]) ∧ w'.ownsRow w.heap.size 25 2 v (wnL t a b).length (sps (wnL t a b)) ∧ Below w.heap.size w w' := by
  refine calls_sat (cx := Tryz.cx 72 [8] [] [] w) (Tryz.ok ..) Tryz.func40 rfl [.a (tdC t), .v (.int .i64 a), .v (.int .i64 b)] rfl (by show 3 ≤ 72; omega) [] (holds_nil (Nat.le_refl _)) ?_
  obtain ⟨p, hp⟩ : ∃ p, p = tidalB t := ⟨_, rfl⟩
  obtain ⟨q, hq⟩ : ∃ q, q = orderedB a b := ⟨_, rfl⟩
  repeat' ((conv => whnf); first | refine walk (Tryz.ok ..) ?_ | (refine Cnd.mk (fun h => ?_) (fun h => ?_) <;> (first | exact cndT h (by (try dsimp only); omega) | exact cndF h (by (try dsimp only); omega) | (exfalso; simp at h; omega) | simp at h | skip)) | refine kp ?_ ?_ | refine tw ?_ ?_ | exact trivial | refine side ?_ | refine sideL ?_ | refine Or.inr ?_ | refine sat_drawH (Tryz.ok ..) (by kernel_rfl) ?_ | refine xi _ (And.intro rfl rfl) ?_ | refine xi _ (fun _ => And.intro rfl rfl) ?_ | refine xi _ rfl ?_)
  intro g3 hg3
  repeat' ((conv => whnf); first | refine walk (Tryz.ok ..) ?_ | (refine Cnd.mk (fun h => ?_) (fun h => ?_) <;> (first | exact cndT h (by (try dsimp only); omega) | exact cndF h (by (try dsimp only); omega) | (exfalso; simp at h; omega) | simp at h | skip)) | refine kp ?_ ?_ | refine tw ?_ ?_ | exact trivial | refine side ?_ | refine sideL ?_ | refine Or.inr ?_ | refine sat_drawH (Tryz.ok ..) (by kernel_rfl) ?_ | refine xi _ (And.intro rfl rfl) ?_ | refine xi _ (fun _ => And.intro rfl rfl) ?_ | refine xi _ rfl ?_)
  refine called_pure (.v (.bool p)) rfl (fun w' => by rw [hp]; exact tidal_any t w') ?_
  repeat' ((conv => whnf); first | refine walk (Tryz.ok ..) ?_ | (refine Cnd.mk (fun h => ?_) (fun h => ?_) <;> (first | exact cndT h (by (try dsimp only); omega) | exact cndF h (by (try dsimp only); omega) | (exfalso; simp at h; omega) | simp at h | skip)) | refine kp ?_ ?_ | refine tw ?_ ?_ | exact trivial | refine side ?_ | refine sideL ?_ | refine Or.inr ?_ | refine sat_drawH (Tryz.ok ..) (by kernel_rfl) ?_ | refine xi _ (And.intro rfl rfl) ?_ | refine xi _ (fun _ => And.intro rfl rfl) ?_ | refine xi _ rfl ?_)
  refine calledQ_pure (.v (.bool q)) rfl (fun _ w' => by rw [hq]; exact ordered_any a b w') ?_
  repeat' ((conv => whnf); first | refine walk (Tryz.ok ..) ?_ | (refine Cnd.mk (fun h => ?_) (fun h => ?_) <;> (first | exact cndT h (by (try dsimp only); omega) | exact cndF h (by (try dsimp only); omega) | (exfalso; simp at h; omega) | simp at h | skip)) | refine kp ?_ ?_ | refine tw ?_ ?_ | exact trivial | refine side ?_ | refine sideL ?_ | refine Or.inr ?_ | refine sat_drawH (Tryz.ok ..) (by kernel_rfl) ?_ | refine xi _ (And.intro rfl rfl) ?_ | refine xi _ (fun _ => And.intro rfl rfl) ?_ | refine xi _ rfl ?_)
  · obtain ⟨h1, h2⟩ := wn_no (t := t) (a := a) (b := b) (by
      unfold wnOk
      rw [← hp, ← hq]
      rcases h with h | h <;> rw [h] <;> simp)
    rw [h1, h2]
    exact done_nil (mk := fun v => .tuple #[v, .int .i64 2]) rfl rfl rfl
  have hyes : wnOk t a b = true := by
    unfold wnOk
    rw [← hp, ← hq, h.1, h.2]
    rfl
  have hT := tidy_of (hp ▸ h.1)
  obtain ⟨⟨a0, a1⟩, ⟨b0, b1⟩, hab⟩ := ord_of (hq ▸ h.2)
  have tf := hT.first
  have td := hT.den
  have tb := hT.before
  have ta := hT.after
  have tn := hT.num
  have i1 : InR .i64 ((a - t.first - t.after) * t.den) := by
    have e1 : (a - t.first - t.after) * t.den ≤ 100000000 * 1000 := Int.mul_le_mul (by omega) td.2 (by omega) (by omega)
    have e2 : (t.first + t.after - a) * t.den ≤ 200000000 * 1000 := Int.mul_le_mul (by omega) td.2 (by omega) (by omega)
    have e3 : (a - t.first - t.after) * t.den = -((t.first + t.after - a) * t.den) := by rw [← Int.neg_mul]; congr 1; omega
    simp only [InR]
    omega
  intro g8 hg8
  obtain ⟨f, hf⟩ : ∃ f, f = max (((a - t.first - t.after) * t.den).tdiv t.num - 1) 0 := ⟨_, rfl⟩
  obtain ⟨⟨f0, f1⟩, hfj⟩ := first_num hT a0 a1 hf
  have hX : -200000000000 ≤ (a - t.first - t.after) * t.den ∧ (a - t.first - t.after) * t.den ≤ 100000000000 := by
    have e1 : (a - t.first - t.after) * t.den ≤ 100000000 * 1000 := Int.mul_le_mul (by omega) td.2 (by omega) (by omega)
    have e2 : (t.first + t.after - a) * t.den ≤ 200000000 * 1000 := Int.mul_le_mul (by omega) td.2 (by omega) (by omega)
    have e3 : (a - t.first - t.after) * t.den = -((t.first + t.after - a) * t.den) := by rw [← Int.neg_mul]; congr 1; omega
    omega
  have hY := tdiv_bd hX tn.1
  repeat' ((conv => whnf); first | refine walk (Tryz.ok ..) ?_ | (refine Cnd.mk (fun h => ?_) (fun h => ?_) <;> (first | exact cndT h (by (try dsimp only); omega) | exact cndF h (by (try dsimp only); omega) | (exfalso; simp at h; omega) | simp at h | skip)) | refine kp ?_ ?_ | refine tw ?_ ?_ | exact trivial | refine side ?_ | refine sideL ?_ | refine Or.inr ?_ | refine sat_drawH (Tryz.ok ..) (by kernel_rfl) ?_ | refine xi _ (And.intro rfl rfl) ?_ | refine xi _ (fun _ => And.intro rfl rfl) ?_ | refine xi _ rfl ?_)
  refine sat_loop (Tryz.ok ..) (α := Nat × Int × Option (Nat × Nat) × Nat) (fun s => ([(1, .yes, .v (.int .i64 a)), (2, .yes, .v (.int .i64 b)), (3, .yes, .p 3 g3 0 0), (8, .yes, .p 8 g8 0 0), (10, .yes, .v (.int .i64 s.1))],
      [(8, .blk g8 86 [.o 80 s.2.2.1 (toldAt (winP t) a b s.2.1).length s.2.2.2]), (80, .row s.2.2.1 25 2 (toldAt (winP t) a b s.2.1).length s.2.2.2 (sps (toldAt (winP t) a b s.2.1))), (3, .blk g3 35 (tdC t))]))
      (fun s => WinK t a b s.1 s.2.1 ∧ (s.1 : Int) ≤ 200000000 ∧ (toldAt (winP t) a b s.2.1).length ≤ 1001) (fun s => 200000001 - s.1) (fun _ => rfl) ?_ ?_
  · obtain ⟨w1, w2⟩ := winK_first (x := a) (to := b) (k := f.toNat) hT (fun j hj => hfj j (by omega))
    have w3 : toldAt (winP t) a b a = [] := toldAt_begin hab (Int.le_refl _)
    refine ⟨(f.toNat, min a (hiw t f.toNat - t.before), none, 0), ⟨w1, by show (f.toNat : Int) ≤ _; omega, by dsimp only; rw [w2, w3]; simp⟩, ?_, ?_, rfl⟩
    · dsimp only
      rw [show (f.toNat : Int) = f by omega, hf]
      ((repeat' (first | exact trivial | exact rfl | refine And.intro ?_ ?_)) <;> (try (conv => whnf)) <;> (try simp only [SV.real, SV.r2, SV.r1]))
      rw [wrap_in (k := .i64) (e := ((a - t.first - t.after) * t.den).tdiv t.num) (by simp only [InR]; omega), wrap_in (by simp only [InR]; omega)]
    · dsimp only
      rw [w2, w3]
      ((repeat' (first | exact trivial | exact rfl | refine And.intro ?_ ?_)) <;> (try (conv => whnf)) <;> (try simp only [SV.real, SV.r2, SV.r1]))
  rintro ⟨k, pos, A1, cap1⟩ ⟨k1, k3, k4⟩
  dsimp only at k1 k3 k4
  have hh := fun w' => high_any t k w' hT (by omega) (by omega)
  have hfar := hiw_far hT k
  have hbd := hiw_bd hT (k := k) (by omega) (by omega)
  have hhi : hiw t k = t.first + k * t.num / t.den := rfl
  obtain ⟨hk, hhk⟩ : ∃ x, x = hiw t k := ⟨_, rfl⟩
  obtain ⟨n1, n2⟩ := winK_next hT hab k1
  repeat' ((conv => whnf); first | refine walk (Tryz.ok ..) ?_ | (refine Cnd.mk (fun h => ?_) (fun h => ?_) <;> (first | exact cndT h (by (try dsimp only); omega) | exact cndF h (by (try dsimp only); omega) | (exfalso; simp at h; omega) | simp at h | skip)) | refine kp ?_ ?_ | refine tw ?_ ?_ | exact trivial | refine side ?_ | refine sideL ?_ | refine Or.inr ?_ | refine sat_drawH (Tryz.ok ..) (by kernel_rfl) ?_ | refine xi _ (And.intro rfl rfl) ?_ | refine xi _ (fun _ => And.intro rfl rfl) ?_ | refine xi _ rfl ?_)
  refine calledQ_pure (.v (.int .i64 hk)) rfl (fun _ w' => by rw [hhk]; exact hh w') ?_
  repeat' ((conv => whnf); first | refine walk (Tryz.ok ..) ?_ | (refine Cnd.mk (fun h => ?_) (fun h => ?_) <;> (first | exact cndT h (by (try dsimp only); omega) | exact cndF h (by (try dsimp only); omega) | (exfalso; simp at h; omega) | simp at h | skip)) | refine kp ?_ ?_ | refine tw ?_ ?_ | exact trivial | refine side ?_ | refine sideL ?_ | refine Or.inr ?_ | refine xi _ (And.intro rfl rfl) ?_ | refine xi _ (fun _ => And.intro rfl rfl) ?_ | refine xi _ rfl ?_)
  · have hin : InR .i64 (max (hk - t.before) 0) ∧ InR .i64 (hk + t.after) := by simp only [InR]; omega
    have e1 : max (max (hk - t.before) 0) a = max (hiw t k - t.before) a := by omega
    refine sat_draw (Tryz.ok ..) [] [(3, .blk g3 35 (tdC t))] (by kernel_rfl) (fun w hw => hw.sub ?_) ?_
    · ((repeat' (first | exact trivial | exact rfl | refine And.intro ?_ ?_)) <;> (try (conv => whnf)) <;> (try simp only [SV.real, SV.r2, SV.r1]))
    repeat' ((conv => whnf); first | refine walk (Tryz.ok ..) ?_ | (refine Cnd.mk (fun h => ?_) (fun h => ?_) <;> (first | exact cndT h (by (try dsimp only); omega) | exact cndF h (by (try dsimp only); omega) | (exfalso; simp at h; omega) | simp at h | skip)) | refine kp ?_ ?_ | refine tw ?_ ?_ | exact trivial | refine side ?_ | refine sideL ?_ | refine Or.inr ?_ | refine sat_drawH (Tryz.ok ..) (by kernel_rfl) ?_ | refine xi _ (And.intro rfl rfl) ?_ | refine xi _ (fun _ => And.intro rfl rfl) ?_ | refine xi _ rfl ?_)
    all_goals
      refine called_pure (.v (.int .i64 hk)) rfl (fun w' => by rw [hhk]; exact hh w') ?_
      repeat' ((conv => whnf); first | refine walk (Tryz.ok ..) ?_ | (refine Cnd.mk (fun h => ?_) (fun h => ?_) <;> (first | exact cndT h (by (try dsimp only); omega) | exact cndF h (by (try dsimp only); omega) | (exfalso; simp at h; omega) | simp at h | skip)) | refine kp ?_ ?_ | refine tw ?_ ?_ | exact trivial | refine side ?_ | refine sideL ?_ | refine Or.inr ?_ | refine sat_drawH (Tryz.ok ..) (by kernel_rfl) ?_ | refine xi _ (And.intro rfl rfl) ?_ | refine xi _ (fun _ => And.intro rfl rfl) ?_ | refine xi _ rfl ?_)
      refine called_pure (.v (.int .i64 hk)) rfl (fun w' => by rw [hhk]; exact hh w') ?_
      repeat' ((conv => whnf); first | refine walk (Tryz.ok ..) ?_ | (refine Cnd.mk (fun h => ?_) (fun h => ?_) <;> (first | exact cndT h (by (try dsimp only); omega) | exact cndF h (by (try dsimp only); omega) | (exfalso; simp at h; omega) | simp at h | skip)) | refine kp ?_ ?_ | refine tw ?_ ?_ | exact trivial | refine side ?_ | refine sideL ?_ | refine Or.inr ?_ | refine sat_drawH (Tryz.ok ..) (by kernel_rfl) ?_ | refine xi _ (And.intro rfl rfl) ?_ | refine xi _ (fun _ => And.intro rfl rfl) ?_ | refine xi _ rfl ?_)
      refine add_at (l := toldAt (winP t) a b pos) (A := A1) (cap := cap1) (g := g8) rfl 8 80 [(3, .blk g3 35 (tdC t))] rfl rfl ?_ hin (by omega) ?_
      · ((repeat' (first | exact trivial | exact rfl | refine And.intro ?_ ?_)) <;> (try (conv => whnf)) <;> (try simp only [SV.real, SV.r2, SV.r1]))
      rw [e1, show hk + t.after = hiw t k + t.after by omega, ← n2]
      intro A2 cap2
      repeat' ((conv => whnf); first | refine walk (Tryz.ok ..) ?_ | (refine Cnd.mk (fun h => ?_) (fun h => ?_) <;> (first | exact cndT h (by (try dsimp only); omega) | exact cndF h (by (try dsimp only); omega) | (exfalso; simp at h; omega) | simp at h | skip)) | refine kp ?_ ?_ | refine tw ?_ ?_ | exact trivial | refine side ?_ | refine sideL ?_ | refine Or.inr ?_ | refine sat_drawH (Tryz.ok ..) (by kernel_rfl) ?_ | refine xi _ (And.intro rfl rfl) ?_ | refine xi _ (fun _ => And.intro rfl rfl) ?_ | refine xi _ rfl ?_)
      refine ⟨(k + 1, hiw t k + t.after, A2, cap2), ⟨⟨n1, by show ((k + 1 : Nat) : Int) ≤ _; omega, ?_⟩, by show 200000001 - (k + 1) < 200000001 - k; omega⟩, ?_, ?_, rfl⟩
      · dsimp only
        rw [n2]
        have := addS_grow (toldAt (winP t) a b pos) (max (hiw t k - t.before) a) (min (hiw t k + t.after) b)
        omega
      all_goals ((repeat' (first | exact trivial | exact rfl | refine And.intro ?_ ?_)) <;> (try (conv => whnf)) <;> (try simp only [SV.real, SV.r2, SV.r1]))
  · have hlen := toldAt_len (winP t) (a := pos) hab
    by_cases hkb : hk - t.before < b
    · have h2 := h hkb
      refine called_pure (.t [.v (.slice none 0 0), .v (.int .i64 5)]) rfl (fun w' => told_many A1 (toldAt (winP t) a b pos).length cap1 (by omega) w') ?_
      repeat' ((conv => whnf); first | refine walk (Tryz.ok ..) ?_ | (refine Cnd.mk (fun h => ?_) (fun h => ?_) <;> (first | exact cndT h (by (try dsimp only); omega) | exact cndF h (by (try dsimp only); omega) | (exfalso; simp at h; omega) | simp at h | skip)) | refine kp ?_ ?_ | refine tw ?_ ?_ | exact trivial | refine side ?_ | refine sideL ?_ | refine Or.inr ?_ | refine sat_drawH (Tryz.ok ..) (by kernel_rfl) ?_ | refine xi _ (And.intro rfl rfl) ?_ | refine xi _ (fun _ => And.intro rfl rfl) ?_ | refine xi _ rfl ?_)
      obtain ⟨h3, h4⟩ := wn_many hyes (show ¬ (wnR t a b).length ≤ 1000 by unfold wnR; omega)
      rw [h3, h4]
      exact done_nil (mk := fun v => .tuple #[v, .int .i64 5]) rfl rfl rfl
    · have he := winK_end hab k1 (by omega)
      by_cases hle : (wnR t a b).length ≤ 1000
      · refine called_pure (.t [.o 80 A1 (toldAt (winP t) a b pos).length cap1, .v (.int .i64 0)]) rfl (fun w' => told_few A1 _ cap1 (by rw [he]; exact hle) w') ?_
        repeat' ((conv => whnf); first | refine walk (Tryz.ok ..) ?_ | (refine Cnd.mk (fun h => ?_) (fun h => ?_) <;> (first | exact cndT h (by (try dsimp only); omega) | exact cndF h (by (try dsimp only); omega) | (exfalso; simp at h; omega) | simp at h | skip)) | refine kp ?_ ?_ | refine tw ?_ ?_ | exact trivial | refine side ?_ | refine sideL ?_ | refine Or.inr ?_ | refine sat_drawH (Tryz.ok ..) (by kernel_rfl) ?_ | refine xi _ (And.intro rfl rfl) ?_ | refine xi _ (fun _ => And.intro rfl rfl) ?_ | refine xi _ rfl ?_)
        obtain ⟨h3, h4⟩ := wn_yes hyes hle
        rw [h3, h4, wnR, ← he]
        exact done_row (mk := fun v => .tuple #[v, .int .i64 0]) rfl rfl 80 A1 cap1 rfl rfl
      · refine called_pure (.t [.v (.slice none 0 0), .v (.int .i64 5)]) rfl (fun w' => told_many A1 (toldAt (winP t) a b pos).length cap1 (by rw [he]; unfold wnR at hle; omega) w') ?_
        repeat' ((conv => whnf); first | refine walk (Tryz.ok ..) ?_ | (refine Cnd.mk (fun h => ?_) (fun h => ?_) <;> (first | exact cndT h (by (try dsimp only); omega) | exact cndF h (by (try dsimp only); omega) | (exfalso; simp at h; omega) | simp at h | skip)) | refine kp ?_ ?_ | refine tw ?_ ?_ | exact trivial | refine side ?_ | refine sideL ?_ | refine Or.inr ?_ | refine sat_drawH (Tryz.ok ..) (by kernel_rfl) ?_ | refine xi _ (And.intro rfl rfl) ?_ | refine xi _ (fun _ => And.intro rfl rfl) ?_ | refine xi _ rfl ?_)
        obtain ⟨h3, h4⟩ := wn_many hyes hle
        rw [h3, h4]
        exact done_nil (mk := fun v => .tuple #[v, .int .i64 5]) rfl rfl rfl
end Go.Proofs.YtmhfkmnpeponiaaGreatDoor
