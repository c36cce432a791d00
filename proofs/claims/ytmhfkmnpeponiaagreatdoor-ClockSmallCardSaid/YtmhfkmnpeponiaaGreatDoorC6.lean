/-
  The walks of the reference of the clock package: when work can begin, and when it ends.
-/
import Derived.Test.YtmhfkmnpeponiaaGreatDoorC5
namespace Go.Proofs.YtmhfkmnpeponiaaGreatDoor
open Go Sat Go.RowKit Go.PlainAid
set_option linter.unusedSimpArgs false
set_option linter.unusedVariables false
theorem wk_ref {l : List Sp} {a m : Int} {p q : Bool} (hp : p = apart l) (hq : q = timedB a) : (p = false ∨ q = false ∨ m < 1 ∨ 100000000 < m → wkOk l a m = false) ∧ (p = true → q = true → 1 ≤ m → m ≤ 100000000 → wkOk l a m = true) := by
  subst hp
  subst hq
  unfold wkOk
  constructor
  · rintro (h | h | h | h)
    · rw [h]; rfl
    · rw [h]; simp
    · rw [decide_eq_false (show ¬ 1 ≤ m by omega)]; simp
    · rw [decide_eq_false (show ¬ m ≤ 100000000 by omega)]; simp
  · intro h1 h2 h3 h4
    rw [h1, h2, decide_eq_true h3, decide_eq_true h4]
    rfl
theorem cnt_zero (l : List Sp) {a y : Int} (h : y ≤ a) : ∀ n, cntTo l a y n = 0 := by
  intro n
  induction n with
  | zero => rfl
  | succ n ih =>
    rw [cntTo, ih]
    cases l[n]? with
    | none => rfl
    | some s => simp only [cnt1, Int.max_def, Int.min_def]; (repeat' split) <;> omega
theorem cnt_last {l : List Sp} (h : okTo l l.length = true) {a m x : Int} (hm : 1 ≤ m) (hf : finL l a m = some x) : m ≤ cnt l a 100000000 := by
  obtain ⟨h1, _⟩ := finTo_some h hm hf
  rcases Int.le_total x 100000000 with h2 | h2
  · have := cntTo_mono l (a := a) h2 l.length
    unfold cnt at h1 ⊢
    omega
  · have h3 : cnt l a x = cnt l a 100000000 := cntTo_far (fun i s _ hs => (ok_own h hs).2.2) h2
    omega
set_option maxRecDepth 100000 in
set_option maxHeartbeats 8000000 in
theorem rfinish_any (l : List Sp) (A : Option (Nat × Nat)) (cap : Nat) (a m : Int) (w : World) (hro : Ro w A l.length 2 (sps l)) (hl : l.length ≤ 4611686018427387903) :
    Calls Tryz.prog 31 #[.slice (adr A) l.length cap, .int .i64 a, .int .i64 m] w fun e w' => e = .returned (.tuple #[.int .i64 (fnV l a m), .int .i64 (fnE l a m)]) ∧ Below w.heap.size w w' := by
  refine calls_sat (cx := Tryz.cx 50 [] [] [] w) (Tryz.ok ..) Tryz.func31 rfl [.o 100 A l.length cap, .v (.int .i64 a), .v (.int .i64 m)] rfl (by show 3 ≤ 50; omega) [(100, .ro A l.length 2 (sps l))] (holds_ros rfl rfl ⟨hro, trivial⟩) ?_
  repeat' ((conv => whnf); first | refine walk (Tryz.ok ..) ?_ | (refine Cnd.mk (fun h => ?_) (fun h => ?_) <;> (first | exact cndT h (by (try dsimp only); omega) | exact cndF h (by (try dsimp only); omega) | (exfalso; simp at h; omega) | simp at h | skip)) | refine kp ?_ ?_ | refine tw ?_ ?_ | exact trivial | refine side ?_ | refine sideL ?_ | refine Or.inr ?_ | refine sat_drawH (Tryz.ok ..) (by kernel_rfl) ?_ | refine xi _ (And.intro rfl rfl) ?_ | refine xi _ (fun _ => And.intro rfl rfl) ?_ | refine xi _ rfl ?_)
  obtain ⟨p, hp⟩ : ∃ p, p = apart l := ⟨_, rfl⟩
  obtain ⟨q, hq⟩ : ∃ q, q = timedB a := ⟨_, rfl⟩
  obtain ⟨hno, hyes⟩ := wk_ref (m := m) hp hq
  refine called_at (.v (.bool p)) rfl (fun w' hh => by rw [hp]; exact rapart_any l A cap w' (ro_of_ro hh (id := 100) rfl) (by omega)) ?_
  repeat' ((conv => whnf); first | refine walk (Tryz.ok ..) ?_ | (refine Cnd.mk (fun h => ?_) (fun h => ?_) <;> (first | exact cndT h (by (try dsimp only); omega) | exact cndF h (by (try dsimp only); omega) | (exfalso; simp at h; omega) | simp at h | skip)) | refine kp ?_ ?_ | refine tw ?_ ?_ | exact trivial | refine side ?_ | refine sideL ?_ | refine Or.inr ?_ | refine sat_drawH (Tryz.ok ..) (by kernel_rfl) ?_ | refine xi _ (And.intro rfl rfl) ?_ | refine xi _ (fun _ => And.intro rfl rfl) ?_ | refine xi _ rfl ?_)
  refine calledQ_pure (.v (.bool q)) rfl (fun _ w' => by rw [hq]; exact rtime_any a w') ?_
  repeat' ((conv => whnf); first | refine walk (Tryz.ok ..) ?_ | (refine Cnd.mk (fun h => ?_) (fun h => ?_) <;> (first | exact cndT h (by (try dsimp only); omega) | exact cndF h (by (try dsimp only); omega) | (exfalso; simp at h; omega) | simp at h | skip)) | refine kp ?_ ?_ | refine tw ?_ ?_ | exact trivial | refine side ?_ | refine sideL ?_ | refine Or.inr ?_ | refine sat_drawH (Tryz.ok ..) (by kernel_rfl) ?_ | refine xi _ (And.intro rfl rfl) ?_ | refine xi _ (fun _ => And.intro rfl rfl) ?_ | refine xi _ rfl ?_)
  · obtain ⟨h1, h2⟩ := fn_no (hno (by
      rcases h with ((h | h) | h) | h
      · exact .inl h
      · exact .inr (.inl h)
      · exact .inr (.inr (.inl h))
      · exact .inr (.inr (.inr h))))
    exact done_pure rfl rfl (real_ii h1 h2)
  have hwk := hyes h.1.1.1 h.1.1.2 h.1.2 h.2
  obtain ⟨⟨hok, hn⟩, ha, hm⟩ := wk_of hwk
  refine called_at (.v (.int .i64 (cnt l a 100000000))) rfl (fun w' hh => count_any l A cap a 100000000 w' (ro_of_ro hh (id := 100) rfl) hok hn ha (by omega)) ?_
  repeat' ((conv => whnf); first | refine walk (Tryz.ok ..) ?_ | (refine Cnd.mk (fun h => ?_) (fun h => ?_) <;> (first | exact cndT h (by (try dsimp only); omega) | exact cndF h (by (try dsimp only); omega) | (exfalso; simp at h; omega) | simp at h | skip)) | refine kp ?_ ?_ | refine tw ?_ ?_ | exact trivial | refine side ?_ | refine sideL ?_ | refine Or.inr ?_ | refine sat_drawH (Tryz.ok ..) (by kernel_rfl) ?_ | refine xi _ (And.intro rfl rfl) ?_ | refine xi _ (fun _ => And.intro rfl rfl) ?_ | refine xi _ rfl ?_)
  · cases hf : finL l a m with
    | none =>
      obtain ⟨h1, h2⟩ := fn_none hwk hf
      exact done_pure rfl rfl (real_ii h1 h2)
    | some x =>
      have := cnt_last hok hm.1 hf
      omega
  cases hf : finL l a m with
  | none =>
    have := fin_none hok hm.1 hf
    omega
  | some x =>
    refine sat_loop (Tryz.ok ..) (α := Nat × Nat) (fun k => ([(0, .yes, .o 100 A l.length cap), (1, .yes, .v (.int .i64 a)), (2, .yes, .v (.int .i64 m)), (8, .yes, .v (.int .i64 k.1)), (9, .yes, .v (.int .i64 k.2))], [(100, .ro A l.length 2 (sps l))])) (fun k => k.1 ≤ k.2 ∧ k.2 ≤ 100000000 ∧ m ≤ cnt l a k.2 ∧ ∀ y : Int, y < k.1 → cnt l a y < m) (fun k => k.2 - k.1) (fun _ => rfl) ?_ ?_
    · refine ⟨(a.toNat, 100000000), ⟨by show a.toNat ≤ 100000000; omega, Nat.le_refl _, by omega, fun y hy => ?_⟩, ?_, ?_, rfl⟩
      · dsimp only at hy
        unfold cnt
        rw [cnt_zero l (by omega)]
        omega
      · dsimp only
        rw [show (a.toNat : Int) = a by omega]
        ((repeat' (first | exact trivial | exact rfl | refine And.intro ?_ ?_)) <;> (try (conv => whnf)) <;> (try simp only [SV.real, SV.r2, SV.r1]))
      · ((repeat' (first | exact trivial | exact rfl | refine And.intro ?_ ?_)) <;> (try (conv => whnf)) <;> (try simp only [SV.real, SV.r2, SV.r1]))
    rintro ⟨lo, hi⟩ ⟨k1, k2, k3, k4⟩
    dsimp only at k1 k2 k3 k4
    by_cases hlt : lo < hi
    · obtain ⟨mid, hmid⟩ : ∃ mid : Nat, mid = (lo + hi) / 2 := ⟨_, rfl⟩
      have hmv : ((lo : Int) + hi) / 2 = mid := by omega
      repeat' ((conv => whnf); first | refine walk (Tryz.ok ..) ?_ | (refine Cnd.mk (fun h => ?_) (fun h => ?_) <;> (first | exact cndT h (by (try dsimp only); omega) | exact cndF h (by (try dsimp only); omega) | (exfalso; simp at h; omega) | simp at h | skip)) | refine kp ?_ ?_ | refine tw ?_ ?_ | exact trivial | refine side ?_ | refine sideL ?_ | refine Or.inr ?_ | refine sat_drawH (Tryz.ok ..) (by kernel_rfl) ?_ | refine xi _ (And.intro rfl rfl) ?_ | refine xi _ (fun _ => And.intro rfl rfl) ?_ | refine xi _ rfl ?_)
      refine called_at (.v (.int .i64 (cnt l a mid))) rfl (fun w' hh => by
        have := count_any l A cap a mid w' (ro_of_ro hh (id := 100) rfl) hok hn ha (by omega)
        rw [← hmv] at this ⊢
        exact this) ?_
      repeat' ((conv => whnf); first | refine walk (Tryz.ok ..) ?_ | (refine Cnd.mk (fun h => ?_) (fun h => ?_) <;> (first | exact cndT h (by (try dsimp only); omega) | exact cndF h (by (try dsimp only); omega) | (exfalso; simp at h; omega) | simp at h | skip)) | refine kp ?_ ?_ | refine tw ?_ ?_ | exact trivial | refine side ?_ | refine sideL ?_ | refine Or.inr ?_ | refine sat_drawH (Tryz.ok ..) (by kernel_rfl) ?_ | refine xi _ (And.intro rfl rfl) ?_ | refine xi _ (fun _ => And.intro rfl rfl) ?_ | refine xi _ rfl ?_)
      · refine ⟨(lo, mid), ⟨⟨by show lo ≤ mid; omega, by show mid ≤ 100000000; omega, by show m ≤ cnt l a mid; omega, k4⟩, by show mid - lo < hi - lo; omega⟩, ?_, ?_, rfl⟩
        · dsimp only
          rw [hmv]
          ((repeat' (first | exact trivial | exact rfl | refine And.intro ?_ ?_)) <;> (try (conv => whnf)) <;> (try simp only [SV.real, SV.r2, SV.r1]))
        · ((repeat' (first | exact trivial | exact rfl | refine And.intro ?_ ?_)) <;> (try (conv => whnf)) <;> (try simp only [SV.real, SV.r2, SV.r1]))
      · refine ⟨(mid + 1, hi), ⟨⟨by show mid + 1 ≤ hi; omega, k2, k3, fun y hy => ?_⟩, by show hi - (mid + 1) < hi - lo; omega⟩, ?_, ?_, rfl⟩
        · dsimp only at hy
          have := cntTo_mono l (a := a) (show y ≤ mid by omega) l.length
          unfold cnt at h ⊢
          omega
        · dsimp only
          rw [hmv]
          ((repeat' (first | exact trivial | exact rfl | refine And.intro ?_ ?_)) <;> (try (conv => whnf)) <;> (try simp only [SV.real, SV.r2, SV.r1]))
        · ((repeat' (first | exact trivial | exact rfl | refine And.intro ?_ ?_)) <;> (try (conv => whnf)) <;> (try simp only [SV.real, SV.r2, SV.r1]))
    · obtain rfl : lo = hi := by omega
      repeat' ((conv => whnf); first | refine walk (Tryz.ok ..) ?_ | (refine Cnd.mk (fun h => ?_) (fun h => ?_) <;> (first | exact cndT h (by (try dsimp only); omega) | exact cndF h (by (try dsimp only); omega) | (exfalso; simp at h; omega) | simp at h | skip)) | refine kp ?_ ?_ | refine tw ?_ ?_ | exact trivial | refine side ?_ | refine sideL ?_ | refine Or.inr ?_ | refine sat_drawH (Tryz.ok ..) (by kernel_rfl) ?_ | refine xi _ (And.intro rfl rfl) ?_ | refine xi _ (fun _ => And.intro rfl rfl) ?_ | refine xi _ rfl ?_)
      have he := fin_least hok hm.1 hf k3 k4
      obtain ⟨h1, h2⟩ := fn_some hwk hf
      exact done_pure rfl rfl (real_ii (by rw [he]; exact h1) h2)
/-- work that begins then has all its minutes in one span -/
def Cand (l : List Sp) (m y : Int) : Prop := ∃ (k : Nat) (r : Sp), l[k]? = some r ∧ r.f ≤ y ∧ y + m ≤ r.t
/-- the times that the reference looks at: when it is ready, then with each span -/
def lookAt (l : List Sp) (a : Int) : Nat → Int
  | 0 => a
  | i + 1 => match l[i]? with
    | some s => max a s.f
    | none => a
/-- what is known of the best time, when n times have been looked at -/
structure BestN (l : List Sp) (a m : Int) (n : Nat) (b : Int) : Prop where
  ok : b = -1 ∨ a ≤ b ∧ b ≤ 100000000 ∧ Cand l m b
  le : ∀ i, i < n → Cand l m (lookAt l a i) → b ≠ -1 ∧ b ≤ lookAt l a i
/-- the same, when a time is looked at, with k spans -/
structure BestK (l : List Sp) (a m : Int) (n : Nat) (at_ : Int) (k : Nat) (b : Int) : Prop where
  up : BestN l a m n b
  le : ∀ i r, i < k → l[i]? = some r → r.f ≤ at_ → at_ + m ≤ r.t → b ≠ -1 ∧ b ≤ at_
theorem lookAt_ge (l : List Sp) (a : Int) (i : Nat) : a ≤ lookAt l a i := by
  cases i with
  | zero => exact Int.le_refl _
  | succ i => rw [lookAt]; split <;> omega
theorem lookAt_le {l : List Sp} (h : okTo l l.length = true) {a : Int} (ha : a ≤ 100000000) (i : Nat) : lookAt l a i ≤ 100000000 := by
  cases i with
  | zero => exact ha
  | succ i =>
    rw [lookAt]
    split
    · rename_i s hs
      have := ok_own h hs
      omega
    · exact ha
theorem bestK_begin {l : List Sp} {a m : Int} {n : Nat} {b : Int} (h : BestN l a m n b) (at_ : Int) : BestK l a m n at_ 0 b := ⟨h, fun i r hi => absurd hi (by omega)⟩
theorem bestK_end {l : List Sp} {a m : Int} {n : Nat} {b : Int} (h : BestK l a m n (lookAt l a n) l.length b) : BestN l a m (n + 1) b := by
  refine ⟨h.up.ok, fun i hi hc => ?_⟩
  rcases Nat.lt_or_ge i n with h1 | h1
  · exact h.up.le i h1 hc
  · obtain rfl : i = n := by omega
    obtain ⟨k, r, h2, h3, h4⟩ := hc
    exact h.le k r (List.getElem?_eq_some_iff.1 h2).1 h2 h3 h4
theorem bestK_no {l : List Sp} {a m at_ : Int} {n k : Nat} {b : Int} {r : Sp} (h : BestK l a m n at_ k b) (hr : l[k]? = some r) (hn : ¬ (r.f ≤ at_ ∧ at_ + m ≤ r.t ∧ (b < 0 ∨ at_ < b))) : BestK l a m n at_ (k + 1) b := by
  refine ⟨h.up, fun i q hi hq h1 h2 => ?_⟩
  rcases Nat.lt_or_ge i k with h3 | h3
  · exact h.le i q h3 hq h1 h2
  · obtain rfl : i = k := by omega
    rw [hr] at hq
    cases hq
    have : ¬ (b < 0 ∨ at_ < b) := fun hc => hn ⟨h1, h2, hc⟩
    omega
theorem bestK_yes {l : List Sp} {a m : Int} {n k : Nat} {b : Int} {r : Sp} (hok : okTo l l.length = true) (ha : 0 ≤ a) (ha2 : a ≤ 100000000) (h : BestK l a m n (lookAt l a n) k b) (hr : l[k]? = some r) (h1 : r.f ≤ lookAt l a n) (h2 : lookAt l a n + m ≤ r.t) (h3 : b < 0 ∨ lookAt l a n < b) : BestK l a m n (lookAt l a n) (k + 1) (lookAt l a n) := by
  have hge := lookAt_ge l a n
  refine ⟨⟨.inr ⟨hge, lookAt_le hok ha2 n, k, r, hr, h1, h2⟩, fun i hi hc => ?_⟩, fun i q hi hq _ _ => ⟨by omega, Int.le_refl _⟩⟩
  obtain ⟨h4, h5⟩ := h.up.le i hi hc
  have h6 : 0 ≤ b := by
    rcases h.up.ok with h7 | h7
    · exact absurd h7 h4
    · omega
  refine ⟨by omega, by omega⟩
theorem best_fit {l : List Sp} (hok : okTo l l.length = true) {a m b : Int} (hm : 1 ≤ m) (ha : 0 ≤ a) (h : BestN l a m (l.length + 1) b) : (b = -1 ∧ fitL l a m = none) ∨ (b ≠ -1 ∧ 0 ≤ b ∧ fitL l a m = some b) := by
  cases hf : fitL l a m with
  | none =>
    rcases h.ok with h1 | ⟨h1, _, k, r, h2, h3, h4⟩
    · exact .inl ⟨h1, rfl⟩
    · exact (fit_never hf h2 h3 h4 h1).elim
  | some x =>
    obtain ⟨i, s, hs, hx, h3, h4, h5⟩ := fit_there hf
    have hl : lookAt l a (i + 1) = x := by rw [lookAt, hs, hx]; dsimp only; omega
    obtain ⟨h6, h7⟩ := h.le (i + 1) (by have := (List.getElem?_eq_some_iff.1 hs).1; omega) (by rw [hl]; exact ⟨i, s, hs, h3, h4⟩)
    rcases h.ok with h1 | ⟨h1, _, k, r, h8, h9, h10⟩
    · exact absurd h1 h6
    · have := fit_least hok hf h8 h9 h10 h1 hm
      rw [hl] at h7
      exact .inr ⟨h6, by omega, by rw [show b = x by omega]⟩
set_option maxRecDepth 100000 in
set_option maxHeartbeats 8000000 in
theorem rfit_any (l : List Sp) (A : Option (Nat × Nat)) (cap : Nat) (a m : Int) (w : World) (hro : Ro w A l.length 2 (sps l)) (hl : l.length ≤ 4611686018427387903) :
    Calls Tryz.prog 30 #[.slice (adr A) l.length cap, .int .i64 a, .int .i64 m] w fun e w' => e = .returned (.tuple #[.int .i64 (ftV l a m), .int .i64 (ftE l a m)]) ∧ Below w.heap.size w w' := by
  refine calls_sat (cx := Tryz.cx 81 [] [] [] w) (Tryz.ok ..) Tryz.func30 rfl [.o 100 A l.length cap, .v (.int .i64 a), .v (.int .i64 m)] rfl (by show 3 ≤ 81; omega) [(100, .ro A l.length 2 (sps l))] (holds_ros rfl rfl ⟨hro, trivial⟩) ?_
  repeat' ((conv => whnf); first | refine walk (Tryz.ok ..) ?_ | (refine Cnd.mk (fun h => ?_) (fun h => ?_) <;> (first | exact cndT h (by (try dsimp only); omega) | exact cndF h (by (try dsimp only); omega) | (exfalso; simp at h; omega) | simp at h | skip)) | refine kp ?_ ?_ | refine tw ?_ ?_ | exact trivial | refine side ?_ | refine sideL ?_ | refine Or.inr ?_ | refine sat_drawH (Tryz.ok ..) (by kernel_rfl) ?_ | refine xi _ (And.intro rfl rfl) ?_ | refine xi _ (fun _ => And.intro rfl rfl) ?_ | refine xi _ rfl ?_)
  obtain ⟨p, hp⟩ : ∃ p, p = apart l := ⟨_, rfl⟩
  obtain ⟨q, hq⟩ : ∃ q, q = timedB a := ⟨_, rfl⟩
  obtain ⟨hno, hyes⟩ := wk_ref (m := m) hp hq
  refine called_at (.v (.bool p)) rfl (fun w' hh => by rw [hp]; exact rapart_any l A cap w' (ro_of_ro hh (id := 100) rfl) (by omega)) ?_
  repeat' ((conv => whnf); first | refine walk (Tryz.ok ..) ?_ | (refine Cnd.mk (fun h => ?_) (fun h => ?_) <;> (first | exact cndT h (by (try dsimp only); omega) | exact cndF h (by (try dsimp only); omega) | (exfalso; simp at h; omega) | simp at h | skip)) | refine kp ?_ ?_ | refine tw ?_ ?_ | exact trivial | refine side ?_ | refine sideL ?_ | refine Or.inr ?_ | refine sat_drawH (Tryz.ok ..) (by kernel_rfl) ?_ | refine xi _ (And.intro rfl rfl) ?_ | refine xi _ (fun _ => And.intro rfl rfl) ?_ | refine xi _ rfl ?_)
  refine calledQ_pure (.v (.bool q)) rfl (fun _ w' => by rw [hq]; exact rtime_any a w') ?_
  repeat' ((conv => whnf); first | refine walk (Tryz.ok ..) ?_ | (refine Cnd.mk (fun h => ?_) (fun h => ?_) <;> (first | exact cndT h (by (try dsimp only); omega) | exact cndF h (by (try dsimp only); omega) | (exfalso; simp at h; omega) | simp at h | skip)) | refine kp ?_ ?_ | refine tw ?_ ?_ | exact trivial | refine side ?_ | refine sideL ?_ | refine Or.inr ?_ | refine sat_drawH (Tryz.ok ..) (by kernel_rfl) ?_ | refine xi _ (And.intro rfl rfl) ?_ | refine xi _ (fun _ => And.intro rfl rfl) ?_ | refine xi _ rfl ?_)
  · obtain ⟨h1, h2⟩ := ft_no (hno (by
      rcases h with ((h | h) | h) | h
      · exact .inl h
      · exact .inr (.inl h)
      · exact .inr (.inr (.inl h))
      · exact .inr (.inr (.inr h))))
    exact done_pure rfl rfl (real_ii h1 h2)
  have hwk := hyes h.1.1.1 h.1.1.2 h.1.2 h.2
  obtain ⟨⟨hok, hn⟩, ha, hm⟩ := wk_of hwk
  refine sat_loop (Tryz.ok ..) (α := Nat × Int) (fun k => ([(0, .yes, .o 100 A l.length cap), (1, .yes, .v (.int .i64 a)), (2, .yes, .v (.int .i64 m)), (8, .yes, .v (.int .i64 k.2)), (9, .yes, .v (.int .i64 ((k.1 : Int) - 1)))], [(100, .ro A l.length 2 (sps l))])) (fun k => k.1 ≤ l.length + 1 ∧ BestN l a m k.1 k.2) (fun k => l.length + 1 - k.1) (fun _ => rfl) ?_ ?_
  · refine ⟨(0, -1), ⟨Nat.zero_le _, .inl rfl, fun i hi => absurd hi (by show ¬ i < 0; omega)⟩, ?_, ?_, rfl⟩
    all_goals ((repeat' (first | exact trivial | exact rfl | refine And.intro ?_ ?_)) <;> (try (conv => whnf)) <;> (try simp only [SV.real, SV.r2, SV.r1]))
  rintro ⟨n, b⟩ ⟨k1, k2⟩
  dsimp only at k1 k2
  by_cases hlt : n < l.length + 1
  · have hat0 := lookAt_ge l a n
    have hat1 := lookAt_le hok ha.2 n
    have hb0 : -1 ≤ b ∧ b ≤ 100000000 := by
      rcases k2.ok with h1 | h1 <;> omega
    rcases Nat.eq_zero_or_pos n with h0 | h0
    · have hla : lookAt l a n = a := by rw [h0]; rfl
      repeat' ((conv => whnf); first | refine walk (Tryz.ok ..) ?_ | (refine Cnd.mk (fun h => ?_) (fun h => ?_) <;> (first | exact cndT h (by (try dsimp only); omega) | exact cndF h (by (try dsimp only); omega) | (exfalso; simp at h; omega) | simp at h | skip)) | refine kp ?_ ?_ | refine tw ?_ ?_ | exact trivial | refine side ?_ | refine sideL ?_ | refine Or.inr ?_ | refine sat_drawH (Tryz.ok ..) (by kernel_rfl) ?_ | refine xi _ (And.intro rfl rfl) ?_ | refine xi _ (fun _ => And.intro rfl rfl) ?_ | refine xi _ rfl ?_)
      refine sat_loop (Tryz.ok ..) (α := Nat × Int) (fun k => ([(0, .yes, .o 100 A l.length cap), (1, .yes, .v (.int .i64 a)), (2, .yes, .v (.int .i64 m)), (8, .yes, .v (.int .i64 k.2)), (9, .yes, .v (.int .i64 ((n : Int) - 1))), (10, .yes, .v (.int .i64 a)), (11, .yes, .v (.int .i64 k.1))], [(100, .ro A l.length 2 (sps l))])) (fun k => k.1 ≤ l.length ∧ BestK l a m n (lookAt l a n) k.1 k.2) (fun k => l.length - k.1) (fun _ => rfl) ?_ ?_
      · refine ⟨(0, b), ⟨Nat.zero_le _, bestK_begin k2 _⟩, ?_, ?_, rfl⟩
        all_goals ((repeat' (first | exact trivial | exact rfl | refine And.intro ?_ ?_)) <;> (try (conv => whnf)) <;> (try simp only [SV.real, SV.r2, SV.r1]))
      rintro ⟨k, c⟩ ⟨j1, j2⟩
      dsimp only at j1 j2
      have hc0 : -1 ≤ c ∧ c ≤ 100000000 := by
        rcases j2.up.ok with h1 | h1 <;> omega
      by_cases hk : k < l.length
      · obtain ⟨r, hr⟩ : ∃ r, l[k]? = some r := ⟨l[k], List.getElem?_eq_getElem hk⟩
        obtain ⟨o1, o2, o3⟩ := ok_own hok hr
        have hyes2 := bestK_yes (m := m) hok ha.1 ha.2 j2 hr
        have hno2 := bestK_no j2 hr
        rw [hla] at hyes2 hno2 hat0 hat1
        repeat' ((conv => whnf); first | refine walk (Tryz.ok ..) ?_ | (refine Cnd.mk (fun h => ?_) (fun h => ?_) <;> (first | exact cndT h (by (try dsimp only); omega) | exact cndF h (by (try dsimp only); omega) | (exfalso; simp at h; omega) | simp at h | skip)) | refine kp ?_ ?_ | refine tw ?_ ?_ | exact trivial | refine side ?_ | refine sideL ?_ | refine Or.inr ?_ | refine sat_drawH (Tryz.ok ..) (by kernel_rfl) ?_ | refine xi _ (And.intro rfl rfl) ?_ | refine xi _ (fun _ => And.intro rfl rfl) ?_ | refine xi _ rfl ?_ | refine xi _ (fun _ => (at_f hr rfl)) ?_ | refine xi _ (at_f hr rfl) ?_ | refine xi _ (fun _ => (fun _ => at_t hr rfl)) ?_ | refine xi _ (fun _ => at_t hr rfl) ?_)
        · refine ⟨(k + 1, a), ⟨⟨by show k + 1 ≤ l.length; omega, ?_⟩, by show l.length - (k + 1) < l.length - k; omega⟩, ?_, ?_, rfl⟩
          · dsimp only
            rw [hla]
            exact hyes2 (by omega) (by omega) (by omega)
          all_goals ((repeat' (first | exact trivial | exact rfl | refine And.intro ?_ ?_)) <;> (try (conv => whnf)) <;> (try simp only [SV.real, SV.r2, SV.r1]))
        · refine ⟨(k + 1, c), ⟨⟨by show k + 1 ≤ l.length; omega, ?_⟩, by show l.length - (k + 1) < l.length - k; omega⟩, ?_, ?_, rfl⟩
          · dsimp only
            rw [hla]
            exact hno2 (by omega)
          all_goals ((repeat' (first | exact trivial | exact rfl | refine And.intro ?_ ?_)) <;> (try (conv => whnf)) <;> (try simp only [SV.real, SV.r2, SV.r1]))
      · obtain rfl : k = l.length := by omega
        repeat' ((conv => whnf); first | refine walk (Tryz.ok ..) ?_ | (refine Cnd.mk (fun h => ?_) (fun h => ?_) <;> (first | exact cndT h (by (try dsimp only); omega) | exact cndF h (by (try dsimp only); omega) | (exfalso; simp at h; omega) | simp at h | skip)) | refine kp ?_ ?_ | refine tw ?_ ?_ | exact trivial | refine side ?_ | refine sideL ?_ | refine Or.inr ?_ | refine sat_drawH (Tryz.ok ..) (by kernel_rfl) ?_ | refine xi _ (And.intro rfl rfl) ?_ | refine xi _ (fun _ => And.intro rfl rfl) ?_ | refine xi _ rfl ?_)
        refine ⟨(n + 1, c), ⟨⟨by show n + 1 ≤ l.length + 1; omega, bestK_end j2⟩, by show l.length + 1 - (n + 1) < l.length + 1 - n; omega⟩, ?_, ?_, rfl⟩
        · dsimp only
          rw [show ((n + 1 : Nat) : Int) - 1 = (n : Int) - 1 + 1 by omega]
          ((repeat' (first | exact trivial | exact rfl | refine And.intro ?_ ?_)) <;> (try (conv => whnf)) <;> (try simp only [SV.real, SV.r2, SV.r1]))
        · ((repeat' (first | exact trivial | exact rfl | refine And.intro ?_ ?_)) <;> (try (conv => whnf)) <;> (try simp only [SV.real, SV.r2, SV.r1]))
    · obtain ⟨s, hs⟩ : ∃ s, l[n - 1]? = some s := ⟨l[n - 1]'(by omega), List.getElem?_eq_getElem _⟩
      have hla : lookAt l a n = max a s.f := by
        rw [show n = n - 1 + 1 by omega, lookAt, hs]
      repeat' ((conv => whnf); first | refine walk (Tryz.ok ..) ?_ | (refine Cnd.mk (fun h => ?_) (fun h => ?_) <;> (first | exact cndT h (by (try dsimp only); omega) | exact cndF h (by (try dsimp only); omega) | (exfalso; simp at h; omega) | simp at h | skip)) | refine kp ?_ ?_ | refine tw ?_ ?_ | exact trivial | refine side ?_ | refine sideL ?_ | refine Or.inr ?_ | refine sat_drawH (Tryz.ok ..) (by kernel_rfl) ?_ | refine xi _ (And.intro rfl rfl) ?_ | refine xi _ (fun _ => And.intro rfl rfl) ?_ | refine xi _ rfl ?_ | refine xi _ (fun _ => (at_f hs (by omega))) ?_ | refine xi _ (at_f hs (by omega)) ?_)
      refine sat_loop (Tryz.ok ..) (α := Nat × Int) (fun k => ([(0, .yes, .o 100 A l.length cap), (1, .yes, .v (.int .i64 a)), (2, .yes, .v (.int .i64 m)), (8, .yes, .v (.int .i64 k.2)), (9, .yes, .v (.int .i64 ((n : Int) - 1))), (10, .yes, .v (.int .i64 (max a s.f))), (11, .yes, .v (.int .i64 k.1))], [(100, .ro A l.length 2 (sps l))])) (fun k => k.1 ≤ l.length ∧ BestK l a m n (lookAt l a n) k.1 k.2) (fun k => l.length - k.1) (fun _ => rfl) ?_ ?_
      · refine ⟨(0, b), ⟨Nat.zero_le _, bestK_begin k2 _⟩, ?_, ?_, rfl⟩
        all_goals ((repeat' (first | exact trivial | exact rfl | refine And.intro ?_ ?_)) <;> (try (conv => whnf)) <;> (try simp only [SV.real, SV.r2, SV.r1]))
      rintro ⟨k, c⟩ ⟨j1, j2⟩
      dsimp only at j1 j2
      have hc0 : -1 ≤ c ∧ c ≤ 100000000 := by
        rcases j2.up.ok with h1 | h1 <;> omega
      by_cases hk : k < l.length
      · obtain ⟨r, hr⟩ : ∃ r, l[k]? = some r := ⟨l[k], List.getElem?_eq_getElem hk⟩
        obtain ⟨o1, o2, o3⟩ := ok_own hok hr
        have hyes2 := bestK_yes (m := m) hok ha.1 ha.2 j2 hr
        have hno2 := bestK_no j2 hr
        rw [hla] at hyes2 hno2 hat0 hat1
        repeat' ((conv => whnf); first | refine walk (Tryz.ok ..) ?_ | (refine Cnd.mk (fun h => ?_) (fun h => ?_) <;> (first | exact cndT h (by (try dsimp only); omega) | exact cndF h (by (try dsimp only); omega) | (exfalso; simp at h; omega) | simp at h | skip)) | refine kp ?_ ?_ | refine tw ?_ ?_ | exact trivial | refine side ?_ | refine sideL ?_ | refine Or.inr ?_ | refine sat_drawH (Tryz.ok ..) (by kernel_rfl) ?_ | refine xi _ (And.intro rfl rfl) ?_ | refine xi _ (fun _ => And.intro rfl rfl) ?_ | refine xi _ rfl ?_ | refine xi _ (fun _ => (at_f hr rfl)) ?_ | refine xi _ (at_f hr rfl) ?_ | refine xi _ (fun _ => (fun _ => at_t hr rfl)) ?_ | refine xi _ (fun _ => at_t hr rfl) ?_)
        · refine ⟨(k + 1, max a s.f), ⟨⟨by show k + 1 ≤ l.length; omega, ?_⟩, by show l.length - (k + 1) < l.length - k; omega⟩, ?_, ?_, rfl⟩
          · dsimp only
            rw [hla]
            exact hyes2 (by omega) (by omega) (by omega)
          all_goals ((repeat' (first | exact trivial | exact rfl | refine And.intro ?_ ?_)) <;> (try (conv => whnf)) <;> (try simp only [SV.real, SV.r2, SV.r1]))
        · refine ⟨(k + 1, c), ⟨⟨by show k + 1 ≤ l.length; omega, ?_⟩, by show l.length - (k + 1) < l.length - k; omega⟩, ?_, ?_, rfl⟩
          · dsimp only
            rw [hla]
            exact hno2 (by omega)
          all_goals ((repeat' (first | exact trivial | exact rfl | refine And.intro ?_ ?_)) <;> (try (conv => whnf)) <;> (try simp only [SV.real, SV.r2, SV.r1]))
      · obtain rfl : k = l.length := by omega
        repeat' ((conv => whnf); first | refine walk (Tryz.ok ..) ?_ | (refine Cnd.mk (fun h => ?_) (fun h => ?_) <;> (first | exact cndT h (by (try dsimp only); omega) | exact cndF h (by (try dsimp only); omega) | (exfalso; simp at h; omega) | simp at h | skip)) | refine kp ?_ ?_ | refine tw ?_ ?_ | exact trivial | refine side ?_ | refine sideL ?_ | refine Or.inr ?_ | refine sat_drawH (Tryz.ok ..) (by kernel_rfl) ?_ | refine xi _ (And.intro rfl rfl) ?_ | refine xi _ (fun _ => And.intro rfl rfl) ?_ | refine xi _ rfl ?_)
        refine ⟨(n + 1, c), ⟨⟨by show n + 1 ≤ l.length + 1; omega, bestK_end j2⟩, by show l.length + 1 - (n + 1) < l.length + 1 - n; omega⟩, ?_, ?_, rfl⟩
        · dsimp only
          rw [show ((n + 1 : Nat) : Int) - 1 = (n : Int) - 1 + 1 by omega]
          ((repeat' (first | exact trivial | exact rfl | refine And.intro ?_ ?_)) <;> (try (conv => whnf)) <;> (try simp only [SV.real, SV.r2, SV.r1]))
        · ((repeat' (first | exact trivial | exact rfl | refine And.intro ?_ ?_)) <;> (try (conv => whnf)) <;> (try simp only [SV.real, SV.r2, SV.r1]))
  · obtain rfl : n = l.length + 1 := by omega
    rcases best_fit hok hm.1 ha.1 k2 with ⟨e1, e2⟩ | ⟨e1, e2, e3⟩
    · repeat' ((conv => whnf); first | refine walk (Tryz.ok ..) ?_ | (refine Cnd.mk (fun h => ?_) (fun h => ?_) <;> (first | exact cndT h (by (try dsimp only); omega) | exact cndF h (by (try dsimp only); omega) | (exfalso; simp at h; omega) | simp at h | skip)) | refine kp ?_ ?_ | refine tw ?_ ?_ | exact trivial | refine side ?_ | refine sideL ?_ | refine Or.inr ?_ | refine sat_drawH (Tryz.ok ..) (by kernel_rfl) ?_ | refine xi _ (And.intro rfl rfl) ?_ | refine xi _ (fun _ => And.intro rfl rfl) ?_ | refine xi _ rfl ?_)
      obtain ⟨h1, h2⟩ := ft_none hwk e2
      exact done_pure rfl rfl (real_ii h1 h2)
    · repeat' ((conv => whnf); first | refine walk (Tryz.ok ..) ?_ | (refine Cnd.mk (fun h => ?_) (fun h => ?_) <;> (first | exact cndT h (by (try dsimp only); omega) | exact cndF h (by (try dsimp only); omega) | (exfalso; simp at h; omega) | simp at h | skip)) | refine kp ?_ ?_ | refine tw ?_ ?_ | exact trivial | refine side ?_ | refine sideL ?_ | refine Or.inr ?_ | refine sat_drawH (Tryz.ok ..) (by kernel_rfl) ?_ | refine xi _ (And.intro rfl rfl) ?_ | refine xi _ (fun _ => And.intro rfl rfl) ?_ | refine xi _ rfl ?_)
      obtain ⟨h1, h2⟩ := ft_some hwk e3
      exact done_pure rfl rfl (real_ii h1 h2)
end Go.Proofs.YtmhfkmnpeponiaaGreatDoor
