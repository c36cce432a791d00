/-
  The walks of the reference of the clock package: the windows of a tide.
-/
import Derived.Test.YtmhfkmnpeponiaaGreatDoorC13
namespace Go.Proofs.YtmhfkmnpeponiaaGreatDoor
open Go Sat Go.RowKit Go.PlainAid
set_option linter.unusedSimpArgs false
set_option linter.unusedVariables false
theorem one_up {cx : Cx} {w : World} {r : Nat} {b : HB} {L : Heap} (hL : freeOf [r] L = true) (h : Holds cx ((r, b) :: L) w) : Holds cx ((101, b) :: up L) w := by
  have hf := free_of hL
  have := holds_map (fun i => if i = r then 101 else i + 1000) (fun e => e.2) h (fun _ _ hh => hh) (fun _ _ => rfl)
  have e1 : (L.map fun e => ((if e.1 = r then 101 else e.1 + 1000 : Nat), e.2)) = up L := by
    unfold up
    apply List.map_congr_left
    intro e he
    have := hf e he
    simp only [List.mem_cons, List.not_mem_nil, or_false] at this
    rw [if_neg this]
  simp only [List.map_cons, e1, if_true] at this
  exact this
theorem one_down {cx : Cx} {w : World} {r : Nat} {b : HB} {L : Heap} (h : Holds cx ((101, b) :: up L) w) : Holds cx ((r, b) :: L) w := by
  have := holds_map (fun i => if i = 101 then r else i - 1000) (fun e => e.2) h (fun _ _ hh => hh) (fun _ _ => rfl)
  have e1 : ((up L).map fun e => ((if e.1 = 101 then r else e.1 - 1000 : Nat), e.2)) = L := by
    unfold up
    rw [List.map_map]
    have : ∀ e : Nat × HB, ((fun e : Nat × HB => ((if e.1 = 101 then r else e.1 - 1000 : Nat), e.2)) ∘ fun e => (e.1 + 1000, e.2)) e = e := by
      intro e
      dsimp only [Function.comp]
      rw [if_neg (by omega), Nat.add_sub_cancel]
    rw [List.map_congr_left (fun e _ => this e), List.map_id']
  simp only [List.map_cons, e1, if_true] at this
  exact this
theorem radd_at {cx : Cx} (hP : Tryz.prog = cx.P) {H : Heap} {K : SV → Heap → Prop} (r : Nat) {A : Option (Nat × Nat)} {cap : Nat} {l : List Sp} {x : Int} (L : Heap) (hL : freeOf [r] L = true)
    (hH : hsub H ((r, .row A 81 2 l.length cap (sps l)) :: L)) (hx : 0 ≤ x ∧ x ≤ 100000000) (hl : l.length ≤ 100000001)
    (hk : ∀ A' cap', K (.o r A' (addT l x).length cap') ((r, .row A' 81 2 (addT l x).length cap' (sps (addT l x))) :: L)) :
    Called cx 55 [.o r A l.length cap, .v (.int .i64 x)] H K := by
  refine called_ren [.o 101 A l.length cap, .v (.int .i64 x)] ((101, .row A 81 2 l.length cap (sps l)) :: up L) (fun v H' => ∃ A' cap', v = .o 101 A' (addT l x).length cap' ∧ H' = (101, .row A' 81 2 (addT l x).length cap' (sps (addT l x))) :: up L) rfl
    (fun w hw => one_up hL (hw.sub hH)) (Called.cx_ (cx := Tryz.cxg 35 [] [] [] cx.n0 cx.M cx.W) hP rfl rfl rfl (radd_called cx.n0 cx.M cx.W (up L) (up_above L) A cap l x hx hl (fun A' cap' => ⟨A', cap', rfl, rfl⟩))) ?_
  rintro v1 H1 ⟨A', cap', rfl, rfl⟩
  exact ⟨.o r A' (addT l x).length cap', _, rfl, fun w hw => one_down hw, hk A' cap'⟩
set_option maxRecDepth 100000 in
set_option maxHeartbeats 8000000 in
theorem rwindows_any (t : Td) (a b : Int) (w : World) : Calls Tryz.prog 41 #[tdV t, .int .i64 a, .int .i64 b] w fun e w' => ∃ v, e = .returned (.tuple #[v, .int .i64 (wnE t a b)]) ∧ w'.ownsRow w.heap.size 81 2 v (wnL t a b).length (sps (wnL t a b)) ∧ Below w.heap.size w w' := by
  refine calls_sat (cx := Tryz.cx 75 [] [] [] w) (Tryz.ok ..) Tryz.func41 rfl [.a (tdC t), .v (.int .i64 a), .v (.int .i64 b)] rfl (by show 3 ≤ 75; omega) [] (holds_nil (Nat.le_refl _)) ?_
  obtain ⟨p, hp⟩ : ∃ p, p = tidalB t := ⟨_, rfl⟩
  obtain ⟨q, hq⟩ : ∃ q, q = timedB a := ⟨_, rfl⟩
  obtain ⟨r, hr⟩ : ∃ q, q = timedB b := ⟨_, rfl⟩
  repeat' ((conv => whnf); first | refine walk (Tryz.ok ..) ?_ | (refine Cnd.mk (fun h => ?_) (fun h => ?_) <;> (first | exact cndT h (by (try dsimp only); omega) | exact cndF h (by (try dsimp only); omega) | (exfalso; simp at h; omega) | simp at h | skip)) | refine kp ?_ ?_ | refine tw ?_ ?_ | exact trivial | refine side ?_ | refine sideL ?_ | refine Or.inr ?_ | refine sat_drawH (Tryz.ok ..) (by kernel_rfl) ?_ | refine xi _ (And.intro rfl rfl) ?_ | refine xi _ (fun _ => And.intro rfl rfl) ?_ | refine xi _ rfl ?_)
  intro g3 hg3
  repeat' ((conv => whnf); first | refine walk (Tryz.ok ..) ?_ | (refine Cnd.mk (fun h => ?_) (fun h => ?_) <;> (first | exact cndT h (by (try dsimp only); omega) | exact cndF h (by (try dsimp only); omega) | (exfalso; simp at h; omega) | simp at h | skip)) | refine kp ?_ ?_ | refine tw ?_ ?_ | exact trivial | refine side ?_ | refine sideL ?_ | refine Or.inr ?_ | refine sat_drawH (Tryz.ok ..) (by kernel_rfl) ?_ | refine xi _ (And.intro rfl rfl) ?_ | refine xi _ (fun _ => And.intro rfl rfl) ?_ | refine xi _ rfl ?_)
  refine called_pure (.v (.bool p)) rfl (fun w' => by rw [hp]; exact rtidal_any t w') ?_
  repeat' ((conv => whnf); first | refine walk (Tryz.ok ..) ?_ | (refine Cnd.mk (fun h => ?_) (fun h => ?_) <;> (first | exact cndT h (by (try dsimp only); omega) | exact cndF h (by (try dsimp only); omega) | (exfalso; simp at h; omega) | simp at h | skip)) | refine kp ?_ ?_ | refine tw ?_ ?_ | exact trivial | refine side ?_ | refine sideL ?_ | refine Or.inr ?_ | refine sat_drawH (Tryz.ok ..) (by kernel_rfl) ?_ | refine xi _ (And.intro rfl rfl) ?_ | refine xi _ (fun _ => And.intro rfl rfl) ?_ | refine xi _ rfl ?_)
  refine calledQ_pure (.v (.bool q)) rfl (fun _ w' => by rw [hq]; exact rtime_any a w') ?_
  repeat' ((conv => whnf); first | refine walk (Tryz.ok ..) ?_ | (refine Cnd.mk (fun h => ?_) (fun h => ?_) <;> (first | exact cndT h (by (try dsimp only); omega) | exact cndF h (by (try dsimp only); omega) | (exfalso; simp at h; omega) | simp at h | skip)) | refine kp ?_ ?_ | refine tw ?_ ?_ | exact trivial | refine side ?_ | refine sideL ?_ | refine Or.inr ?_ | refine sat_drawH (Tryz.ok ..) (by kernel_rfl) ?_ | refine xi _ (And.intro rfl rfl) ?_ | refine xi _ (fun _ => And.intro rfl rfl) ?_ | refine xi _ rfl ?_)
  refine calledQ_pure (.v (.bool r)) rfl (fun _ w' => by rw [hr]; exact rtime_any b w') ?_
  repeat' ((conv => whnf); first | refine walk (Tryz.ok ..) ?_ | (refine Cnd.mk (fun h => ?_) (fun h => ?_) <;> (first | exact cndT h (by (try dsimp only); omega) | exact cndF h (by (try dsimp only); omega) | (exfalso; simp at h; omega) | simp at h | skip)) | refine kp ?_ ?_ | refine tw ?_ ?_ | exact trivial | refine side ?_ | refine sideL ?_ | refine Or.inr ?_ | refine sat_drawH (Tryz.ok ..) (by kernel_rfl) ?_ | refine xi _ (And.intro rfl rfl) ?_ | refine xi _ (fun _ => And.intro rfl rfl) ?_ | refine xi _ rfl ?_)
  · obtain ⟨h1, h2⟩ := wn_no (t := t) (a := a) (b := b) (by
      unfold wnOk orderedB
      rw [← hp, ← hq, ← hr]
      rcases h with ((h | h) | h) | h
      · rw [h]; rfl
      · rw [h]; simp
      · rw [h]; simp
      · rw [decide_eq_false (show ¬ a ≤ b by omega)]; simp)
    rw [h1, h2]
    exact done_nil (mk := fun v => .tuple #[v, .int .i64 2]) rfl rfl rfl
  have hyes : wnOk t a b = true := by
    unfold wnOk orderedB
    rw [← hp, ← hq, ← hr, h.1.1.1, h.1.1.2, h.1.2, decide_eq_true (show a ≤ b by omega)]
    rfl
  have hT := tidy_of (hp ▸ h.1.1.1)
  obtain ⟨a0, a1⟩ := timed_iff2.1 (hq ▸ h.1.1.2)
  obtain ⟨b0, b1⟩ := timed_iff2.1 (hr ▸ h.1.2)
  have hab : a ≤ b := by omega
  have tf := hT.first
  have td := hT.den
  have tb := hT.before
  have ta := hT.after
  have tn := hT.num
  have hwn : wnR t a b = runs (winP t) a (b - a).toNat := toldAt_end hab
  refine sat_loop (Tryz.ok ..) (α := Nat) (fun k => ([(1, .yes, .v (.int .i64 a)), (2, .yes, .v (.int .i64 b)), (3, .yes, .p 3 g3 0 0), (8, .yes, .o 70 none 0 0), (9, .yes, .v (.int .i64 k))], [(70, .row none 81 2 0 0 []), (3, .blk g3 71 (tdC t))]))
      (fun k => (k = 0 ∨ hiw t k + t.after ≤ a) ∧ (k : Int) ≤ 100000000) (fun k => 100000001 - k) (fun _ => rfl) ?_ ?_
  · refine ⟨0, ⟨.inl rfl, by omega⟩, ?_, ?_, rfl⟩
    all_goals ((repeat' (first | exact trivial | exact rfl | refine And.intro ?_ ?_)) <;> (try (conv => whnf)) <;> (try simp only [SV.real, SV.r2, SV.r1]))
  rintro k ⟨k1, k2⟩
  have hd2 := hiw_den t (by omega) (k : Int)
  have hh := fun w' => rhigh_any t (k + t.den) w' hT (by omega) (by omega)
  obtain ⟨⟨y1, y2⟩, y3, y4⟩ := hiw_bd hT (k := k + t.den) (by omega) (by omega)
  have hhi : hiw t (k + t.den) = t.first + (k + t.den) * t.num / t.den := rfl
  have hfar := hiw_far hT (k + t.den.toNat)
  have hkd : ((k + t.den.toNat : Nat) : Int) = k + t.den := by omega
  rw [hkd] at hfar
  obtain ⟨hk, hhk⟩ : ∃ x, x = hiw t (k + t.den) := ⟨_, rfl⟩
  repeat' ((conv => whnf); first | refine walk (Tryz.ok ..) ?_ | (refine Cnd.mk (fun h => ?_) (fun h => ?_) <;> (first | exact cndT h (by (try dsimp only); omega) | exact cndF h (by (try dsimp only); omega) | (exfalso; simp at h; omega) | simp at h | skip)) | refine kp ?_ ?_ | refine tw ?_ ?_ | exact trivial | refine side ?_ | refine sideL ?_ | refine Or.inr ?_ | refine sat_drawH (Tryz.ok ..) (by kernel_rfl) ?_ | refine xi _ (And.intro rfl rfl) ?_ | refine xi _ (fun _ => And.intro rfl rfl) ?_ | refine xi _ rfl ?_)
  refine calledQ_pure (.v (.int .i64 hk)) rfl (fun _ w' => by rw [hhk]; exact hh w') ?_
  repeat' ((conv => whnf); first | refine walk (Tryz.ok ..) ?_ | (refine Cnd.mk (fun h => ?_) (fun h => ?_) <;> (first | exact cndT h (by (try dsimp only); omega) | exact cndF h (by (try dsimp only); omega) | (exfalso; simp at h; omega) | simp at h | skip)) | refine kp ?_ ?_ | refine tw ?_ ?_ | exact trivial | refine side ?_ | refine sideL ?_ | refine Or.inr ?_ | refine sat_drawH (Tryz.ok ..) (by kernel_rfl) ?_ | refine xi _ (And.intro rfl rfl) ?_ | refine xi _ (fun _ => And.intro rfl rfl) ?_ | refine xi _ rfl ?_)
  · refine ⟨k + t.den.toNat, ⟨⟨.inr ?_, ?_⟩, ?_⟩, ?_, ?_, rfl⟩
    · rw [hkd, ← hhk]
      exact h
    · show ((k + t.den.toNat : Nat) : Int) ≤ _
      omega
    · omega
    · dsimp only
      rw [hkd]
      ((repeat' (first | exact trivial | exact rfl | refine And.intro ?_ ?_)) <;> (try (conv => whnf)) <;> (try simp only [SV.real, SV.r2, SV.r1]))
    · ((repeat' (first | exact trivial | exact rfl | refine And.intro ?_ ?_)) <;> (try (conv => whnf)) <;> (try simp only [SV.real, SV.r2, SV.r1]))
  refine sat_loop (Tryz.ok ..) (α := Nat × Nat × Option (Nat × Nat) × Nat) (fun s => ([(1, .yes, .v (.int .i64 a)), (2, .yes, .v (.int .i64 b)), (3, .yes, .p 3 g3 0 0), (8, .yes, .o 70 s.2.2.1 (runs (winP t) a s.1).length s.2.2.2), (9, .yes, .v (.int .i64 s.2.1)), (10, .yes, .v (.int .i64 (a + s.1)))],
      [(70, .row s.2.2.1 81 2 (runs (winP t) a s.1).length s.2.2.2 (sps (runs (winP t) a s.1))), (3, .blk g3 71 (tdC t))]))
      (fun s => a + s.1 ≤ b ∧ (s.2.1 : Int) ≤ 100000001 ∧ ∀ j : Nat, j < s.2.1 → hiw t j + t.after ≤ a + s.1) (fun s => (b - a).toNat - s.1) (fun _ => rfl) ?_ ?_
  · refine ⟨(0, k, none, 0), ⟨by show a + (0 : Nat) ≤ b; omega, by show (k : Int) ≤ _; omega, fun j hj => ?_⟩, ?_, ?_, rfl⟩
    · dsimp only at hj ⊢
      rcases k1 with e | e
      · omega
      · have := hiw_le hT (show (j : Int) ≤ (k : Int) by omega)
        omega
    · dsimp only
      rw [show a + ((0 : Nat) : Int) = a by omega]
      ((repeat' (first | exact trivial | exact rfl | refine And.intro ?_ ?_)) <;> (try (conv => whnf)) <;> (try simp only [SV.real, SV.r2, SV.r1]))
    · ((repeat' (first | exact trivial | exact rfl | refine And.intro ?_ ?_)) <;> (try (conv => whnf)) <;> (try simp only [SV.real, SV.r2, SV.r1]))
  rintro ⟨n, m, A1, cap1⟩ ⟨m1, m2, m3⟩
  dsimp only at m1 m2 m3
  have hgr := runs_grow (winP t) a n
  by_cases hnb : a + n < b
  · repeat' ((conv => whnf); first | refine walk (Tryz.ok ..) ?_ | (refine Cnd.mk (fun h => ?_) (fun h => ?_) <;> (first | exact cndT h (by (try dsimp only); omega) | exact cndF h (by (try dsimp only); omega) | (exfalso; simp at h; omega) | simp at h | skip)) | refine kp ?_ ?_ | refine tw ?_ ?_ | exact trivial | refine side ?_ | refine sideL ?_ | refine Or.inr ?_ | refine sat_drawH (Tryz.ok ..) (by kernel_rfl) ?_ | refine xi _ (And.intro rfl rfl) ?_ | refine xi _ (fun _ => And.intro rfl rfl) ?_ | refine xi _ rfl ?_)
    refine sat_loop (Tryz.ok ..) (α := Nat) (fun i => ([(1, .yes, .v (.int .i64 a)), (2, .yes, .v (.int .i64 b)), (3, .yes, .p 3 g3 0 0), (8, .yes, .o 70 A1 (runs (winP t) a n).length cap1), (9, .yes, .v (.int .i64 i)), (10, .yes, .v (.int .i64 (a + n)))],
        [(70, .row A1 81 2 (runs (winP t) a n).length cap1 (sps (runs (winP t) a n))), (3, .blk g3 71 (tdC t))]))
        (fun i => (i : Int) ≤ 100000001 ∧ ∀ j : Nat, j < i → hiw t j + t.after ≤ a + n) (fun i => 100000002 - i) (fun _ => rfl) ?_ ?_
    · refine ⟨m, ⟨m2, m3⟩, ?_, ?_, rfl⟩
      all_goals ((repeat' (first | exact trivial | exact rfl | refine And.intro ?_ ?_)) <;> (try (conv => whnf)) <;> (try simp only [SV.real, SV.r2, SV.r1]))
    rintro i ⟨i1, i2⟩
    have hh2 := fun w' => rhigh_any t i w' hT (by omega) (by omega)
    obtain ⟨⟨z1, z2⟩, z3, z4⟩ := hiw_bd hT (k := i) (by omega) (by omega)
    have hhi2 : hiw t i = t.first + i * t.num / t.den := rfl
    have hfar2 := hiw_far hT i
    obtain ⟨hi, hhi3⟩ : ∃ x, x = hiw t i := ⟨_, rfl⟩
    repeat' ((conv => whnf); first | refine walk (Tryz.ok ..) ?_ | (refine Cnd.mk (fun h => ?_) (fun h => ?_) <;> (first | exact cndT h (by (try dsimp only); omega) | exact cndF h (by (try dsimp only); omega) | (exfalso; simp at h; omega) | simp at h | skip)) | refine kp ?_ ?_ | refine tw ?_ ?_ | exact trivial | refine side ?_ | refine sideL ?_ | refine Or.inr ?_ | refine sat_drawH (Tryz.ok ..) (by kernel_rfl) ?_ | refine xi _ (And.intro rfl rfl) ?_ | refine xi _ (fun _ => And.intro rfl rfl) ?_ | refine xi _ rfl ?_)
    refine calledQ_pure (.v (.int .i64 hi)) rfl (fun _ w' => by rw [hhi3]; exact hh2 w') ?_
    repeat' ((conv => whnf); first | refine walk (Tryz.ok ..) ?_ | (refine Cnd.mk (fun h => ?_) (fun h => ?_) <;> (first | exact cndT h (by (try dsimp only); omega) | exact cndF h (by (try dsimp only); omega) | (exfalso; simp at h; omega) | simp at h | skip)) | refine kp ?_ ?_ | refine tw ?_ ?_ | exact trivial | refine side ?_ | refine sideL ?_ | refine Or.inr ?_ | refine sat_drawH (Tryz.ok ..) (by kernel_rfl) ?_ | refine xi _ (And.intro rfl rfl) ?_ | refine xi _ (fun _ => And.intro rfl rfl) ?_ | refine xi _ rfl ?_)
    · refine ⟨i + 1, ⟨⟨by show ((i + 1 : Nat) : Int) ≤ _; omega, fun j hj => ?_⟩, by omega⟩, ?_, ?_, rfl⟩
      · rcases Nat.lt_or_ge j i with h1 | h1
        · exact i2 j h1
        · obtain rfl : j = i := by omega
          omega
      all_goals ((repeat' (first | exact trivial | exact rfl | refine And.intro ?_ ?_)) <;> (try (conv => whnf)) <;> (try simp only [SV.real, SV.r2, SV.r1]))
    refine calledQ_pure (.v (.int .i64 hi)) rfl (fun _ w' => by rw [hhi3]; exact hh2 w') ?_
    have hni : runs (winP t) a (n + 1) = if winP t (a + n) then addT (runs (winP t) a n) (a + n) else runs (winP t) a n := rfl
    repeat' ((conv => whnf); first | refine walk (Tryz.ok ..) ?_ | (refine Cnd.mk (fun h => ?_) (fun h => ?_) <;> (first | exact cndT h (by (try dsimp only); omega) | exact cndF h (by (try dsimp only); omega) | (exfalso; simp at h; omega) | simp at h | skip)) | refine kp ?_ ?_ | refine tw ?_ ?_ | exact trivial | refine side ?_ | refine sideL ?_ | refine Or.inr ?_ | refine sat_drawH (Tryz.ok ..) (by kernel_rfl) ?_ | refine xi _ (And.intro rfl rfl) ?_ | refine xi _ (fun _ => And.intro rfl rfl) ?_ | refine xi _ rfl ?_)
    · rw [winP_in (k := i) (by omega) (by omega), if_pos rfl] at hni
      refine radd_at (l := runs (winP t) a n) (A := A1) (cap := cap1) (x := a + n) rfl 70 [(3, .blk g3 71 (tdC t))] rfl ?_ (by omega) (by omega) ?_
      · ((repeat' (first | exact trivial | exact rfl | refine And.intro ?_ ?_)) <;> (try (conv => whnf)) <;> (try simp only [SV.real, SV.r2, SV.r1]))
      rw [← hni]
      intro A2 cap2
      repeat' ((conv => whnf); first | refine walk (Tryz.ok ..) ?_ | (refine Cnd.mk (fun h => ?_) (fun h => ?_) <;> (first | exact cndT h (by (try dsimp only); omega) | exact cndF h (by (try dsimp only); omega) | (exfalso; simp at h; omega) | simp at h | skip)) | refine kp ?_ ?_ | refine tw ?_ ?_ | exact trivial | refine side ?_ | refine sideL ?_ | refine Or.inr ?_ | refine sat_drawH (Tryz.ok ..) (by kernel_rfl) ?_ | refine xi _ (And.intro rfl rfl) ?_ | refine xi _ (fun _ => And.intro rfl rfl) ?_ | refine xi _ rfl ?_)
      refine ⟨(n + 1, i, A2, cap2), ⟨⟨by show a + ((n + 1 : Nat) : Int) ≤ b; omega, i1, fun j hj => by have := i2 j hj; dsimp only; omega⟩, by show (b - a).toNat - (n + 1) < (b - a).toNat - n; omega⟩, ?_, ?_, rfl⟩
      · dsimp only
        rw [show a + ((n + 1 : Nat) : Int) = a + n + 1 by omega]
        ((repeat' (first | exact trivial | exact rfl | refine And.intro ?_ ?_)) <;> (try (conv => whnf)) <;> (try simp only [SV.real, SV.r2, SV.r1]))
      · ((repeat' (first | exact trivial | exact rfl | refine And.intro ?_ ?_)) <;> (try (conv => whnf)) <;> (try simp only [SV.real, SV.r2, SV.r1]))
    · rw [winP_out hT (k := i) (by omega) i2] at hni
      simp only [Bool.false_eq_true, if_false] at hni
      refine ⟨(n + 1, i, A1, cap1), ⟨⟨by show a + ((n + 1 : Nat) : Int) ≤ b; omega, i1, fun j hj => by have := i2 j hj; dsimp only; omega⟩, by show (b - a).toNat - (n + 1) < (b - a).toNat - n; omega⟩, ?_, ?_, rfl⟩
      · dsimp only
        rw [show a + ((n + 1 : Nat) : Int) = a + n + 1 by omega, hni]
        ((repeat' (first | exact trivial | exact rfl | refine And.intro ?_ ?_)) <;> (try (conv => whnf)) <;> (try simp only [SV.real, SV.r2, SV.r1]))
      · dsimp only
        rw [hni]
        ((repeat' (first | exact trivial | exact rfl | refine And.intro ?_ ?_)) <;> (try (conv => whnf)) <;> (try simp only [SV.real, SV.r2, SV.r1]))
  · have hn : (b - a).toNat = n := by omega
    rw [hn] at hwn
    by_cases hle : (runs (winP t) a n).length ≤ 1000
    · repeat' ((conv => whnf); first | refine walk (Tryz.ok ..) ?_ | (refine Cnd.mk (fun h => ?_) (fun h => ?_) <;> (first | exact cndT h (by (try dsimp only); omega) | exact cndF h (by (try dsimp only); omega) | (exfalso; simp at h; omega) | simp at h | skip)) | refine kp ?_ ?_ | refine tw ?_ ?_ | exact trivial | refine side ?_ | refine sideL ?_ | refine Or.inr ?_ | refine sat_drawH (Tryz.ok ..) (by kernel_rfl) ?_ | refine xi _ (And.intro rfl rfl) ?_ | refine xi _ (fun _ => And.intro rfl rfl) ?_ | refine xi _ rfl ?_)
      obtain ⟨h3, h4⟩ := wn_yes hyes (by rw [hwn]; exact hle)
      rw [h3, h4, hwn]
      exact done_row (mk := fun v => .tuple #[v, .int .i64 0]) rfl rfl 70 A1 cap1 rfl rfl
    · repeat' ((conv => whnf); first | refine walk (Tryz.ok ..) ?_ | (refine Cnd.mk (fun h => ?_) (fun h => ?_) <;> (first | exact cndT h (by (try dsimp only); omega) | exact cndF h (by (try dsimp only); omega) | (exfalso; simp at h; omega) | simp at h | skip)) | refine kp ?_ ?_ | refine tw ?_ ?_ | exact trivial | refine side ?_ | refine sideL ?_ | refine Or.inr ?_ | refine sat_drawH (Tryz.ok ..) (by kernel_rfl) ?_ | refine xi _ (And.intro rfl rfl) ?_ | refine xi _ (fun _ => And.intro rfl rfl) ?_ | refine xi _ rfl ?_)
      obtain ⟨h3, h4⟩ := wn_many hyes (by rw [hwn]; exact hle)
      rw [h3, h4]
      exact done_nil (mk := fun v => .tuple #[v, .int .i64 5]) rfl rfl rfl
end Go.Proofs.YtmhfkmnpeponiaaGreatDoor
