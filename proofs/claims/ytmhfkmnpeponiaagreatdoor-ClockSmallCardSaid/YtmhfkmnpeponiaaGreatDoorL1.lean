/-
  The walks of the laws of the clock: spans that are compared, given, told, lent, and written over.
-/
import Derived.Test.YtmhfkmnpeponiaaGreatDoorC9
namespace Go.Proofs.YtmhfkmnpeponiaaGreatDoor
open Go Sat Go.RowKit Go.PlainAid
set_option linter.unusedSimpArgs false
set_option linter.unusedVariables false
set_option maxRecDepth 100000 in
set_option maxHeartbeats 8000000 in
theorem same_any (l : List Sp) (A B : Option (Nat × Nat)) (cA cB : Nat) (w : World) (hA : Ro w A l.length 2 (sps l)) (hB : Ro w B l.length 2 (sps l)) (hl : l.length ≤ 4611686018427387903) :
    Calls Tryz.prog 22 #[.slice (adr A) l.length cA, .slice (adr B) l.length cB] w fun e w' => e = .returned (.bool true) ∧ Below w.heap.size w w' := by
  refine calls_sat (cx := Tryz.cx 26 [] [] [] w) (Tryz.ok ..) Tryz.func22 rfl [.o 300 A l.length cA, .o 301 B l.length cB] rfl (by show 2 ≤ 26; omega) [(300, .ro A l.length 2 (sps l)), (301, .ro B l.length 2 (sps l))] (holds_ros rfl rfl ⟨hA, hB, trivial⟩) ?_
  repeat' ((conv => whnf); first | refine walk (Tryz.ok ..) ?_ | (refine Cnd.mk (fun h => ?_) (fun h => ?_) <;> (first | exact cndT h (by (try dsimp only); omega) | exact cndF h (by (try dsimp only); omega) | (exfalso; simp at h; omega) | simp at h | skip)) | refine kp ?_ ?_ | refine tw ?_ ?_ | exact trivial | refine side ?_ | refine sideL ?_ | refine Or.inr ?_ | refine sat_drawH (Tryz.ok ..) (by kernel_rfl) ?_ | refine xi _ (And.intro rfl rfl) ?_ | refine xi _ (fun _ => And.intro rfl rfl) ?_ | refine xi _ rfl ?_)
  refine sat_loop (Tryz.ok ..) (α := Nat) (fun k => ([(0, .yes, .o 300 A l.length cA), (1, .yes, .o 301 B l.length cB), (12, .yes, .v (.int .i64 l.length)), (13, .yes, .v (.int .i64 k))], [(300, .ro A l.length 2 (sps l)), (301, .ro B l.length 2 (sps l))])) (fun k => k ≤ l.length) (fun k => l.length - k) (fun _ => rfl) ?_ ?_
  · refine ⟨0, Nat.zero_le _, ?_, ?_, rfl⟩
    all_goals ((repeat' (first | exact trivial | exact rfl | refine And.intro ?_ ?_)) <;> (try (conv => whnf)) <;> (try simp only [SV.real, SV.r2, SV.r1]))
  intro k hk
  by_cases hk1 : k < l.length
  · obtain ⟨s, hs⟩ : ∃ s, l[k]? = some s := ⟨l[k], List.getElem?_eq_getElem hk1⟩
    repeat' ((conv => whnf); first | refine walk (Tryz.ok ..) ?_ | (refine Cnd.mk (fun h => ?_) (fun h => ?_) <;> (first | exact cndT h (by (try dsimp only); omega) | exact cndF h (by (try dsimp only); omega) | (exfalso; simp at h; omega) | simp at h | skip)) | refine kp ?_ ?_ | refine tw ?_ ?_ | exact trivial | refine side ?_ | refine sideL ?_ | refine Or.inr ?_ | refine sat_drawH (Tryz.ok ..) (by kernel_rfl) ?_ | refine xi _ (And.intro rfl rfl) ?_ | refine xi _ (fun _ => And.intro rfl rfl) ?_ | refine xi _ rfl ?_ | refine xi _ (fun _ => (at_s hs rfl)) ?_ | refine xi _ (at_s hs rfl) ?_)
    refine eqAgg_neq _ Tryz.eqg25 (fun w => Tryz.eq25 _ _ _ _ w) ?_
    simp only [beq_self_eq_true, Bool.and_true]
    repeat' ((conv => whnf); first | refine walk (Tryz.ok ..) ?_ | (refine Cnd.mk (fun h => ?_) (fun h => ?_) <;> (first | exact cndT h (by (try dsimp only); omega) | exact cndF h (by (try dsimp only); omega) | (exfalso; simp at h; omega) | simp at h | skip)) | refine kp ?_ ?_ | refine tw ?_ ?_ | exact trivial | refine side ?_ | refine sideL ?_ | refine Or.inr ?_ | refine sat_drawH (Tryz.ok ..) (by kernel_rfl) ?_ | refine xi _ (And.intro rfl rfl) ?_ | refine xi _ (fun _ => And.intro rfl rfl) ?_ | refine xi _ rfl ?_)
    refine ⟨k + 1, ⟨by omega, by omega⟩, ?_, ?_, rfl⟩
    all_goals ((repeat' (first | exact trivial | exact rfl | refine And.intro ?_ ?_)) <;> (try (conv => whnf)) <;> (try simp only [SV.real, SV.r2, SV.r1]))
  · obtain rfl : k = l.length := by omega
    repeat' ((conv => whnf); first | refine walk (Tryz.ok ..) ?_ | (refine Cnd.mk (fun h => ?_) (fun h => ?_) <;> (first | exact cndT h (by (try dsimp only); omega) | exact cndF h (by (try dsimp only); omega) | (exfalso; simp at h; omega) | simp at h | skip)) | refine kp ?_ ?_ | refine tw ?_ ?_ | exact trivial | refine side ?_ | refine sideL ?_ | refine Or.inr ?_ | refine sat_drawH (Tryz.ok ..) (by kernel_rfl) ?_ | refine xi _ (And.intro rfl rfl) ?_ | refine xi _ (fun _ => And.intro rfl rfl) ?_ | refine xi _ rfl ?_)
    exact done_pure rfl rfl rfl
set_option maxRecDepth 100000 in
set_option maxHeartbeats 8000000 in
theorem given_any (l : List Sp) (A : Option (Nat × Nat)) (cap : Nat) (w : World) (hA : Ro w A l.length 2 (sps l)) (hl : l.length ≤ 1000000000000) :
    Calls Tryz.prog 12 #[.slice (adr A) l.length cap] w fun e w' => ∃ v, e = .returned v ∧ w'.ownsRow w.heap.size 81 2 v l.length (sps l) ∧ Below w.heap.size w w' := by
  refine calls_sat (cx := Tryz.cx 18 [] [] [] w) (Tryz.ok ..) Tryz.func12 rfl [.o 300 A l.length cap] rfl (by show 1 ≤ 18; omega) [(300, .ro A l.length 2 (sps l))] (holds_ros rfl rfl ⟨hA, trivial⟩) ?_
  repeat' ((conv => whnf); first | refine walk (Tryz.ok ..) ?_ | (refine Cnd.mk (fun h => ?_) (fun h => ?_) <;> (first | exact cndT h (by (try dsimp only); omega) | exact cndF h (by (try dsimp only); omega) | (exfalso; simp at h; omega) | simp at h | skip)) | refine kp ?_ ?_ | refine tw ?_ ?_ | exact trivial | refine side ?_ | refine sideL ?_ | refine Or.inr ?_ | refine sat_drawH (Tryz.ok ..) (by kernel_rfl) ?_ | refine xi _ (And.intro rfl rfl) ?_ | refine xi _ (fun _ => And.intro rfl rfl) ?_ | refine xi _ rfl ?_)
  refine sat_loop (Tryz.ok ..) (α := Nat × Option (Nat × Nat) × Nat) (fun s => ([(3, .yes, .o 15 s.2.1 s.1 s.2.2), (6, .yes, .o 300 A l.length cap), (7, .yes, .v (.int .i64 l.length)), (8, .yes, .v (.int .i64 s.1))],
      [(15, .row s.2.1 81 2 s.1 s.2.2 (sps (l.take s.1))), (300, .ro A l.length 2 (sps l))])) (fun s => s.1 ≤ l.length) (fun s => l.length - s.1) (fun _ => rfl) ?_ ?_
  · refine ⟨(0, none, 0), Nat.zero_le _, ?_, ?_, rfl⟩
    all_goals ((repeat' (first | exact trivial | exact rfl | refine And.intro ?_ ?_)) <;> (try (conv => whnf)) <;> (try simp only [SV.real, SV.r2, SV.r1]))
  rintro ⟨k, A1, cap1⟩ hk
  dsimp only at hk
  by_cases hk1 : k < l.length
  · obtain ⟨s, hs⟩ : ∃ s, l[k]? = some s := ⟨l[k], List.getElem?_eq_getElem hk1⟩
    have hnx : sps (l.take (k + 1)) = sps (l.take k) ++ [.int .i64 s.f, .int .i64 s.t] := by
      rw [List.take_add_one, hs, Option.toList_some, sps_app]
      rfl
    repeat' ((conv => whnf); first | refine walk (Tryz.ok ..) ?_ | (refine Cnd.mk (fun h => ?_) (fun h => ?_) <;> (first | exact cndT h (by (try dsimp only); omega) | exact cndF h (by (try dsimp only); omega) | (exfalso; simp at h; omega) | simp at h | skip)) | refine kp ?_ ?_ | refine tw ?_ ?_ | exact trivial | refine side ?_ | refine sideL ?_ | refine Or.inr ?_ | refine sat_drawH (Tryz.ok ..) (by kernel_rfl) ?_ | refine xi _ (And.intro rfl rfl) ?_ | refine xi _ (fun _ => And.intro rfl rfl) ?_ | refine xi _ rfl ?_ | refine xi _ (fun _ => (at_s hs rfl)) ?_ | refine xi _ (at_s hs rfl) ?_)
    intro g5 hg5
    repeat' ((conv => whnf); first | refine walk (Tryz.ok ..) ?_ | (refine Cnd.mk (fun h => ?_) (fun h => ?_) <;> (first | exact cndT h (by (try dsimp only); omega) | exact cndF h (by (try dsimp only); omega) | (exfalso; simp at h; omega) | simp at h | skip)) | refine kp ?_ ?_ | refine tw ?_ ?_ | exact trivial | refine side ?_ | refine sideL ?_ | refine Or.inr ?_ | refine sat_drawH (Tryz.ok ..) (by kernel_rfl) ?_ | refine xi _ (And.intro rfl rfl) ?_ | refine xi _ (fun _ => And.intro rfl rfl) ?_ | refine xi _ rfl ?_)
    intro g14 hg14
    repeat' ((conv => whnf); first | refine walk (Tryz.ok ..) ?_ | (refine Cnd.mk (fun h => ?_) (fun h => ?_) <;> (first | exact cndT h (by (try dsimp only); omega) | exact cndF h (by (try dsimp only); omega) | (exfalso; simp at h; omega) | simp at h | skip)) | refine kp ?_ ?_ | refine tw ?_ ?_ | exact trivial | refine side ?_ | refine sideL ?_ | refine Or.inr ?_ | refine sat_drawH (Tryz.ok ..) (by kernel_rfl) ?_ | refine xi _ (And.intro rfl rfl) ?_ | refine xi _ (fun _ => And.intro rfl rfl) ?_ | refine xi _ rfl ?_)
    intro A2 cap2
    repeat' ((conv => whnf); first | refine walk (Tryz.ok ..) ?_ | (refine Cnd.mk (fun h => ?_) (fun h => ?_) <;> (first | exact cndT h (by (try dsimp only); omega) | exact cndF h (by (try dsimp only); omega) | (exfalso; simp at h; omega) | simp at h | skip)) | refine kp ?_ ?_ | refine tw ?_ ?_ | exact trivial | refine side ?_ | refine sideL ?_ | refine Or.inr ?_ | refine sat_drawH (Tryz.ok ..) (by kernel_rfl) ?_ | refine xi _ (And.intro rfl rfl) ?_ | refine xi _ (fun _ => And.intro rfl rfl) ?_ | refine xi _ rfl ?_)
    refine ⟨(k + 1, A2, cap2), ⟨by show k + 1 ≤ l.length; omega, by show l.length - (k + 1) < l.length - k; omega⟩, ?_, ?_, rfl⟩
    · ((repeat' (first | exact trivial | exact rfl | refine And.intro ?_ ?_)) <;> (try (conv => whnf)) <;> (try simp only [SV.real, SV.r2, SV.r1]))
    · dsimp only
      rw [hnx]
      ((repeat' (first | exact trivial | exact rfl | refine And.intro ?_ ?_)) <;> (try (conv => whnf)) <;> (try simp only [SV.real, SV.r2, SV.r1]))
  · obtain rfl : k = l.length := by omega
    repeat' ((conv => whnf); first | refine walk (Tryz.ok ..) ?_ | (refine Cnd.mk (fun h => ?_) (fun h => ?_) <;> (first | exact cndT h (by (try dsimp only); omega) | exact cndF h (by (try dsimp only); omega) | (exfalso; simp at h; omega) | simp at h | skip)) | refine kp ?_ ?_ | refine tw ?_ ?_ | exact trivial | refine side ?_ | refine sideL ?_ | refine Or.inr ?_ | refine sat_drawH (Tryz.ok ..) (by kernel_rfl) ?_ | refine xi _ (And.intro rfl rfl) ?_ | refine xi _ (fun _ => And.intro rfl rfl) ?_ | refine xi _ rfl ?_)
    rw [List.take_length]
    exact done_row (mk := fun v => v) rfl rfl 15 A1 cap1 rfl rfl
set_option maxRecDepth 100000 in
set_option maxHeartbeats 8000000 in
theorem tell_any (l : List Sp) (A : Option (Nat × Nat)) (cap : Nat) (w : World) (hA : Ro w A l.length 2 (sps l)) (hl : l.length ≤ 1000000000000) :
    Calls Tryz.prog 23 #[.slice (adr A) l.length cap] w fun e w' => ∃ v, e = .returned v ∧ w'.ownsRow w.heap.size 25 2 v l.length (sps l) ∧ Below w.heap.size w w' := by
  refine calls_sat (cx := Tryz.cx 18 [] [] [] w) (Tryz.ok ..) Tryz.func23 rfl [.o 300 A l.length cap] rfl (by show 1 ≤ 18; omega) [(300, .ro A l.length 2 (sps l))] (holds_ros rfl rfl ⟨hA, trivial⟩) ?_
  repeat' ((conv => whnf); first | refine walk (Tryz.ok ..) ?_ | (refine Cnd.mk (fun h => ?_) (fun h => ?_) <;> (first | exact cndT h (by (try dsimp only); omega) | exact cndF h (by (try dsimp only); omega) | (exfalso; simp at h; omega) | simp at h | skip)) | refine kp ?_ ?_ | refine tw ?_ ?_ | exact trivial | refine side ?_ | refine sideL ?_ | refine Or.inr ?_ | refine sat_drawH (Tryz.ok ..) (by kernel_rfl) ?_ | refine xi _ (And.intro rfl rfl) ?_ | refine xi _ (fun _ => And.intro rfl rfl) ?_ | refine xi _ rfl ?_)
  refine sat_loop (Tryz.ok ..) (α := Nat × Option (Nat × Nat) × Nat) (fun s => ([(3, .yes, .o 15 s.2.1 s.1 s.2.2), (6, .yes, .o 300 A l.length cap), (7, .yes, .v (.int .i64 l.length)), (8, .yes, .v (.int .i64 s.1))],
      [(15, .row s.2.1 25 2 s.1 s.2.2 (sps (l.take s.1))), (300, .ro A l.length 2 (sps l))])) (fun s => s.1 ≤ l.length) (fun s => l.length - s.1) (fun _ => rfl) ?_ ?_
  · refine ⟨(0, none, 0), Nat.zero_le _, ?_, ?_, rfl⟩
    all_goals ((repeat' (first | exact trivial | exact rfl | refine And.intro ?_ ?_)) <;> (try (conv => whnf)) <;> (try simp only [SV.real, SV.r2, SV.r1]))
  rintro ⟨k, A1, cap1⟩ hk
  dsimp only at hk
  by_cases hk1 : k < l.length
  · obtain ⟨s, hs⟩ : ∃ s, l[k]? = some s := ⟨l[k], List.getElem?_eq_getElem hk1⟩
    have hnx : sps (l.take (k + 1)) = sps (l.take k) ++ [.int .i64 s.f, .int .i64 s.t] := by
      rw [List.take_add_one, hs, Option.toList_some, sps_app]
      rfl
    repeat' ((conv => whnf); first | refine walk (Tryz.ok ..) ?_ | (refine Cnd.mk (fun h => ?_) (fun h => ?_) <;> (first | exact cndT h (by (try dsimp only); omega) | exact cndF h (by (try dsimp only); omega) | (exfalso; simp at h; omega) | simp at h | skip)) | refine kp ?_ ?_ | refine tw ?_ ?_ | exact trivial | refine side ?_ | refine sideL ?_ | refine Or.inr ?_ | refine sat_drawH (Tryz.ok ..) (by kernel_rfl) ?_ | refine xi _ (And.intro rfl rfl) ?_ | refine xi _ (fun _ => And.intro rfl rfl) ?_ | refine xi _ rfl ?_ | refine xi _ (fun _ => (at_s hs rfl)) ?_ | refine xi _ (at_s hs rfl) ?_)
    intro g5 hg5
    repeat' ((conv => whnf); first | refine walk (Tryz.ok ..) ?_ | (refine Cnd.mk (fun h => ?_) (fun h => ?_) <;> (first | exact cndT h (by (try dsimp only); omega) | exact cndF h (by (try dsimp only); omega) | (exfalso; simp at h; omega) | simp at h | skip)) | refine kp ?_ ?_ | refine tw ?_ ?_ | exact trivial | refine side ?_ | refine sideL ?_ | refine Or.inr ?_ | refine sat_drawH (Tryz.ok ..) (by kernel_rfl) ?_ | refine xi _ (And.intro rfl rfl) ?_ | refine xi _ (fun _ => And.intro rfl rfl) ?_ | refine xi _ rfl ?_)
    intro g14 hg14
    repeat' ((conv => whnf); first | refine walk (Tryz.ok ..) ?_ | (refine Cnd.mk (fun h => ?_) (fun h => ?_) <;> (first | exact cndT h (by (try dsimp only); omega) | exact cndF h (by (try dsimp only); omega) | (exfalso; simp at h; omega) | simp at h | skip)) | refine kp ?_ ?_ | refine tw ?_ ?_ | exact trivial | refine side ?_ | refine sideL ?_ | refine Or.inr ?_ | refine sat_drawH (Tryz.ok ..) (by kernel_rfl) ?_ | refine xi _ (And.intro rfl rfl) ?_ | refine xi _ (fun _ => And.intro rfl rfl) ?_ | refine xi _ rfl ?_)
    intro A2 cap2
    repeat' ((conv => whnf); first | refine walk (Tryz.ok ..) ?_ | (refine Cnd.mk (fun h => ?_) (fun h => ?_) <;> (first | exact cndT h (by (try dsimp only); omega) | exact cndF h (by (try dsimp only); omega) | (exfalso; simp at h; omega) | simp at h | skip)) | refine kp ?_ ?_ | refine tw ?_ ?_ | exact trivial | refine side ?_ | refine sideL ?_ | refine Or.inr ?_ | refine sat_drawH (Tryz.ok ..) (by kernel_rfl) ?_ | refine xi _ (And.intro rfl rfl) ?_ | refine xi _ (fun _ => And.intro rfl rfl) ?_ | refine xi _ rfl ?_)
    refine ⟨(k + 1, A2, cap2), ⟨by show k + 1 ≤ l.length; omega, by show l.length - (k + 1) < l.length - k; omega⟩, ?_, ?_, rfl⟩
    · ((repeat' (first | exact trivial | exact rfl | refine And.intro ?_ ?_)) <;> (try (conv => whnf)) <;> (try simp only [SV.real, SV.r2, SV.r1]))
    · dsimp only
      rw [hnx]
      ((repeat' (first | exact trivial | exact rfl | refine And.intro ?_ ?_)) <;> (try (conv => whnf)) <;> (try simp only [SV.real, SV.r2, SV.r1]))
  · obtain rfl : k = l.length := by omega
    repeat' ((conv => whnf); first | refine walk (Tryz.ok ..) ?_ | (refine Cnd.mk (fun h => ?_) (fun h => ?_) <;> (first | exact cndT h (by (try dsimp only); omega) | exact cndF h (by (try dsimp only); omega) | (exfalso; simp at h; omega) | simp at h | skip)) | refine kp ?_ ?_ | refine tw ?_ ?_ | exact trivial | refine side ?_ | refine sideL ?_ | refine Or.inr ?_ | refine sat_drawH (Tryz.ok ..) (by kernel_rfl) ?_ | refine xi _ (And.intro rfl rfl) ?_ | refine xi _ (fun _ => And.intro rfl rfl) ?_ | refine xi _ rfl ?_)
    rw [List.take_length]
    exact done_row (mk := fun v => v) rfl rfl 15 A1 cap1 rfl rfl
/-- what lies behind spans that are lent -/
def nine : List Sp := [⟨-7, 0⟩, ⟨-8, 3⟩, ⟨-9, 6⟩, ⟨-10, 9⟩, ⟨-11, 12⟩, ⟨-12, 15⟩, ⟨-13, 18⟩, ⟨-14, 21⟩, ⟨-15, 24⟩]
theorem sps_all (l : List Sp) : allV (sps l) = true := by
  refine allV_of fun u hu => ?_
  obtain ⟨s, _, hu⟩ := List.mem_flatMap.1 hu
  simp only [sC, List.mem_cons, List.not_mem_nil, or_false] at hu
  rcases hu with rfl | rfl <;> rfl
theorem nine_at {k : Nat} (h : k < 9) : nine[k]? = some ⟨-7 - k, 3 * k⟩ := by
  match k, h with
  | 0, _ => rfl
  | 1, _ => rfl
  | 2, _ => rfl
  | 3, _ => rfl
  | 4, _ => rfl
  | 5, _ => rfl
  | 6, _ => rfl
  | 7, _ => rfl
  | 8, _ => rfl
/-- a slice of the function's own that is shorter than its row -/
theorem done_short {cx : Cx} {v : SV} {H : Heap} {e size m k : Nat} {xs xs' : List Value} {mk : Value → Value} (hn : cx.n0 = cx.W.heap.size) (hM : cx.M = []) (d : Nat) (A : Option (Nat × Nat)) (cap : Nat) (hf : hfind H d = some (.row A e size m cap xs')) (hx : xs' = xs) (h : v.real = mk (.slice (adr A) k cap)) :
    Done cx (fun e' w' => ∃ A, e' = .returned (mk (.slice (adr A) k cap)) ∧ w'.ownsRow cx.W.heap.size e size (.slice (adr A) m cap) m xs ∧ Below cx.W.heap.size cx.W w') v H :=
  ⟨fun w hw => ⟨A, by rw [h], (by
    have h1 : (HB.row A e size m cap xs').holds cx w := hw.at_ hf
    rw [← hn, ← hx]
    exact h1), below_of hn hM hw⟩⟩
/-- a callee that returns a slice of its own that is shorter than its row -/
theorem called_short {cx : Cx} {n : Nat} {args : List SV} {H : Heap} {K : SV → Heap → Prop} (d : Nat) {e size m k cap : Nat} {xs : List Value} (mk : Value → Value) (r : Option (Nat × Nat) → SV) (hr : ∀ A, (r A).real = mk (.slice (adr A) k cap))
    (h : ∀ w, Holds cx H w → Calls cx.P n (args.map SV.real).toArray w fun e' w' => ∃ A, e' = .returned (mk (.slice (adr A) k cap)) ∧ w'.ownsRow w.heap.size e size (.slice (adr A) m cap) m xs ∧ Below w.heap.size w w')
    (hk : ∀ A, K (r A) ((d, .row A e size m cap xs) :: hdel H d)) : Called cx n args H K :=
  ⟨fun w hw => (h w hw).mono fun _ w' ⟨A, he, hv, hb⟩ => ⟨r A, _, by rw [he, hr], hw.fresh hb d hv, hk A⟩⟩
set_option maxRecDepth 100000 in
set_option maxHeartbeats 8000000 in
theorem lent_any (l : List Sp) (A : Option (Nat × Nat)) (cap : Nat) (w : World) (hA : Ro w A l.length 2 (sps l)) (hl : l.length ≤ 1000000000000) :
    Calls Tryz.prog 13 #[.slice (adr A) l.length cap] w fun e w' => ∃ A, e = .returned (.slice (adr A) l.length (l.length + 9)) ∧ w'.ownsRow w.heap.size 25 2 (.slice (adr A) (l.length + 9) (l.length + 9)) (l.length + 9) (sps (l ++ nine)) ∧ Below w.heap.size w w' := by
  refine calls_sat (cx := Tryz.cx 27 [] [] [] w) (Tryz.ok ..) Tryz.func13 rfl [.o 300 A l.length cap] rfl (by show 1 ≤ 27; omega) [(300, .ro A l.length 2 (sps l))] (holds_ros rfl rfl ⟨hA, trivial⟩) ?_
  have hsl := sps_len l
  have hall := sps_all l
  have htk : (sps l).take (l.length * 2) = sps l := by rw [← hsl]; exact List.take_length
  have hall2 : allV ((sps l).take (l.length * 2)) = true := by rw [htk]; exact hall
  repeat' ((conv => whnf); first | refine walk (Tryz.ok ..) ?_ | (refine Cnd.mk (fun h => ?_) (fun h => ?_) <;> (first | exact cndT h (by (try dsimp only); omega) | exact cndF h (by (try dsimp only); omega) | (exfalso; simp at h; omega) | simp at h | skip)) | refine kp ?_ ?_ | refine tw ?_ ?_ | exact trivial | refine side ?_ | refine sideL ?_ | refine Or.inr ?_ | refine sat_drawH (Tryz.ok ..) (by kernel_rfl) ?_ | refine xi _ (And.intro rfl rfl) ?_ | refine xi _ (fun _ => And.intro rfl rfl) ?_ | refine xi _ rfl ?_)
  intro g hg
  repeat' ((conv => whnf); first | refine walk (Tryz.ok ..) ?_ | (refine Cnd.mk (fun h => ?_) (fun h => ?_) <;> (first | exact cndT h (by (try dsimp only); omega) | exact cndF h (by (try dsimp only); omega) | (exfalso; simp at h; omega) | simp at h | skip)) | refine kp ?_ ?_ | refine tw ?_ ?_ | exact trivial | refine side ?_ | refine sideL ?_ | refine Or.inr ?_ | refine sat_drawH (Tryz.ok ..) (by kernel_rfl) ?_ | refine xi _ (And.intro rfl rfl) ?_ | refine xi _ (fun _ => And.intro rfl rfl) ?_ | refine xi _ rfl ?_)
  refine sat_loop (Tryz.ok ..) (α := Nat) (fun k => ([(0, .yes, .o 300 A l.length cap), (3, .yes, .o 8 (some (g, 0)) (l.length + k) (l.length + 9)), (4, .yes, .v (.int .i64 k))],
      [(8, .row (some (g, 0)) 25 2 (l.length + k) (l.length + 9) (sps (l ++ nine.take k))), (300, .ro A l.length 2 (sps l))])) (fun k => k ≤ 9) (fun k => 9 - k) (fun _ => rfl) ?_ ?_
  · refine ⟨0, Nat.zero_le _, ?_, ?_, rfl⟩
    · dsimp only
      ((repeat' (first | exact trivial | exact rfl | refine And.intro ?_ ?_)) <;> (try (conv => whnf)) <;> (try simp only [SV.real, SV.r2, SV.r1]))
      rw [show Int.toNat 0 + l.length = l.length + 0 from Nat.zero_add _, show ((l.length : Int) + 9).toNat = l.length + 9 by omega]
    · dsimp only
      rw [show nine.take 0 = [] from rfl, List.append_nil]
      ((repeat' (first | exact trivial | exact rfl | refine And.intro ?_ ?_)) <;> (try (conv => whnf)) <;> (try simp only [SV.real, SV.r2, SV.r1]))
      · exact Nat.zero_add _
      · rw [show (madeCells (Value.agg #[.int .i64 0, .int .i64 0]).cells (Int.toNat 0 * 2)).toList = [] by simp [madeCells]]
        exact htk
  intro k hk
  by_cases hk1 : k < 9
  · have hnx : sps (l ++ nine.take (k + 1)) = sps (l ++ nine.take k) ++ [.int .i64 (-7 - k), .int .i64 (3 * k)] := by
      rw [List.take_add_one, nine_at hk1, Option.toList_some, ← List.append_assoc, sps_app (l ++ nine.take k)]
      rfl
    repeat' ((conv => whnf); first | refine walk (Tryz.ok ..) ?_ | (refine Cnd.mk (fun h => ?_) (fun h => ?_) <;> (first | exact cndT h (by (try dsimp only); omega) | exact cndF h (by (try dsimp only); omega) | (exfalso; simp at h; omega) | simp at h | skip)) | refine kp ?_ ?_ | refine tw ?_ ?_ | exact trivial | refine side ?_ | refine sideL ?_ | refine Or.inr ?_ | refine sat_drawH (Tryz.ok ..) (by kernel_rfl) ?_ | refine xi _ (And.intro rfl rfl) ?_ | refine xi _ (fun _ => And.intro rfl rfl) ?_ | refine xi _ rfl ?_)
    intro g21 hg21
    repeat' ((conv => whnf); first | refine walk (Tryz.ok ..) ?_ | (refine Cnd.mk (fun h => ?_) (fun h => ?_) <;> (first | exact cndT h (by (try dsimp only); omega) | exact cndF h (by (try dsimp only); omega) | (exfalso; simp at h; omega) | simp at h | skip)) | refine kp ?_ ?_ | refine tw ?_ ?_ | exact trivial | refine side ?_ | refine sideL ?_ | refine Or.inr ?_ | refine sat_drawH (Tryz.ok ..) (by kernel_rfl) ?_ | refine xi _ (And.intro rfl rfl) ?_ | refine xi _ (fun _ => And.intro rfl rfl) ?_ | refine xi _ rfl ?_)
    refine ⟨k + 1, ⟨by omega, by omega⟩, ?_, ?_, rfl⟩
    · ((repeat' (first | exact trivial | exact rfl | refine And.intro ?_ ?_)) <;> (try (conv => whnf)) <;> (try simp only [SV.real, SV.r2, SV.r1]))
    · dsimp only
      rw [hnx]
      ((repeat' (first | exact trivial | exact rfl | refine And.intro ?_ ?_)) <;> (try (conv => whnf)) <;> (try simp only [SV.real, SV.r2, SV.r1]))
  · obtain rfl : k = 9 := by omega
    repeat' ((conv => whnf); first | refine walk (Tryz.ok ..) ?_ | (refine Cnd.mk (fun h => ?_) (fun h => ?_) <;> (first | exact cndT h (by (try dsimp only); omega) | exact cndF h (by (try dsimp only); omega) | (exfalso; simp at h; omega) | simp at h | skip)) | refine kp ?_ ?_ | refine tw ?_ ?_ | exact trivial | refine side ?_ | refine sideL ?_ | refine Or.inr ?_ | refine sat_drawH (Tryz.ok ..) (by kernel_rfl) ?_ | refine xi _ (And.intro rfl rfl) ?_ | refine xi _ (fun _ => And.intro rfl rfl) ?_ | refine xi _ rfl ?_)
    exact done_short (mk := fun v => v) rfl rfl 8 (some (g, 0)) _ rfl rfl rfl
theorem take_lent (l : List Sp) : (sps (l ++ nine)).take (l.length * 2) = sps l := by
  rw [sps_app, ← sps_len, List.take_left]
theorem ro_lent {w : World} {l : List Sp} {A : Option (Nat × Nat)} (h : Ro w A (l.length + 9) 2 (sps (l ++ nine))) : Ro w A l.length 2 (sps l) := by
  have := h.take_ (m := l.length) (by omega)
  rw [take_lent] at this
  exact this
set_option maxRecDepth 100000 in
set_option maxHeartbeats 8000000 in
theorem kept_any (l : List Sp) (A B : Option (Nat × Nat)) (cB : Nat) (w : World) (hA : Ro w A (l.length + 9) 2 (sps (l ++ nine))) (hB : Ro w B l.length 2 (sps l)) (hl : l.length ≤ 4611686018427387903) :
    Calls Tryz.prog 20 #[.slice (adr A) l.length (l.length + 9), .slice (adr B) l.length cB] w fun e w' => e = .returned (.bool true) ∧ Below w.heap.size w w' := by
  refine calls_sat (cx := Tryz.cx 32 [] [] [] w) (Tryz.ok ..) Tryz.func20 rfl [.o 300 A l.length (l.length + 9), .o 301 B l.length cB] rfl (by show 2 ≤ 32; omega) [(300, .ro A (l.length + 9) 2 (sps (l ++ nine))), (301, .ro B l.length 2 (sps l))] (holds_ros rfl rfl ⟨hA, hB, trivial⟩) ?_
  obtain ⟨p, rfl, _, _⟩ := hA.2 (by omega)
  repeat' ((conv => whnf); first | refine walk (Tryz.ok ..) ?_ | (refine Cnd.mk (fun h => ?_) (fun h => ?_) <;> (first | exact cndT h (by (try dsimp only); omega) | exact cndF h (by (try dsimp only); omega) | (exfalso; simp at h; omega) | simp at h | skip)) | refine kp ?_ ?_ | refine tw ?_ ?_ | exact trivial | refine side ?_ | refine sideL ?_ | refine Or.inr ?_ | refine sat_drawH (Tryz.ok ..) (by kernel_rfl) ?_ | refine xi _ (And.intro rfl rfl) ?_ | refine xi _ (fun _ => And.intro rfl rfl) ?_ | refine xi _ rfl ?_)
  refine called_at (.v (.bool true)) rfl (fun w' hh => same_any l (some p) B _ cB w' (ro_lent (ro_of_ro hh (id := 300) rfl)) (ro_of_ro hh (id := 301) rfl) hl) ?_
  repeat' ((conv => whnf); first | refine walk (Tryz.ok ..) ?_ | (refine Cnd.mk (fun h => ?_) (fun h => ?_) <;> (first | exact cndT h (by (try dsimp only); omega) | exact cndF h (by (try dsimp only); omega) | (exfalso; simp at h; omega) | simp at h | skip)) | refine kp ?_ ?_ | refine tw ?_ ?_ | exact trivial | refine side ?_ | refine sideL ?_ | refine Or.inr ?_ | refine sat_drawH (Tryz.ok ..) (by kernel_rfl) ?_ | refine xi _ (And.intro rfl rfl) ?_ | refine xi _ (fun _ => And.intro rfl rfl) ?_ | refine xi _ rfl ?_)
  refine And.intro ⟨by omega, by omega, by omega, rfl⟩ ?_
  repeat' ((conv => whnf); first | refine walk (Tryz.ok ..) ?_ | (refine Cnd.mk (fun h => ?_) (fun h => ?_) <;> (first | exact cndT h (by (try dsimp only); omega) | exact cndF h (by (try dsimp only); omega) | (exfalso; simp at h; omega) | simp at h | skip)) | refine kp ?_ ?_ | refine tw ?_ ?_ | exact trivial | refine side ?_ | refine sideL ?_ | refine Or.inr ?_ | refine sat_drawH (Tryz.ok ..) (by kernel_rfl) ?_ | refine xi _ (And.intro rfl rfl) ?_ | refine xi _ (fun _ => And.intro rfl rfl) ?_ | refine xi _ rfl ?_)
  obtain ⟨off, hoff⟩ : ∃ off, off = (if l.length + 9 = ((l.length : Int)).toNat then 0 else mulS ((l.length : Int)).toNat 2) := ⟨_, rfl⟩
  obtain ⟨m, hm⟩ : ∃ m, m = ((l.length : Int) + 9 - (l.length : Int)).toNat := ⟨_, rfl⟩
  have hm9 : m = 9 := by omega
  have ho : off = l.length * 2 := by rw [hoff, if_neg (by omega), mulS_eq, Int.toNat_natCast]
  refine sat_loop (Tryz.ok ..) (α := Nat) (fun k => ([(17, .yes, .s 300 p.1 p.2 off m (l.length + 9 - ((l.length : Int)).toNat)), (18, .yes, .v (.int .i64 m)), (19, .yes, .v (.int .i64 k))], [(300, .ro (some p) (l.length + 9) 2 (sps (l ++ nine)))])) (fun k => k ≤ m) (fun k => m - k) (fun _ => rfl) ?_ ?_
  · refine ⟨0, Nat.zero_le _, ?_, ?_, rfl⟩
    · subst hm hoff
      ((repeat' (first | exact trivial | exact rfl | refine And.intro ?_ ?_)) <;> (try (conv => whnf)) <;> (try simp only [SV.real, SV.r2, SV.r1]))
    · ((repeat' (first | exact trivial | exact rfl | refine And.intro ?_ ?_)) <;> (try (conv => whnf)) <;> (try simp only [SV.real, SV.r2, SV.r1]))
  intro k hk
  by_cases hk1 : k < m
  · have hs : (l ++ nine)[l.length + k]? = some ⟨-7 - k, 3 * k⟩ := by
      rw [List.getElem?_append_right (by omega), Nat.add_sub_cancel_left]
      exact nine_at (by omega)
    repeat' ((conv => whnf); first | refine walk (Tryz.ok ..) ?_ | (refine Cnd.mk (fun h => ?_) (fun h => ?_) <;> (first | exact cndT h (by (try dsimp only); omega) | exact cndF h (by (try dsimp only); omega) | (exfalso; simp at h; omega) | simp at h | skip)) | refine kp ?_ ?_ | refine tw ?_ ?_ | exact trivial | refine side ?_ | refine sideL ?_ | refine Or.inr ?_ | refine sat_drawH (Tryz.ok ..) (by kernel_rfl) ?_ | refine xi _ (And.intro rfl rfl) ?_ | refine xi _ (fun _ => And.intro rfl rfl) ?_ | refine xi _ rfl ?_ | refine xi _ (fun _ => (at_d hs ho)) ?_ | refine xi _ (at_d hs ho) ?_)
    intro g6 hg6
    repeat' ((conv => whnf); first | refine walk (Tryz.ok ..) ?_ | (refine Cnd.mk (fun h => ?_) (fun h => ?_) <;> (first | exact cndT h (by (try dsimp only); omega) | exact cndF h (by (try dsimp only); omega) | (exfalso; simp at h; omega) | simp at h | skip)) | refine kp ?_ ?_ | refine tw ?_ ?_ | exact trivial | refine side ?_ | refine sideL ?_ | refine Or.inr ?_ | refine sat_drawH (Tryz.ok ..) (by kernel_rfl) ?_ | refine xi _ (And.intro rfl rfl) ?_ | refine xi _ (fun _ => And.intro rfl rfl) ?_ | refine xi _ rfl ?_)
    refine eqAgg_neq _ Tryz.eqg25 (fun w => Tryz.eq25 _ _ _ _ w) ?_
    simp only [beq_self_eq_true, Bool.and_true]
    repeat' ((conv => whnf); first | refine walk (Tryz.ok ..) ?_ | (refine Cnd.mk (fun h => ?_) (fun h => ?_) <;> (first | exact cndT h (by (try dsimp only); omega) | exact cndF h (by (try dsimp only); omega) | (exfalso; simp at h; omega) | simp at h | skip)) | refine kp ?_ ?_ | refine tw ?_ ?_ | exact trivial | refine side ?_ | refine sideL ?_ | refine Or.inr ?_ | refine sat_drawH (Tryz.ok ..) (by kernel_rfl) ?_ | refine xi _ (And.intro rfl rfl) ?_ | refine xi _ (fun _ => And.intro rfl rfl) ?_ | refine xi _ rfl ?_)
    refine ⟨k + 1, ⟨by omega, by omega⟩, ?_, ?_, rfl⟩
    all_goals ((repeat' (first | exact trivial | exact rfl | refine And.intro ?_ ?_)) <;> (try (conv => whnf)) <;> (try simp only [SV.real, SV.r2, SV.r1]))
  · obtain rfl : k = m := by omega
    repeat' ((conv => whnf); first | refine walk (Tryz.ok ..) ?_ | (refine Cnd.mk (fun h => ?_) (fun h => ?_) <;> (first | exact cndT h (by (try dsimp only); omega) | exact cndF h (by (try dsimp only); omega) | (exfalso; simp at h; omega) | simp at h | skip)) | refine kp ?_ ?_ | refine tw ?_ ?_ | exact trivial | refine side ?_ | refine sideL ?_ | refine Or.inr ?_ | refine sat_drawH (Tryz.ok ..) (by kernel_rfl) ?_ | refine xi _ (And.intro rfl rfl) ?_ | refine xi _ (fun _ => And.intro rfl rfl) ?_ | refine xi _ rfl ?_)
    exact done_pure rfl rfl rfl
end Go.Proofs.YtmhfkmnpeponiaaGreatDoor
