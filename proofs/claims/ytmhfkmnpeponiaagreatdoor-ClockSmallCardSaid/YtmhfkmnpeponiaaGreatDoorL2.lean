/-
  The walks of the laws of the clock: spans that are written over, lists that are short.
-/
import Derived.Test.YtmhfkmnpeponiaaGreatDoorL1
import Derived.Test.YtmhfkmnpeponiaaGreatDoorC14
namespace Go.Proofs.YtmhfkmnpeponiaaGreatDoor
open Go Sat Go.RowKit Go.PlainAid
set_option linter.unusedSimpArgs false
set_option linter.unusedVariables false
/-- no name stands twice -/
def uniq : Heap → Bool
  | [] => true
  | (i, _) :: R => bif (hfind R i).isSome then false else uniq R
theorem hfind_uniq {R : Heap} (h : uniq R = true) : ∀ e ∈ R, hfind R e.1 = some e.2 := by
  induction R with
  | nil => intro e he; cases he
  | cons x R ih =>
    obtain ⟨i, b⟩ := x
    unfold uniq at h
    cases hf : (hfind R i).isSome
    · rw [hf] at h
      intro e he
      rcases List.mem_cons.1 he with rfl | he
      · simp [hfind]
      · have h1 := ih h e he
        have hne : Nat.beq i e.1 = false := by
          cases hb : Nat.beq i e.1
          · rfl
          · have := Nat.eq_of_beq_eq_true hb
            rw [this, h1] at hf
            cases hf
        simp only [hfind, hne, cond]
        exact h1
    · rw [hf] at h; cases h
theorem hsub_of {H : Heap} : ∀ {R : Heap}, (∀ e ∈ R, hfind H e.1 = some e.2) → hsub H R := by
  intro R
  induction R with
  | nil => intro _; trivial
  | cons x R ih =>
    obtain ⟨i, b⟩ := x
    intro h
    refine ⟨?_, ih fun e he => h e (List.mem_cons_of_mem _ he)⟩
    unfold hent
    rw [h (i, b) List.mem_cons_self]
    exact heq_refl b
/-- entries behind one of another name are still there -/
theorem hsub_tail {R : Heap} {k i : Nat} (b : HB) (ha : Above R k) (hi : i < k) (hu : uniq R = true) : hsub ((i, b) :: R) R := by
  refine hsub_of fun e he => ?_
  have := ha e he
  have hb : Nat.beq i e.1 = false := by
    cases hb : Nat.beq i e.1
    · rfl
    · have := Nat.eq_of_beq_eq_true hb; omega
  simp only [hfind, hb, cond]
  exact hfind_uniq hu e he
theorem over_called (n0 : Nat) (M : List Nat) (W : World) (R : Heap) (hR : Above R 200) (hu : uniq R = true) (A : Option (Nat × Nat)) (k n : Nat) (xs : List Value) (hx : xs.length = n * 2) (hk : k ≤ n) (hn : n ≤ 1000000000000)
    {K : SV → Heap → Prop} (hK : ∀ xs' : List Value, xs'.length = n * 2 → K (.t []) ((101, .row A 25 2 n n xs') :: R)) :
    Called (Tryz.cxg 17 [] [] [] n0 M W) 21 [.o 101 A k n] ((101, .row A 25 2 n n xs) :: R) K := by
  refine called_in (Tryz.ok ..) Tryz.func21 rfl (by show 1 ≤ 17; omega) ?_
  have hd101 : hdel R 101 = R := hdel_above hR (by omega)
  repeat' ((conv => whnf); first | refine walk (Tryz.ok ..) ?_ | refine walk (COk.with_ (Tryz.ok ..) _ _) ?_ | refine walk (COk.with_ (COk.with_ (Tryz.ok ..) _ _) _ _) ?_ | (refine Cnd.mk (fun h => ?_) (fun h => ?_) <;> (first | exact cndT h (by (try dsimp only); omega) | exact cndF h (by (try dsimp only); omega) | (exfalso; simp at h; omega) | simp at h | skip)) | refine kp ?_ ?_ | refine tw ?_ ?_ | exact trivial | refine side ?_ | refine sideL ?_ | refine Or.inr ?_ | refine sat_drawH (Tryz.ok ..) (by kernel_rfl) ?_ | refine sat_drawH (COk.with_ (Tryz.ok ..) _ _) (by kernel_rfl) ?_ | refine sat_drawH (COk.with_ (COk.with_ (Tryz.ok ..) _ _) _ _) (by kernel_rfl) ?_ | refine xi _ (And.intro rfl rfl) ?_ | refine xi _ (fun _ => And.intro rfl rfl) ?_ | refine xi _ rfl ?_)
  obtain ⟨m, hm⟩ : ∃ m, m = ((n : Int)).toNat := ⟨_, rfl⟩
  have hmn : m = n := by omega
  refine sat_loop (COk.with_ (Tryz.ok ..) _ _) (α := Nat × List Value) (fun s => ([(0, .yes, .o 101 A m n), (8, .yes, .v (.int .i64 m)), (9, .yes, .v (.int .i64 s.1))], (101, .row A 25 2 n n s.2) :: R)) (fun s => s.1 ≤ m ∧ s.2.length = n * 2) (fun s => m - s.1) (fun _ => rfl) ?_ ?_
  · refine ⟨(0, xs), ⟨Nat.zero_le _, hx⟩, ?_, ?_, rfl⟩
    · subst hm
      ((repeat' (first | exact trivial | exact rfl | refine And.intro ?_ ?_)) <;> (try (conv => whnf)) <;> (try simp only [SV.real, SV.r2, SV.r1]))
    · exact ⟨⟨⟨rfl, rfl, rfl, rfl⟩, rfl, rfl⟩, hsub_tail _ hR (by omega) hu⟩
  rintro ⟨i, ys⟩ ⟨i1, i2⟩
  dsimp only at i1 i2
  by_cases hi : i < m
  · have hb : 2 = 2 ∧ 0 < 2 ∧ mulS ((i : Int)).toNat 2 + 2 ≤ ys.length ∧ allV [Value.int .i64 77, .int .i64 78] = true := by
      rw [mulS_eq, Int.toNat_natCast]
      exact ⟨rfl, by omega, by omega, rfl⟩
    have hlen : (ys.take (mulS ((i : Int)).toNat 2) ++ [Value.int .i64 77, .int .i64 78] ++ ys.drop (mulS ((i : Int)).toNat 2 + 2)).length = n * 2 := by
      have h3 := hb.2.2.1
      simp only [List.length_append, List.length_take, List.length_drop, List.length_cons, List.length_nil]
      omega
    repeat' ((conv => whnf); first | refine walk (Tryz.ok ..) ?_ | refine walk (COk.with_ (Tryz.ok ..) _ _) ?_ | refine walk (COk.with_ (COk.with_ (Tryz.ok ..) _ _) _ _) ?_ | (refine Cnd.mk (fun h => ?_) (fun h => ?_) <;> (first | exact cndT h (by (try dsimp only); omega) | exact cndF h (by (try dsimp only); omega) | (exfalso; simp at h; omega) | simp at h | skip)) | refine kp ?_ ?_ | refine tw ?_ ?_ | exact trivial | refine side ?_ | refine sideL ?_ | refine Or.inr ?_ | refine sat_drawH (Tryz.ok ..) (by kernel_rfl) ?_ | refine sat_drawH (COk.with_ (Tryz.ok ..) _ _) (by kernel_rfl) ?_ | refine sat_drawH (COk.with_ (COk.with_ (Tryz.ok ..) _ _) _ _) (by kernel_rfl) ?_ | refine xi _ (And.intro rfl rfl) ?_ | refine xi _ (fun _ => And.intro rfl rfl) ?_ | refine xi _ rfl ?_)
    refine And.intro hb ?_
    repeat' ((conv => whnf); first | refine walk (Tryz.ok ..) ?_ | refine walk (COk.with_ (Tryz.ok ..) _ _) ?_ | refine walk (COk.with_ (COk.with_ (Tryz.ok ..) _ _) _ _) ?_ | (refine Cnd.mk (fun h => ?_) (fun h => ?_) <;> (first | exact cndT h (by (try dsimp only); omega) | exact cndF h (by (try dsimp only); omega) | (exfalso; simp at h; omega) | simp at h | skip)) | refine kp ?_ ?_ | refine tw ?_ ?_ | exact trivial | refine side ?_ | refine sideL ?_ | refine Or.inr ?_ | refine sat_drawH (Tryz.ok ..) (by kernel_rfl) ?_ | refine sat_drawH (COk.with_ (Tryz.ok ..) _ _) (by kernel_rfl) ?_ | refine sat_drawH (COk.with_ (COk.with_ (Tryz.ok ..) _ _) _ _) (by kernel_rfl) ?_ | refine xi _ (And.intro rfl rfl) ?_ | refine xi _ (fun _ => And.intro rfl rfl) ?_ | refine xi _ rfl ?_)
    refine ⟨(i + 1, ys.take (mulS ((i : Int)).toNat 2) ++ [Value.int .i64 77, .int .i64 78] ++ ys.drop (mulS ((i : Int)).toNat 2 + 2)), ⟨⟨by show i + 1 ≤ m; omega, hlen⟩, by show m - (i + 1) < m - i; omega⟩, ?_, ?_, rfl⟩
    · ((repeat' (first | exact trivial | exact rfl | refine And.intro ?_ ?_)) <;> (try (conv => whnf)) <;> (try simp only [SV.real, SV.r2, SV.r1]))
    · refine ⟨⟨⟨rfl, rfl, rfl, rfl⟩, rfl, rfl⟩, ?_⟩
      simp only [hdel, Nat.beq, cond, hd101]
      exact hsub_tail _ hR (by omega) hu
  · obtain rfl : i = m := by omega
    repeat' ((conv => whnf); first | refine walk (Tryz.ok ..) ?_ | refine walk (COk.with_ (Tryz.ok ..) _ _) ?_ | refine walk (COk.with_ (COk.with_ (Tryz.ok ..) _ _) _ _) ?_ | (refine Cnd.mk (fun h => ?_) (fun h => ?_) <;> (first | exact cndT h (by (try dsimp only); omega) | exact cndF h (by (try dsimp only); omega) | (exfalso; simp at h; omega) | simp at h | skip)) | refine kp ?_ ?_ | refine tw ?_ ?_ | exact trivial | refine side ?_ | refine sideL ?_ | refine Or.inr ?_ | refine sat_drawH (Tryz.ok ..) (by kernel_rfl) ?_ | refine sat_drawH (COk.with_ (Tryz.ok ..) _ _) (by kernel_rfl) ?_ | refine sat_drawH (COk.with_ (COk.with_ (Tryz.ok ..) _ _) _ _) (by kernel_rfl) ?_ | refine xi _ (And.intro rfl rfl) ?_ | refine xi _ (fun _ => And.intro rfl rfl) ?_ | refine xi _ rfl ?_)
    refine done_inS ((101, .row A 25 2 n n ys) :: R) ?_ (hK ys i2)
    intro e he
    exact he
/-- over(out), wherever it lies -/
theorem over_at {cx : Cx} (hP : Tryz.prog = cx.P) {H : Heap} {K : SV → Heap → Prop} (r : Nat) {A : Option (Nat × Nat)} {k n : Nat} {xs : List Value} (L : Heap) (hL : freeOf [r] L = true) (hu : uniq (up L) = true)
    (hH : hsub H ((r, .row A 25 2 n n xs) :: L)) (hx : xs.length = n * 2) (hk : k ≤ n) (hn : n ≤ 1000000000000)
    (hK : ∀ xs' : List Value, xs'.length = n * 2 → K (.t []) ((r, .row A 25 2 n n xs') :: L)) :
    Called cx 21 [.o r A k n] H K := by
  refine called_ren [.o 101 A k n] ((101, .row A 25 2 n n xs) :: up L) (fun v H' => ∃ xs', v = .t [] ∧ xs'.length = n * 2 ∧ H' = (101, .row A 25 2 n n xs') :: up L) rfl
    (fun w hw => one_up hL (hw.sub hH)) (Called.cx_ (cx := Tryz.cxg 17 [] [] [] cx.n0 cx.M cx.W) hP rfl rfl rfl (over_called cx.n0 cx.M cx.W (up L) (up_above L) hu A k n xs hx hk hn (fun xs' h => ⟨xs', rfl, h, rfl⟩))) ?_
  rintro v1 H1 ⟨xs', rfl, h, rfl⟩
  exact ⟨.t [], _, rfl, fun w hw => one_down hw, hK xs' h⟩
set_option maxRecDepth 100000 in
set_option maxHeartbeats 8000000 in
theorem few_any (p : Nat × Nat) (a b : Option Addr) (n1 c1 n2 c2 : Nat) (cap : Nat) (w : World) (hA : Ro w (some p) 2 1 [.slice a n1 c1, .slice b n2 c2]) :
    Calls Tryz.prog 11 #[.slice (adr (some p)) 2 cap] w fun e w' => e = .returned (.bool (decide (n1 ≤ 1100) && decide (n2 ≤ 1100))) ∧ Below w.heap.size w w' := by
  refine calls_sat (cx := Tryz.cx 15 [] [] [] w) (Tryz.ok ..) Tryz.func11 rfl [.o 300 (some p) 2 cap] rfl (by show 1 ≤ 15; omega) [(300, .ro (some p) 2 1 [.slice a n1 c1, .slice b n2 c2])] (holds_ros rfl rfl ⟨hA, trivial⟩) ?_
  repeat' ((conv => whnf); first | refine walk (Tryz.ok ..) ?_ | refine walk (COk.with_ (Tryz.ok ..) _ _) ?_ | refine walk (COk.with_ (COk.with_ (Tryz.ok ..) _ _) _ _) ?_ | (refine Cnd.mk (fun h => ?_) (fun h => ?_) <;> (first | exact cndT h (by (try dsimp only); omega) | exact cndF h (by (try dsimp only); omega) | (exfalso; simp at h; omega) | simp at h | skip)) | refine kp ?_ ?_ | refine tw ?_ ?_ | exact trivial | refine side ?_ | refine sideL ?_ | refine Or.inr ?_ | refine sat_drawH (Tryz.ok ..) (by kernel_rfl) ?_ | refine sat_drawH (COk.with_ (Tryz.ok ..) _ _) (by kernel_rfl) ?_ | refine sat_drawH (COk.with_ (COk.with_ (Tryz.ok ..) _ _) _ _) (by kernel_rfl) ?_ | refine xi _ (And.intro rfl rfl) ?_ | refine xi _ (fun _ => And.intro rfl rfl) ?_ | refine xi _ rfl ?_)
  refine sat_loop (Tryz.ok ..) (α := Nat) (fun k => ([(5, .yes, .o 300 (some p) 2 cap), (6, .yes, .v (.int .i64 2)), (7, .yes, .v (.int .i64 k))], [(300, .ro (some p) 2 1 [.slice a n1 c1, .slice b n2 c2])])) (fun k => k ≤ 2 ∧ (0 < k → n1 ≤ 1100) ∧ (1 < k → n2 ≤ 1100)) (fun k => 2 - k) (fun _ => rfl) ?_ ?_
  · refine ⟨0, ⟨by omega, by omega, by omega⟩, ?_, ?_, rfl⟩
    all_goals ((repeat' (first | exact trivial | exact rfl | refine And.intro ?_ ?_)) <;> (try (conv => whnf)) <;> (try simp only [SV.real, SV.r2, SV.r1]))
  rintro k ⟨k1, k2, k3⟩
  match k, k1 with
  | 0, _ =>
    repeat' ((conv => whnf); first | refine walk (Tryz.ok ..) ?_ | refine walk (COk.with_ (Tryz.ok ..) _ _) ?_ | refine walk (COk.with_ (COk.with_ (Tryz.ok ..) _ _) _ _) ?_ | (refine Cnd.mk (fun h => ?_) (fun h => ?_) <;> (first | exact cndT h (by (try dsimp only); omega) | exact cndF h (by (try dsimp only); omega) | (exfalso; simp at h; omega) | simp at h | skip)) | refine kp ?_ ?_ | refine tw ?_ ?_ | exact trivial | refine side ?_ | refine sideL ?_ | refine Or.inr ?_ | refine sat_drawH (Tryz.ok ..) (by kernel_rfl) ?_ | refine sat_drawH (COk.with_ (Tryz.ok ..) _ _) (by kernel_rfl) ?_ | refine sat_drawH (COk.with_ (COk.with_ (Tryz.ok ..) _ _) _ _) (by kernel_rfl) ?_ | refine xi _ (And.intro rfl rfl) ?_ | refine xi _ (fun _ => And.intro rfl rfl) ?_ | refine xi _ rfl ?_)
    · refine done_pure rfl rfl (congrArg Value.bool ?_)
      rw [decide_eq_false (show ¬ n1 ≤ 1100 by omega)]
      rfl
    · refine ⟨1, ⟨⟨by omega, by omega, by omega⟩, by omega⟩, ?_, ?_, rfl⟩
      all_goals ((repeat' (first | exact trivial | exact rfl | refine And.intro ?_ ?_)) <;> (try (conv => whnf)) <;> (try simp only [SV.real, SV.r2, SV.r1]))
  | 1, _ =>
    repeat' ((conv => whnf); first | refine walk (Tryz.ok ..) ?_ | refine walk (COk.with_ (Tryz.ok ..) _ _) ?_ | refine walk (COk.with_ (COk.with_ (Tryz.ok ..) _ _) _ _) ?_ | (refine Cnd.mk (fun h => ?_) (fun h => ?_) <;> (first | exact cndT h (by (try dsimp only); omega) | exact cndF h (by (try dsimp only); omega) | (exfalso; simp at h; omega) | simp at h | skip)) | refine kp ?_ ?_ | refine tw ?_ ?_ | exact trivial | refine side ?_ | refine sideL ?_ | refine Or.inr ?_ | refine sat_drawH (Tryz.ok ..) (by kernel_rfl) ?_ | refine sat_drawH (COk.with_ (Tryz.ok ..) _ _) (by kernel_rfl) ?_ | refine sat_drawH (COk.with_ (COk.with_ (Tryz.ok ..) _ _) _ _) (by kernel_rfl) ?_ | refine xi _ (And.intro rfl rfl) ?_ | refine xi _ (fun _ => And.intro rfl rfl) ?_ | refine xi _ rfl ?_)
    · refine done_pure rfl rfl (congrArg Value.bool ?_)
      rw [decide_eq_false (show ¬ n2 ≤ 1100 by omega)]
      simp
    · refine ⟨2, ⟨⟨by omega, by omega, by omega⟩, by omega⟩, ?_, ?_, rfl⟩
      all_goals ((repeat' (first | exact trivial | exact rfl | refine And.intro ?_ ?_)) <;> (try (conv => whnf)) <;> (try simp only [SV.real, SV.r2, SV.r1]))
  | 2, _ =>
    repeat' ((conv => whnf); first | refine walk (Tryz.ok ..) ?_ | refine walk (COk.with_ (Tryz.ok ..) _ _) ?_ | refine walk (COk.with_ (COk.with_ (Tryz.ok ..) _ _) _ _) ?_ | (refine Cnd.mk (fun h => ?_) (fun h => ?_) <;> (first | exact cndT h (by (try dsimp only); omega) | exact cndF h (by (try dsimp only); omega) | (exfalso; simp at h; omega) | simp at h | skip)) | refine kp ?_ ?_ | refine tw ?_ ?_ | exact trivial | refine side ?_ | refine sideL ?_ | refine Or.inr ?_ | refine sat_drawH (Tryz.ok ..) (by kernel_rfl) ?_ | refine sat_drawH (COk.with_ (Tryz.ok ..) _ _) (by kernel_rfl) ?_ | refine sat_drawH (COk.with_ (COk.with_ (Tryz.ok ..) _ _) _ _) (by kernel_rfl) ?_ | refine xi _ (And.intro rfl rfl) ?_ | refine xi _ (fun _ => And.intro rfl rfl) ?_ | refine xi _ rfl ?_)
    refine done_pure rfl rfl (congrArg Value.bool ?_)
    rw [decide_eq_true (k2 (by omega)), decide_eq_true (k3 (by omega))]
    rfl
end Go.Proofs.YtmhfkmnpeponiaaGreatDoor
