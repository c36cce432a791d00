/-
  The walks of the clock package and of its reference: one span more behind spans.
-/
import Derived.Test.YtmhfkmnpeponiaaGreatDoorC2
import Derived.Test.YtmhfkmnpeponiaaGreatDoorCQ
namespace Go.Proofs.YtmhfkmnpeponiaaGreatDoor
open Go Sat Go.RowKit Go.PlainAid
set_option linter.unusedSimpArgs false
set_option linter.unusedVariables false
theorem sps_set {m : List Sp} {z : Sp} {k : Nat} {y : Int} (hk : k = m.length * 2 + 1) : (sps (m ++ [z])).set k (.int .i64 y) = sps (m ++ [⟨z.f, y⟩]) := by
  subst hk
  rw [sps_app, sps_app]
  apply List.ext_getElem?
  intro i
  rw [List.getElem?_set]
  have hl := sps_len m
  by_cases hi : m.length * 2 + 1 = i
  · subst hi
    rw [if_pos rfl, if_pos (by rw [List.length_append, hl]; simp [sps, sC]), List.getElem?_append_right (by rw [hl]; omega), hl, Nat.add_sub_cancel_left]
    rfl
  · rw [if_neg hi]
    rcases Nat.lt_or_ge i (m.length * 2) with h1 | h1
    · rw [List.getElem?_append_left (by rw [hl]; exact h1), List.getElem?_append_left (by rw [hl]; exact h1)]
    · rw [List.getElem?_append_right (by rw [hl]; exact h1), List.getElem?_append_right (by rw [hl]; exact h1), hl]
      obtain ⟨j, hj⟩ : ∃ j, j = i - m.length * 2 := ⟨_, rfl⟩
      rw [← hj]
      rcases j with _ | _ | j
      · rfl
      · omega
      · simp [sps, sC]
theorem last_snoc {m : List Sp} {z : Sp} : (m ++ [z])[m.length]? = some z := by simp
theorem addS_nil {a b : Int} (h : a < b) : addS [] a b = [⟨a, b⟩] := by unfold addS; rw [if_pos h]; rfl
theorem addS_touch {m : List Sp} {z : Sp} {a b : Int} (h : a < b) (ht : z.t = a) : addS (m ++ [z]) a b = m ++ [⟨z.f, b⟩] := by
  unfold addS
  rw [if_pos h, List.getLast?_concat, List.dropLast_concat]
  dsimp only
  rw [if_pos ht]
theorem addS_more {m : List Sp} {z : Sp} {a b : Int} (h : a < b) (ht : ¬ z.t = a) : addS (m ++ [z]) a b = m ++ [z] ++ [⟨a, b⟩] := by
  unfold addS
  rw [if_pos h, List.getLast?_concat]
  dsimp only
  rw [if_neg ht]
theorem sps_one (z : Sp) : sps [z] = [.int .i64 z.f, .int .i64 z.t] := rfl
/-- what a list of the program's own is, in memory: its variable and its row -/
def lst (g : Nat) (A : Option (Nat × Nat)) (cap : Nat) (l : List Sp) (R : Heap) : Heap := (100, .blk g 86 [.o 101 A l.length cap]) :: (101, .row A 25 2 l.length cap (sps l)) :: R
theorem add_called (n0 : Nat) (M : List Nat) (W : World) (R : Heap) (hR : Above R 200) (g : Nat) (A : Option (Nat × Nat)) (cap : Nat) (l : List Sp) (s : Sp) (a b : Int) (hs : InR .i64 s.f ∧ InR .i64 s.t) (hl : l.length ≤ 1000000000000)
    {K : SV → Heap → Prop} (hk : ∀ A' cap', K (.t []) (lst g A' cap' (addS l (max s.f a) (min s.t b)) R)) :
    Called (Tryz.cxg 60 [5, 6] [] [] n0 M W) 53 [.p 100 g 0 0, .a [.v (.int .i64 s.f), .v (.int .i64 s.t)], .v (.int .i64 a), .v (.int .i64 b)] (lst g A cap l R) K := by
  refine called_in (Tryz.ok ..) Tryz.func53 rfl (by show 4 ≤ 60; omega) ?_
  unfold lst
  have hd : ∀ d, d < 200 → hdel R d = R := fun d h => hdel_above hR h
  repeat' ((conv => whnf); first | refine walk (Tryz.ok ..) ?_ | refine walk (COk.with_ (Tryz.ok ..) _ _) ?_ | refine walk (COk.with_ (COk.with_ (Tryz.ok ..) _ _) _ _) ?_ | (refine Cnd.mk (fun h => ?_) (fun h => ?_) <;> (first | exact cndT h (by (try dsimp only); omega) | exact cndF h (by (try dsimp only); omega) | (exfalso; simp at h; omega) | simp at h | skip)) | refine kp ?_ ?_ | refine tw ?_ ?_ | exact trivial | refine side ?_ | refine sideL ?_ | refine Or.inr ?_ | refine sat_drawH (Tryz.ok ..) (by kernel_rfl) ?_ | refine sat_drawH (COk.with_ (Tryz.ok ..) _ _) (by kernel_rfl) ?_ | refine sat_drawH (COk.with_ (COk.with_ (Tryz.ok ..) _ _) _ _) (by kernel_rfl) ?_ | refine xi _ (And.intro rfl rfl) ?_ | refine xi _ (fun _ => And.intro rfl rfl) ?_ | refine xi _ rfl ?_)
  intro g5 hg5
  have noadd : ¬ max s.f a < min s.t b → addS l (max s.f a) (min s.t b) = l := addS_no
  have hd5 := hd 5 (by omega)
  have hd57 := hd 57 (by omega)
  have hd100 := hd 100 (by omega)
  have hd101 := hd 101 (by omega)
  obtain ⟨x, hx⟩ : ∃ x, x = max s.f a := ⟨_, rfl⟩
  obtain ⟨y, hy⟩ : ∃ y, y = min s.t b := ⟨_, rfl⟩
  rcases List.eq_nil_or_concat l with rfl | ⟨m, z, hm⟩
  · have hnil := addS_nil (a := max s.f a) (b := min s.t b)
    repeat' ((conv => whnf); first | refine walk (Tryz.ok ..) ?_ | refine walk (COk.with_ (Tryz.ok ..) _ _) ?_ | refine walk (COk.with_ (COk.with_ (Tryz.ok ..) _ _) _ _) ?_ | (refine Cnd.mk (fun h => ?_) (fun h => ?_) <;> (first | exact cndT h (by (try dsimp only); omega) | exact cndF h (by (try dsimp only); omega) | (exfalso; simp at h; omega) | simp at h | skip)) | refine kp ?_ ?_ | refine tw ?_ ?_ | exact trivial | refine side ?_ | refine sideL ?_ | refine Or.inr ?_ | refine xi _ (And.intro rfl rfl) ?_ | refine xi _ (fun _ => And.intro rfl rfl) ?_ | refine xi _ rfl ?_ | refine xi _ (fun _ => (no_ld rfl)) ?_ | refine xi _ (no_ld rfl) ?_)
    · refine done_inS (lst g A cap [] R) ?_ ?_
      · intro e he
        simp only [hdel, Nat.beq, cond, hd5, lst] at he ⊢
        exact List.mem_cons_of_mem _ he
      · have := hk A cap
        rw [noadd (by omega)] at this
        exact this
    refine sat_draw (COk.with_ (Tryz.ok ..) _ _) [3] [(5, .blk g5 25 [.v (.int .i64 (max s.f a)), .v (.int .i64 (min s.t b))])] (by kernel_rfl) (fun w hw => hw.sub ?_) ?_
    · ((repeat' (first | exact trivial | exact rfl | refine And.intro ?_ ?_)) <;> (try (conv => whnf)) <;> (try simp only [SV.real, SV.r2, SV.r1]))
    repeat' ((conv => whnf); first | refine walk (Tryz.ok ..) ?_ | refine walk (COk.with_ (Tryz.ok ..) _ _) ?_ | refine walk (COk.with_ (COk.with_ (Tryz.ok ..) _ _) _ _) ?_ | (refine Cnd.mk (fun h => ?_) (fun h => ?_) <;> (first | exact cndT h (by (try dsimp only); omega) | exact cndF h (by (try dsimp only); omega) | (exfalso; simp at h; omega) | simp at h | skip)) | refine kp ?_ ?_ | refine tw ?_ ?_ | exact trivial | refine side ?_ | refine sideL ?_ | refine Or.inr ?_ | refine sat_drawH (Tryz.ok ..) (by kernel_rfl) ?_ | refine sat_drawH (COk.with_ (Tryz.ok ..) _ _) (by kernel_rfl) ?_ | refine sat_drawH (COk.with_ (COk.with_ (Tryz.ok ..) _ _) _ _) (by kernel_rfl) ?_ | refine xi _ (And.intro rfl rfl) ?_ | refine xi _ (fun _ => And.intro rfl rfl) ?_ | refine xi _ rfl ?_)
    all_goals
      intro g57 hg57
      repeat' ((conv => whnf); first | refine walk (Tryz.ok ..) ?_ | refine walk (COk.with_ (Tryz.ok ..) _ _) ?_ | refine walk (COk.with_ (COk.with_ (Tryz.ok ..) _ _) _ _) ?_ | (refine Cnd.mk (fun h => ?_) (fun h => ?_) <;> (first | exact cndT h (by (try dsimp only); omega) | exact cndF h (by (try dsimp only); omega) | (exfalso; simp at h; omega) | simp at h | skip)) | refine kp ?_ ?_ | refine tw ?_ ?_ | exact trivial | refine side ?_ | refine sideL ?_ | refine Or.inr ?_ | refine sat_drawH (Tryz.ok ..) (by kernel_rfl) ?_ | refine sat_drawH (COk.with_ (Tryz.ok ..) _ _) (by kernel_rfl) ?_ | refine sat_drawH (COk.with_ (COk.with_ (Tryz.ok ..) _ _) _ _) (by kernel_rfl) ?_ | refine xi _ (And.intro rfl rfl) ?_ | refine xi _ (fun _ => And.intro rfl rfl) ?_ | refine xi _ rfl ?_)
      intro A2 cap2
      repeat' ((conv => whnf); first | refine walk (Tryz.ok ..) ?_ | refine walk (COk.with_ (Tryz.ok ..) _ _) ?_ | refine walk (COk.with_ (COk.with_ (Tryz.ok ..) _ _) _ _) ?_ | (refine Cnd.mk (fun h => ?_) (fun h => ?_) <;> (first | exact cndT h (by (try dsimp only); omega) | exact cndF h (by (try dsimp only); omega) | (exfalso; simp at h; omega) | simp at h | skip)) | refine kp ?_ ?_ | refine tw ?_ ?_ | exact trivial | refine side ?_ | refine sideL ?_ | refine Or.inr ?_ | refine sat_drawH (Tryz.ok ..) (by kernel_rfl) ?_ | refine sat_drawH (COk.with_ (Tryz.ok ..) _ _) (by kernel_rfl) ?_ | refine sat_drawH (COk.with_ (COk.with_ (Tryz.ok ..) _ _) _ _) (by kernel_rfl) ?_ | refine xi _ (And.intro rfl rfl) ?_ | refine xi _ (fun _ => And.intro rfl rfl) ?_ | refine xi _ rfl ?_)
      refine done_inS (lst g A2 cap2 [⟨max s.f a, min s.t b⟩] R) ?_ ?_
      · intro e he
        simp only [hdel, Nat.beq, cond, hd5, hd57, hd100, hd101, lst, List.mem_cons] at he ⊢
        rcases he with rfl | rfl | he
        · exact .inl rfl
        · exact .inr (.inl rfl)
        · simp [he]
      · have := hk A2 cap2
        rw [hnil (by omega)] at this
        exact this
  · rw [List.concat_eq_append] at hm
    subst hm
    have hlen : (m ++ [z]).length = m.length + 1 := by simp
    have hz : ∀ i : Int, i = m.length → (sps (m ++ [z]))[mulS i.toNat 2 + 1]? = some (.int .i64 z.t) := fun i hi => at_t (last_snoc (m := m) (z := z)) hi
    repeat' ((conv => whnf); first | refine walk (Tryz.ok ..) ?_ | refine walk (COk.with_ (Tryz.ok ..) _ _) ?_ | refine walk (COk.with_ (COk.with_ (Tryz.ok ..) _ _) _ _) ?_ | (refine Cnd.mk (fun h => ?_) (fun h => ?_) <;> (first | exact cndT h (by (try dsimp only); omega) | exact cndF h (by (try dsimp only); omega) | (exfalso; simp at h; omega) | simp at h | skip)) | refine kp ?_ ?_ | refine tw ?_ ?_ | exact trivial | refine side ?_ | refine sideL ?_ | refine Or.inr ?_ | refine xi _ (And.intro rfl rfl) ?_ | refine xi _ (fun _ => And.intro rfl rfl) ?_ | refine xi _ rfl ?_ | refine xi _ (fun _ => (fun _ => hz _ (by omega))) ?_ | refine xi _ (fun _ => hz _ (by omega)) ?_)
    · refine done_inS (lst g A cap (m ++ [z]) R) ?_ ?_
      · intro e he
        simp only [hdel, Nat.beq, cond, hd5, lst] at he ⊢
        exact List.mem_cons_of_mem _ he
      · have := hk A cap
        rw [noadd (by omega)] at this
        exact this
    · refine sat_draw (COk.with_ (Tryz.ok ..) _ _) [7] [(100, .blk g 86 [.o 101 A (m ++ [z]).length cap]), (5, .blk g5 25 [.v (.int .i64 (max s.f a)), .v (.int .i64 (min s.t b))])] (by kernel_rfl) (fun w hw => hw.sub ?_) ?_
      · ((repeat' (first | exact trivial | exact rfl | refine And.intro ?_ ?_)) <;> (try (conv => whnf)) <;> (try simp only [SV.real, SV.r2, SV.r1]))
      have hb : mulS ((((m ++ [z]).length : Nat) : Int) - 1).toNat 2 + 1 < (sps (m ++ [z])).length := by
        rw [mulS_eq, sps_len]
        omega
      repeat' ((conv => whnf); first | refine walk (Tryz.ok ..) ?_ | refine walk (COk.with_ (Tryz.ok ..) _ _) ?_ | refine walk (COk.with_ (COk.with_ (Tryz.ok ..) _ _) _ _) ?_ | (refine Cnd.mk (fun h => ?_) (fun h => ?_) <;> (first | exact cndT h (by (try dsimp only); omega) | exact cndF h (by (try dsimp only); omega) | (exfalso; simp at h; omega) | simp at h | skip)) | refine kp ?_ ?_ | refine tw ?_ ?_ | exact trivial | refine side ?_ | refine sideL ?_ | refine Or.inr ?_ | refine sat_drawH (Tryz.ok ..) (by kernel_rfl) ?_ | refine sat_drawH (COk.with_ (Tryz.ok ..) _ _) (by kernel_rfl) ?_ | refine sat_drawH (COk.with_ (COk.with_ (Tryz.ok ..) _ _) _ _) (by kernel_rfl) ?_ | refine xi _ (And.intro rfl rfl) ?_ | refine xi _ (fun _ => And.intro rfl rfl) ?_ | refine xi _ rfl ?_)
      refine done_inS (lst g A cap (m ++ [⟨z.f, min s.t b⟩]) R) ?_ ?_
      · intro e he
        have e2 := sps_set (m := m) (z := z) (k := mulS ((((m ++ [z]).length : Nat) : Int) - 1).toNat 2 + 1) (y := min s.t b) (by rw [mulS_eq]; omega)
        have e3 : (m ++ [(⟨z.f, min s.t b⟩ : Sp)]).length = (m ++ [z]).length := by simp
        simp only [hdel, Nat.beq, cond, hd5, hd57, hd100, hd101, lst, List.mem_cons, e3] at he ⊢
        rw [← e2] at he
        rcases he with rfl | rfl | he
        · simp
        · exact .inl rfl
        · simp [he]
      · have := hk A cap
        rw [addS_touch (by omega) h] at this
        exact this
    · refine sat_draw (COk.with_ (Tryz.ok ..) _ _) [3] [(5, .blk g5 25 [.v (.int .i64 (max s.f a)), .v (.int .i64 (min s.t b))])] (by kernel_rfl) (fun w hw => hw.sub ?_) ?_
      · ((repeat' (first | exact trivial | exact rfl | refine And.intro ?_ ?_)) <;> (try (conv => whnf)) <;> (try simp only [SV.real, SV.r2, SV.r1]))
      repeat' ((conv => whnf); first | refine walk (Tryz.ok ..) ?_ | refine walk (COk.with_ (Tryz.ok ..) _ _) ?_ | refine walk (COk.with_ (COk.with_ (Tryz.ok ..) _ _) _ _) ?_ | (refine Cnd.mk (fun h => ?_) (fun h => ?_) <;> (first | exact cndT h (by (try dsimp only); omega) | exact cndF h (by (try dsimp only); omega) | (exfalso; simp at h; omega) | simp at h | skip)) | refine kp ?_ ?_ | refine tw ?_ ?_ | exact trivial | refine side ?_ | refine sideL ?_ | refine Or.inr ?_ | refine sat_drawH (Tryz.ok ..) (by kernel_rfl) ?_ | refine sat_drawH (COk.with_ (Tryz.ok ..) _ _) (by kernel_rfl) ?_ | refine sat_drawH (COk.with_ (COk.with_ (Tryz.ok ..) _ _) _ _) (by kernel_rfl) ?_ | refine xi _ (And.intro rfl rfl) ?_ | refine xi _ (fun _ => And.intro rfl rfl) ?_ | refine xi _ rfl ?_)
      all_goals
        intro g57 hg57
        repeat' ((conv => whnf); first | refine walk (Tryz.ok ..) ?_ | refine walk (COk.with_ (Tryz.ok ..) _ _) ?_ | refine walk (COk.with_ (COk.with_ (Tryz.ok ..) _ _) _ _) ?_ | (refine Cnd.mk (fun h => ?_) (fun h => ?_) <;> (first | exact cndT h (by (try dsimp only); omega) | exact cndF h (by (try dsimp only); omega) | (exfalso; simp at h; omega) | simp at h | skip)) | refine kp ?_ ?_ | refine tw ?_ ?_ | exact trivial | refine side ?_ | refine sideL ?_ | refine Or.inr ?_ | refine sat_drawH (Tryz.ok ..) (by kernel_rfl) ?_ | refine sat_drawH (COk.with_ (Tryz.ok ..) _ _) (by kernel_rfl) ?_ | refine sat_drawH (COk.with_ (COk.with_ (Tryz.ok ..) _ _) _ _) (by kernel_rfl) ?_ | refine xi _ (And.intro rfl rfl) ?_ | refine xi _ (fun _ => And.intro rfl rfl) ?_ | refine xi _ rfl ?_)
        intro A2 cap2
        repeat' ((conv => whnf); first | refine walk (Tryz.ok ..) ?_ | refine walk (COk.with_ (Tryz.ok ..) _ _) ?_ | refine walk (COk.with_ (COk.with_ (Tryz.ok ..) _ _) _ _) ?_ | (refine Cnd.mk (fun h => ?_) (fun h => ?_) <;> (first | exact cndT h (by (try dsimp only); omega) | exact cndF h (by (try dsimp only); omega) | (exfalso; simp at h; omega) | simp at h | skip)) | refine kp ?_ ?_ | refine tw ?_ ?_ | exact trivial | refine side ?_ | refine sideL ?_ | refine Or.inr ?_ | refine sat_drawH (Tryz.ok ..) (by kernel_rfl) ?_ | refine sat_drawH (COk.with_ (Tryz.ok ..) _ _) (by kernel_rfl) ?_ | refine sat_drawH (COk.with_ (COk.with_ (Tryz.ok ..) _ _) _ _) (by kernel_rfl) ?_ | refine xi _ (And.intro rfl rfl) ?_ | refine xi _ (fun _ => And.intro rfl rfl) ?_ | refine xi _ rfl ?_)
        refine done_inS (lst g A2 cap2 (m ++ [z] ++ [⟨max s.f a, min s.t b⟩]) R) ?_ ?_
        · intro e he
          have e3 : (m ++ [z] ++ [(⟨max s.f a, min s.t b⟩ : Sp)]).length = (m ++ [z]).length + 1 := by simp
          simp only [hdel, Nat.beq, cond, hd5, hd57, hd100, hd101, lst, List.mem_cons, e3, sps_app (m ++ [z])] at he ⊢
          rcases he with rfl | rfl | he
          · exact .inl rfl
          · exact .inr (.inl rfl)
          · simp [he]
        · have := hk A2 cap2
          rw [addS_more (by omega) h] at this
          exact this
end Go.Proofs.YtmhfkmnpeponiaaGreatDoor
