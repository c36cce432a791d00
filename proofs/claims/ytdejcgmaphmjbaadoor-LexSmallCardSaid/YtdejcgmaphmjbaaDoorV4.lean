/-
  The walks of the reference's Write, and of the law's bare.
-/
import Derived.Test.YtdejcgmaphmjbaaDoorV3
import Derived.Test.YtdejcgmaphmjbaaDoorW2
set_option linter.unusedSimpArgs false
set_option linter.unusedVariables false
namespace Go.Proofs.YtdejcgmaphmjbaaDoor
open Go Sat Go.RowKit Go.PlainAid
theorem nesta_cells {α : Type} {R : Lies α} {w : World} {B : Nat → Prop} {v : Value} {l : List α} (h : NestA R w B v l) : v.oneCell' = true := by
  obtain ⟨a, A, cap, xs, rfl, -⟩ := h
  rfl
set_option maxRecDepth 100000 in
set_option maxHeartbeats 8000000 in
theorem bare_any (l : List Segm) (A' : Option Addr) (A : Option (Nat × Nat)) (cA : Nat) (xs : List Value) (w : World) (aA : AtN l.length A' A) (hrA : Ro w A l.length 1 xs) (hall : ∀ x ∈ xs, ∃ a n c, x = Value.slice a n c) (hl : l.length * 24 ≤ 140737488355328) :
    Calls Tryd.prog 23 #[.slice A' l.length cA] w fun e w' => ∃ v, e = .returned v ∧ w'.ownsRow w.heap.size 27 1 v l.length xs ∧ Below w.heap.size w w' := by
  refine calls_sat (cx := Tryd.cx 18 [] [] [] w) (Tryd.ok ..) Tryd.func23 rfl [.v (.slice A' l.length cA)] rfl (by show 1 ≤ 18; omega) [] (holds_nil (Nat.le_refl _)) ?_
  have hxl : xs.length = l.length := by rw [hrA.1, Nat.mul_one]
  repeat' ((conv => whnf); first | refine walk (Tryd.ok ..) ?_ | (refine Cnd.mk (fun h => ?_) (fun h => ?_) <;> (first | exact cndT h (by (try dsimp only); omega) | exact cndF h (by (try dsimp only); omega) | (exfalso; simp at h; omega) | simp at h | skip)) | refine kp ?_ ?_ | refine tw ?_ ?_ | refine appnil rfl ?_ | refine rawnil rfl ?_ | exact trivial | refine side2 ?_ | refine sideL2 ?_ | refine Or.inr ?_ | refine sat_drawH (Tryd.ok ..) (by kernel_rfl) ?_ | refine xi _ (And.intro rfl rfl) ?_ | refine xi _ (fun _ => And.intro rfl rfl) ?_ | refine xi _ rfl ?_)
  refine sat_loop (Tryd.ok ..) (α := Nat × Option (Nat × Nat) × Nat) (fun s => ([(3, .yes, .o 15 s.2.1 s.1 s.2.2), (6, .yes, .v (.slice A' l.length cA)), (7, .yes, .v (.int .i64 l.length)), (8, .yes, .v (.int .i64 s.1))], [(15, .row s.2.1 27 1 s.1 s.2.2 (xs.take s.1))]))
    (fun s => s.1 ≤ l.length) (fun s => l.length - s.1) (fun _ => rfl) ?_ ?_
  · refine ⟨(0, none, 0), Nat.zero_le _, ?_, ?_, rfl⟩
    all_goals ((repeat' (first | exact trivial | exact rfl | refine And.intro ?_ ?_)) <;> (try (conv => whnf)) <;> (try simp only [SV.real, SV.r2, SV.r1]))
  rintro ⟨k, A3, c3⟩ hk
  dsimp only at hk ⊢
  by_cases hk1 : k < l.length
  · obtain ⟨p, rfl, rfl⟩ := some_of aA hrA (by omega)
    obtain ⟨x, hx⟩ : ∃ x, xs[k]? = some x := ⟨xs[k]'(by omega), List.getElem?_eq_getElem _⟩
    obtain ⟨xa, xn, xc, rfl⟩ := hall x (List.mem_of_getElem? hx)
    have htk : xs.take (k + 1) = xs.take k ++ [.slice xa xn xc] := by rw [List.take_add_one, hx]; rfl
    repeat' ((conv => whnf); first | refine walk (Tryd.ok ..) ?_ | (refine Cnd.mk (fun h => ?_) (fun h => ?_) <;> (first | exact cndT h (by (try dsimp only); omega) | exact cndF h (by (try dsimp only); omega) | (exfalso; simp at h; omega) | simp at h | skip)) | refine kp ?_ ?_ | refine tw ?_ ?_ | refine appnil rfl ?_ | refine rawnil rfl ?_ | exact trivial | refine side2 ?_ | refine sideL2 ?_ | refine Or.inr ?_ | refine sat_drawH (Tryd.ok ..) (by kernel_rfl) ?_ | refine xi _ (And.intro rfl rfl) ?_ | refine xi _ (fun _ => And.intro rfl rfl) ?_ | refine xi _ rfl ?_ | refine xi _ (fun _ => (ro_at rfl rfl hrA hx rfl)) ?_ | refine xi _ (ro_at rfl rfl hrA hx rfl) ?_)
    (conv => whnf)
    intro g hg
    repeat' ((conv => whnf); first | refine walk (Tryd.ok ..) ?_ | (refine Cnd.mk (fun h => ?_) (fun h => ?_) <;> (first | exact cndT h (by (try dsimp only); omega) | exact cndF h (by (try dsimp only); omega) | (exfalso; simp at h; omega) | simp at h | skip)) | refine kp ?_ ?_ | refine tw ?_ ?_ | refine appnil rfl ?_ | refine rawnil rfl ?_ | exact trivial | refine side2 ?_ | refine sideL2 ?_ | refine Or.inr ?_ | refine sat_drawH (Tryd.ok ..) (by kernel_rfl) ?_ | refine xi _ (And.intro rfl rfl) ?_ | refine xi _ (fun _ => And.intro rfl rfl) ?_ | refine xi _ rfl ?_)
    (conv => whnf)
    intro A4 c4
    repeat' ((conv => whnf); first | refine walk (Tryd.ok ..) ?_ | (refine Cnd.mk (fun h => ?_) (fun h => ?_) <;> (first | exact cndT h (by (try dsimp only); omega) | exact cndF h (by (try dsimp only); omega) | (exfalso; simp at h; omega) | simp at h | skip)) | refine kp ?_ ?_ | refine tw ?_ ?_ | refine appnil rfl ?_ | refine rawnil rfl ?_ | exact trivial | refine side2 ?_ | refine sideL2 ?_ | refine Or.inr ?_ | refine sat_drawH (Tryd.ok ..) (by kernel_rfl) ?_ | refine xi _ (And.intro rfl rfl) ?_ | refine xi _ (fun _ => And.intro rfl rfl) ?_ | refine xi _ rfl ?_)
    refine ⟨(k + 1, A4, c4), ⟨hk1, by omega⟩, ?_, ?_, rfl⟩
    all_goals ((repeat' (first | exact trivial | exact rfl | refine And.intro ?_ ?_)) <;> (try (conv => whnf)) <;> (try simp only [SV.real, SV.r2, SV.r1]))
    all_goals exact htk.symm
  obtain rfl : k = l.length := by omega
  rw [← hxl, List.take_length] at *
  repeat' ((conv => whnf); first | refine walk (Tryd.ok ..) ?_ | (refine Cnd.mk (fun h => ?_) (fun h => ?_) <;> (first | exact cndT h (by (try dsimp only); omega) | exact cndF h (by (try dsimp only); omega) | (exfalso; simp at h; omega) | simp at h | skip)) | refine kp ?_ ?_ | refine tw ?_ ?_ | refine appnil rfl ?_ | refine rawnil rfl ?_ | exact trivial | refine side2 ?_ | refine sideL2 ?_ | refine Or.inr ?_ | refine sat_drawH (Tryd.ok ..) (by kernel_rfl) ?_ | refine xi _ (And.intro rfl rfl) ?_ | refine xi _ (fun _ => And.intro rfl rfl) ?_ | refine xi _ rfl ?_)
  exact done_row rfl rfl 15 A3 c3 rfl rfl
theorem strCells_ba (l : List UInt8) : Lib.strCells (ba l) = uB l := rfl
theorem byteTy {N : Nat} {SR SB SC : List Nat} {n0 : Nat} {M : List Nat} {W : World} : ByteTy (Tryd.cxg N SR SB SC n0 M W) 23 9 5 := ⟨Tryd.underlying23, Tryd.underlying9, ((Tryd.ok N SR SB SC n0 M W).1.at_ (t := 5) (i := ⟨.int .u8, 1, 1, .int .u8 0⟩) rfl).info⟩
theorem ub_back (l : List UInt8) : ∀ (j : Nat) (u : Value), ((l.map fun b => (b.toNat : Int)).map (Value.int .u8))[j]? = some u → (uB l)[j]? = some u := fun j u h => by unfold uB; rw [List.map_map] at h; exact h
/-- what Write's second loop makes of segments: so far, or too much -/
structure RunW (l : List Segm) (k : Nat) (acc : List UInt8) : Prop where
  run : (acc.length ≤ 65536 ∧ writeRun l [] = writeRun (l.drop k) acc) ∨ (65536 < acc.length ∧ writeRun l [] = (⟨#[]⟩, 3))
  len : acc.length ≤ 130000
set_option maxRecDepth 100000 in
set_option maxHeartbeats 8000000 in
theorem rWrite_any (l : List Segm) (va : Value) (w : World) (hA : NLA w (fun _ => True) va l) :
    Calls Tryd.prog 22 #[va] w fun e w' => e = .returned (.tuple #[.string (writeL l).1, .int .i64 (writeL l).2]) ∧ Below w.heap.size w w' := by
  obtain ⟨A', A, cA, xs, rfl, aA, hcA, hrA, -, hxA⟩ := hA
  refine calls_sat (cx := Tryd.cx 45 [12] [] [] w) (Tryd.ok ..) Tryd.func22 rfl [.v (.slice A' l.length cA)] rfl (by show 1 ≤ 45; omega) [] (holds_nil (Nat.le_refl _)) ?_
  by_cases hl : 5000 < l.length
  · rw [show writeL l = (⟨#[]⟩, 5) from by unfold writeL; rw [if_pos hl]]
    repeat' ((conv => whnf); first | refine walk (Tryd.ok ..) ?_ | (refine Cnd.mk (fun h => ?_) (fun h => ?_) <;> (first | exact cndT h (by (try dsimp only); omega) | exact cndF h (by (try dsimp only); omega) | (exfalso; simp at h; omega) | simp at h | skip)) | refine kp ?_ ?_ | refine tw ?_ ?_ | refine appnil rfl ?_ | refine rawnil rfl ?_ | exact trivial | refine side2 ?_ | refine sideL2 ?_ | refine Or.inr ?_ | refine sat_drawH (Tryd.ok ..) (by kernel_rfl) ?_ | refine xi _ (And.intro rfl rfl) ?_ | refine xi _ (fun _ => And.intro rfl rfl) ?_ | refine xi _ rfl ?_)
    exact done_pure rfl rfl rfl
  have hW : writeL l = if l.all rightS = true then writeRun l [] else (⟨#[]⟩, 2) := by unfold writeL; rw [if_neg hl]
  repeat' ((conv => whnf); first | refine walk (Tryd.ok ..) ?_ | (refine Cnd.mk (fun h => ?_) (fun h => ?_) <;> (first | exact cndT h (by (try dsimp only); omega) | exact cndF h (by (try dsimp only); omega) | (exfalso; simp at h; omega) | simp at h | skip)) | refine kp ?_ ?_ | refine tw ?_ ?_ | refine appnil rfl ?_ | refine rawnil rfl ?_ | exact trivial | refine side2 ?_ | refine sideL2 ?_ | refine Or.inr ?_ | refine sat_drawH (Tryd.ok ..) (by kernel_rfl) ?_ | refine xi _ (And.intro rfl rfl) ?_ | refine xi _ (fun _ => And.intro rfl rfl) ?_ | refine xi _ rfl ?_)
  refine sat_loop (Tryd.ok ..) (α := Nat) (fun i => ([(0, .yes, .v (.slice A' l.length cA)), (4, .yes, .v (.int .i64 i))], []))
    (fun k => k ≤ l.length ∧ (l.take k).all rightS = true) (fun k => l.length - k) (fun _ => rfl) ?_ ?_
  · refine ⟨0, ⟨Nat.zero_le _, by simp⟩, ?_, ?_, rfl⟩
    all_goals ((repeat' (first | exact trivial | exact rfl | refine And.intro ?_ ?_)) <;> (try (conv => whnf)) <;> (try simp only [SV.real, SV.r2, SV.r1]))
  rintro i ⟨hi, he⟩
  by_cases hi1 : i < l.length
  · obtain ⟨s, hs⟩ : ∃ s, l[i]? = some s := ⟨_, List.getElem?_eq_getElem hi1⟩
    obtain ⟨x, hx, hne⟩ := nest_at hxA hrA.1 hs
    obtain ⟨p, rfl, rfl⟩ := some_of aA hrA (by omega)
    cases hr : rightS s with
    | true =>
      repeat' ((conv => whnf); first | refine walk (Tryd.ok ..) ?_ | (refine Cnd.mk (fun h => ?_) (fun h => ?_) <;> (first | exact cndT h (by (try dsimp only); omega) | exact cndF h (by (try dsimp only); omega) | (exfalso; simp at h; omega) | simp at h | skip)) | refine kp ?_ ?_ | refine tw ?_ ?_ | refine appnil rfl ?_ | refine rawnil rfl ?_ | exact trivial | refine side2 ?_ | refine sideL2 ?_ | refine Or.inr ?_ | refine sat_drawH (Tryd.ok ..) (by kernel_rfl) ?_ | refine xi _ (And.intro rfl rfl) ?_ | refine xi _ (fun _ => And.intro rfl rfl) ?_ | refine xi _ rfl ?_ | refine xi _ (fun _ => (ro_at rfl rfl hrA hx rfl)) ?_ | refine xi _ (ro_at rfl rfl hrA hx rfl) ?_)
      refine called_at (.v (.bool true)) rfl (fun w' hh => by
        have h := rRight_any s x w' (nsa_stays _ _ _ _ _ _ hne (fun g _ hg => (below_of rfl rfl hh).block g hg) (fun _ h => h))
        rw [hr] at h
        exact h) ?_
      repeat' ((conv => whnf); first | refine walk (Tryd.ok ..) ?_ | (refine Cnd.mk (fun h => ?_) (fun h => ?_) <;> (first | exact cndT h (by (try dsimp only); omega) | exact cndF h (by (try dsimp only); omega) | (exfalso; simp at h; omega) | simp at h | skip)) | refine kp ?_ ?_ | refine tw ?_ ?_ | refine appnil rfl ?_ | refine rawnil rfl ?_ | exact trivial | refine side2 ?_ | refine sideL2 ?_ | refine Or.inr ?_ | refine sat_drawH (Tryd.ok ..) (by kernel_rfl) ?_ | refine xi _ (And.intro rfl rfl) ?_ | refine xi _ (fun _ => And.intro rfl rfl) ?_ | refine xi _ rfl ?_)
      refine ⟨i + 1, ⟨⟨hi1, all_step he hs hr⟩, by omega⟩, ?_, ?_, rfl⟩
      all_goals ((repeat' (first | exact trivial | exact rfl | refine And.intro ?_ ?_)) <;> (try (conv => whnf)) <;> (try simp only [SV.real, SV.r2, SV.r1]))
    | false =>
      rw [hW, if_neg (by rw [all_no hs hr]; exact Bool.false_ne_true)]
      repeat' ((conv => whnf); first | refine walk (Tryd.ok ..) ?_ | (refine Cnd.mk (fun h => ?_) (fun h => ?_) <;> (first | exact cndT h (by (try dsimp only); omega) | exact cndF h (by (try dsimp only); omega) | (exfalso; simp at h; omega) | simp at h | skip)) | refine kp ?_ ?_ | refine tw ?_ ?_ | refine appnil rfl ?_ | refine rawnil rfl ?_ | exact trivial | refine side2 ?_ | refine sideL2 ?_ | refine Or.inr ?_ | refine sat_drawH (Tryd.ok ..) (by kernel_rfl) ?_ | refine xi _ (And.intro rfl rfl) ?_ | refine xi _ (fun _ => And.intro rfl rfl) ?_ | refine xi _ rfl ?_ | refine xi _ (fun _ => (ro_at rfl rfl hrA hx rfl)) ?_ | refine xi _ (ro_at rfl rfl hrA hx rfl) ?_)
      refine called_at (.v (.bool false)) rfl (fun w' hh => by
        have h := rRight_any s x w' (nsa_stays _ _ _ _ _ _ hne (fun g _ hg => (below_of rfl rfl hh).block g hg) (fun _ h => h))
        rw [hr] at h
        exact h) ?_
      repeat' ((conv => whnf); first | refine walk (Tryd.ok ..) ?_ | (refine Cnd.mk (fun h => ?_) (fun h => ?_) <;> (first | exact cndT h (by (try dsimp only); omega) | exact cndF h (by (try dsimp only); omega) | (exfalso; simp at h; omega) | simp at h | skip)) | refine kp ?_ ?_ | refine tw ?_ ?_ | refine appnil rfl ?_ | refine rawnil rfl ?_ | exact trivial | refine side2 ?_ | refine sideL2 ?_ | refine Or.inr ?_ | refine sat_drawH (Tryd.ok ..) (by kernel_rfl) ?_ | refine xi _ (And.intro rfl rfl) ?_ | refine xi _ (fun _ => And.intro rfl rfl) ?_ | refine xi _ rfl ?_)
      exact done_pure rfl rfl rfl
  obtain rfl : i = l.length := by omega
  rw [List.take_length] at he
  rw [hW, if_pos he]
  clear hW hi hi1
  have hR : ∀ s ∈ l, rightS s = true := List.all_eq_true.1 he
  repeat' ((conv => whnf); first | refine walk (Tryd.ok ..) ?_ | (refine Cnd.mk (fun h => ?_) (fun h => ?_) <;> (first | exact cndT h (by (try dsimp only); omega) | exact cndF h (by (try dsimp only); omega) | (exfalso; simp at h; omega) | simp at h | skip)) | refine kp ?_ ?_ | refine tw ?_ ?_ | refine appnil rfl ?_ | refine rawnil rfl ?_ | exact trivial | refine side2 ?_ | refine sideL2 ?_ | refine Or.inr ?_ | refine sat_drawH (Tryd.ok ..) (by kernel_rfl) ?_ | refine xi _ (And.intro rfl rfl) ?_ | refine xi _ (fun _ => And.intro rfl rfl) ?_ | refine xi _ rfl ?_)
  refine sat_loop (Tryd.ok ..) (α := Nat × List UInt8 × Option (Nat × Nat) × Nat) (fun t => ([(0, .yes, .v (.slice A' l.length cA)), (5, .yes, .o 39 t.2.2.1 t.2.1.length t.2.2.2), (6, .yes, .v (.int .i64 t.1))], [(39, .row t.2.2.1 5 1 t.2.1.length t.2.2.2 (uB t.2.1))]))
    (fun t => t.1 ≤ l.length ∧ RunW l t.1 t.2.1) (fun t => l.length - t.1) (fun _ => rfl) ?_ ?_
  · refine ⟨(0, [], none, 0), ⟨Nat.zero_le _, ⟨.inl ⟨by simp, rfl⟩, by simp⟩⟩, ?_, ?_, rfl⟩
    all_goals ((repeat' (first | exact trivial | exact rfl | refine And.intro ?_ ?_)) <;> (try (conv => whnf)) <;> (try simp only [SV.real, SV.r2, SV.r1]))
  rintro ⟨k, acc, A5, c5⟩ ⟨hk, hrun, hlen⟩
  dsimp only at hk hrun hlen ⊢
  by_cases hmore : k < l.length ∧ acc.length ≤ 65536
  · obtain ⟨hk1, ha⟩ := hmore
    obtain ⟨s, hs⟩ : ∃ s, l[k]? = some s := ⟨_, List.getElem?_eq_getElem hk1⟩
    obtain ⟨x, hx, hne⟩ := nest_at hxA hrA.1 hs
    obtain ⟨p, rfl, rfl⟩ := some_of aA hrA (by omega)
    have hsr := hR s (List.mem_of_getElem? hs)
    have hwl : (wS s).length ≤ 60332 := by
      have h1 := W1_len hsr s.length
      rw [← W1_end (rightS_at hsr).1.1, List.length_append, List.length_singleton]
      omega
    have hws : (ba (wS s)).size = (wS s).length := rfl
    have hrun2 : RunW l (k + 1) (acc ++ wS s) := by
      rcases hrun with ⟨h1, h2⟩ | ⟨h1, _⟩
      · rw [drop_at hs, writeRun] at h2
        refine ⟨?_, by rw [List.length_append]; omega⟩
        split at h2
        · exact .inr ⟨by assumption, h2⟩
        · exact .inl ⟨by omega, h2⟩
      · omega
    repeat' ((conv => whnf); first | refine walk (Tryd.ok ..) ?_ | (refine Cnd.mk (fun h => ?_) (fun h => ?_) <;> (first | exact cndT h (by (try dsimp only); omega) | exact cndF h (by (try dsimp only); omega) | (exfalso; simp at h; omega) | simp at h | skip)) | refine kp ?_ ?_ | refine tw ?_ ?_ | refine appnil rfl ?_ | refine rawnil rfl ?_ | exact trivial | refine side2 ?_ | refine sideL2 ?_ | refine Or.inr ?_ | refine sat_drawH (Tryd.ok ..) (by kernel_rfl) ?_ | refine xi _ (And.intro rfl rfl) ?_ | refine xi _ (fun _ => And.intro rfl rfl) ?_ | refine xi _ rfl ?_ | refine xi _ (fun _ => (ro_at rfl rfl hrA hx rfl)) ?_ | refine xi _ (ro_at rfl rfl hrA hx rfl) ?_)
    refine sat_ops (Tryd.ok ..) ?_
    repeat' ((conv => whnf); first | refine walk (Tryd.ok ..) ?_ | (refine Cnd.mk (fun h => ?_) (fun h => ?_) <;> (first | exact cndT h (by (try dsimp only); omega) | exact cndF h (by (try dsimp only); omega) | (exfalso; simp at h; omega) | simp at h | skip)) | refine kp ?_ ?_ | refine tw ?_ ?_ | refine appnil rfl ?_ | refine rawnil rfl ?_ | exact trivial | refine side2 ?_ | refine sideL2 ?_ | refine Or.inr ?_ | refine sat_drawH (Tryd.ok ..) (by kernel_rfl) ?_ | refine xi _ (And.intro rfl rfl) ?_ | refine xi _ (fun _ => And.intro rfl rfl) ?_ | refine xi _ rfl ?_ | refine xi _ (fun _ => (ro_at rfl rfl hrA hx rfl)) ?_ | refine xi _ (ro_at rfl rfl hrA hx rfl) ?_)
    (conv => whnf)
    refine called_at (.v (.string (ba (wS s)))) rfl (fun w' hh => by exact written_any s hsr x w' (nsa_stays _ _ _ _ _ _ hne (fun g _ hg => (below_of rfl rfl hh).block g hg) (fun _ h => h))) ?_
    repeat' ((conv => whnf); first | refine walk (Tryd.ok ..) ?_ | (refine Cnd.mk (fun h => ?_) (fun h => ?_) <;> (first | exact cndT h (by (try dsimp only); omega) | exact cndF h (by (try dsimp only); omega) | (exfalso; simp at h; omega) | simp at h | skip)) | refine kp ?_ ?_ | refine tw ?_ ?_ | refine appnil rfl ?_ | refine rawnil rfl ?_ | exact trivial | refine side2 ?_ | refine sideL2 ?_ | refine Or.inr ?_ | refine sat_drawH (Tryd.ok ..) (by kernel_rfl) ?_ | refine xi _ (And.intro rfl rfl) ?_ | refine xi _ (fun _ => And.intro rfl rfl) ?_ | refine xi _ rfl ?_)
    (conv => whnf)
    refine other_app_str byteTy 39 rfl (ba (wS s)) rfl rfl (by omega) ?_
    intro A6 c6
    repeat' ((conv => whnf); first | refine walk (Tryd.ok ..) ?_ | (refine Cnd.mk (fun h => ?_) (fun h => ?_) <;> (first | exact cndT h (by (try dsimp only); omega) | exact cndF h (by (try dsimp only); omega) | (exfalso; simp at h; omega) | simp at h | skip)) | refine kp ?_ ?_ | refine tw ?_ ?_ | refine appnil rfl ?_ | refine rawnil rfl ?_ | exact trivial | refine side2 ?_ | refine sideL2 ?_ | refine Or.inr ?_ | refine sat_drawH (Tryd.ok ..) (by kernel_rfl) ?_ | refine xi _ (And.intro rfl rfl) ?_ | refine xi _ (fun _ => And.intro rfl rfl) ?_ | refine xi _ rfl ?_)
    refine ⟨(k + 1, acc ++ wS s, A6, c6), ⟨⟨hk1, hrun2⟩, by omega⟩, ?_, ?_, rfl⟩
    all_goals ((repeat' (first | exact trivial | exact rfl | refine And.intro ?_ ?_)) <;> (try (conv => whnf)) <;> (try simp only [SV.real, SV.r2, SV.r1]))
    · exact congrArg (fun n => Value.slice (adr A6) n c6) (by rw [List.length_append, hws])
    · rw [List.length_append, hws]
    · unfold uB
      rw [List.map_append]
      rfl
  have hend : writeRun l [] = if 65536 < acc.length then (⟨#[]⟩, 3) else (ba acc, 0) := by
    rcases hrun with ⟨h1, h2⟩ | ⟨h1, h2⟩
    · rw [if_neg (by omega), h2, List.drop_eq_nil_of_le (by omega)]
      rfl
    · rw [if_pos h1, h2]
  rw [hend]
  have hstr := strOf_ba acc
  have hub := ub_back acc
  by_cases hbig : 65536 < acc.length
  · rw [if_pos hbig]
    repeat' ((conv => whnf); first | refine walk (Tryd.ok ..) ?_ | (refine Cnd.mk (fun h => ?_) (fun h => ?_) <;> (first | exact cndT h (by (try dsimp only); omega) | exact cndF h (by (try dsimp only); omega) | (exfalso; simp at h; omega) | simp at h | skip)) | refine kp ?_ ?_ | refine tw ?_ ?_ | refine appnil rfl ?_ | refine rawnil rfl ?_ | exact trivial | refine side2 ?_ | refine sideL2 ?_ | refine Or.inr ?_ | refine sat_drawH (Tryd.ok ..) (by kernel_rfl) ?_ | refine xi _ (And.intro rfl rfl) ?_ | refine xi _ (fun _ => And.intro rfl rfl) ?_ | refine xi _ rfl ?_)
    all_goals exact done_pure rfl rfl rfl
  rw [if_neg hbig]
  repeat' ((conv => whnf); first | refine walk (Tryd.ok ..) ?_ | (refine Cnd.mk (fun h => ?_) (fun h => ?_) <;> (first | exact cndT h (by (try dsimp only); omega) | exact cndF h (by (try dsimp only); omega) | (exfalso; simp at h; omega) | simp at h | skip)) | refine kp ?_ ?_ | refine tw ?_ ?_ | refine appnil rfl ?_ | refine rawnil rfl ?_ | exact trivial | refine side2 ?_ | refine sideL2 ?_ | refine Or.inr ?_ | refine sat_drawH (Tryd.ok ..) (by kernel_rfl) ?_ | refine xi _ (And.intro rfl rfl) ?_ | refine xi _ (fun _ => And.intro rfl rfl) ?_ | refine xi _ rfl ?_)
  refine ⟨acc.map fun b => (b.toNat : Int), ⟨by simp, hub⟩, ?_⟩
  rw [hstr]
  repeat' ((conv => whnf); first | refine walk (Tryd.ok ..) ?_ | (refine Cnd.mk (fun h => ?_) (fun h => ?_) <;> (first | exact cndT h (by (try dsimp only); omega) | exact cndF h (by (try dsimp only); omega) | (exfalso; simp at h; omega) | simp at h | skip)) | refine kp ?_ ?_ | refine tw ?_ ?_ | refine appnil rfl ?_ | refine rawnil rfl ?_ | exact trivial | refine side2 ?_ | refine sideL2 ?_ | refine Or.inr ?_ | refine sat_drawH (Tryd.ok ..) (by kernel_rfl) ?_ | refine xi _ (And.intro rfl rfl) ?_ | refine xi _ (fun _ => And.intro rfl rfl) ?_ | refine xi _ rfl ?_)
  exact done_pure rfl rfl rfl
end Go.Proofs.YtdejcgmaphmjbaaDoor
