/-
  The walk of the reference's Trim.
-/
import Derived.Test.YtdohcglpcgahaaaDoorTP
import Derived.Test.YtdohcglpcgahaaaDoorSR1
set_option linter.unusedSimpArgs false
set_option linter.unusedVariables false
namespace Go.Proofs.YtdohcglpcgahaaaDoor
open Go Sat Go.RowKit Go.PlainAid
theorem ne_rowC {w : World} {v : Value} {e : List ByteArray} {B : Nat → Prop} (h : NE w B v e) : ∃ A cap, v = .slice (adr A) e.length cap ∧ (e.length ≤ cap ∧ cap ≤ maxLen) ∧ Ro w A e.length 1 (e.map Value.string) ∧ ∀ p, A = some p → 0 < e.length → B p.1 ∧ Cells0 w p.1 := by
  have h0 := h
  obtain ⟨A, cap, hv, hc, hro, hB⟩ := ne_row h
  obtain ⟨A', cap', xs, hv', hc', hro', hB', hx'⟩ := h0
  rw [hv] at hv'
  injection hv' with e1 e2 e3
  have hA : A = A' := by
    cases A with
    | none => cases A' with
      | none => rfl
      | some q => cases e1
    | some p => cases A' with
      | none => cases e1
      | some q =>
        simp only [adr, Option.map_some, Option.some.injEq, Addr.mk.injEq] at e1
        congr 1
        exact Prod.ext e1.1 e1.2.1
  exact ⟨A, cap, hv, hc, hro, fun p hp hn => by rw [hA] at hp; exact hB' p hp hn⟩
theorem take_drop_cons {α : Type} {l : List α} {n j : Nat} {x : α} (h : l[j]? = some x) (hj : j < n) : (l.take n).drop j = x :: (l.take n).drop (j + 1) := by
  have h1 : (l.take n)[j]? = some x := by rw [List.getElem?_take, if_pos hj]; exact h
  exact (by rw [List.drop_eq_getElem_cons (List.getElem?_eq_some_iff.1 h1).1, (List.getElem?_eq_some_iff.1 h1).2])
theorem got_cons {α : Type} {R : Lies α} {w : World} {gs : List Nat} {xs : List Value} {l : List α} {x : Value} {a : α} (hx : R w (fun g => g ∈ gs) x a) (h : Got R w gs xs l) : Got R w gs (x :: xs) (a :: l) := ⟨fun i y b hy hb => by
  cases i with
  | zero =>
    cases hy
    cases hb
    exact hx
  | succ i => exact h.at_ i y b hy hb⟩
theorem take_drop_none {α : Type} {l : List α} {n j : Nat} (hj : n ≤ j) : (l.take n).drop j = [] := by
  rw [List.drop_eq_nil_iff, List.length_take]
  omega
set_option maxRecDepth 100000 in
set_option maxHeartbeats 8000000 in
theorem rtrim_any (l : Dat) (v : Value) (w : World) (hA : NSA w (fun _ => True) v l) (hf : FewS l) :
    Calls Tryd.prog 38 #[v] w (Gives id (fun w B v => NS w B v (trimS l)) w) := by
  obtain ⟨A', A, cA, xs, rfl, aA, hcA, hrA, -, hxA⟩ := hA
  refine calls_sat (cx := Tryd.cx 73 [3, 9, 5] [] [] w) (Tryd.ok ..) Tryd.func38 rfl [.v (.slice A' l.length cA)] rfl (by show 1 ≤ 73; omega) [] (holds_nil (Nat.le_refl _)) ?_
  have htop := hf.top
  have hmax : l.length ≤ 9223372036854775807 := Nat.le_trans (Nat.le_trans hcA.1 hcA.2) (by decide)
  obtain ⟨L, hL⟩ : ∃ L, L = l.map trimE := ⟨_, rfl⟩
  obtain ⟨M, hM⟩ : ∃ M, M = cutM L l.length := ⟨_, rfl⟩
  have hLl : L.length = l.length := by rw [hL, List.length_map]
  have hMl : M ≤ l.length := by rw [hM]; exact cutM_le L l.length
  have hMs := cutM_spec L l.length
  rw [← hM] at hMs
  have hS : trimS l = L.take M := by unfold trimS; rw [← hL, ← hM]
  rw [hS]
  repeat' ((conv => whnf); first | refine walk (Tryd.ok ..) ?_ | (refine Cnd.mk (fun h => ?_) (fun h => ?_) <;> (first | exact cndT h (by (try dsimp only); omega) | exact cndF h (by (try dsimp only); omega) | (exfalso; simp at h; omega) | simp at h | skip)) | refine kp ?_ ?_ | refine tw ?_ ?_ | refine appnil rfl ?_ | refine rawnil rfl ?_ | exact trivial | refine side2 ?_ | refine sideL2 ?_ | refine Or.inr ?_ | refine sat_drawH (Tryd.ok ..) (by kernel_rfl) ?_ | refine xi _ (And.intro rfl rfl) ?_ | refine xi _ (fun _ => And.intro rfl rfl) ?_ | refine xi _ rfl ?_)
  refine sat_fuse 77 [] rfl fun w0 hw0 => ?_
  refine sat_fuse 78 [] rfl fun w00 hw00 => ?_
  refine sat_ops (Tryd.ok ..) ?_
  repeat' ((conv => whnf); first | refine walk (Tryd.ok ..) ?_ | (refine Cnd.mk (fun h => ?_) (fun h => ?_) <;> (first | exact cndT h (by (try dsimp only); omega) | exact cndF h (by (try dsimp only); omega) | (exfalso; simp at h; omega) | simp at h | skip)) | refine kp ?_ ?_ | refine tw ?_ ?_ | refine appnil rfl ?_ | refine rawnil rfl ?_ | exact trivial | refine side2 ?_ | refine sideL2 ?_ | refine Or.inr ?_ | refine sat_drawH (Tryd.ok ..) (by kernel_rfl) ?_ | refine xi _ (And.intro rfl rfl) ?_ | refine xi _ (fun _ => And.intro rfl rfl) ?_ | refine xi _ rfl ?_)
  refine sat_loop (Tryd.ok ..) (α := Nat × Value × World × List Nat × World × List Nat) (fun s => ([(0, .yes, .v (.slice A' l.length cA)), (3, .yes, .v s.2.1), (4, .yes, .v (.bool (decide (s.1 < M)))), (5, .yes, .v (.int .i64 ((s.1 : Int) - 1)))], [(77, .own s.2.2.2.1 (Frz s.2.2.1 s.2.2.2.1)), (78, .own s.2.2.2.2.2 (Frz s.2.2.2.2.1 s.2.2.2.2.2))]))
    (fun s => s.1 ≤ l.length ∧ NS s.2.2.1 (fun g => g ∈ s.2.2.2.1) s.2.1 ((L.take M).drop s.1)) (fun s => s.1) (fun _ => rfl) ?_ ?_
  · refine ⟨(l.length, .slice none 0 0, w0, [], w00, []), ⟨Nat.le_refl _, by rw [take_drop_none hMl]; exact nest_nil⟩, ?_, ?_, rfl⟩
    all_goals ((repeat' (first | exact trivial | exact rfl | refine And.intro ?_ ?_)) <;> (try (conv => whnf)) <;> (try simp only [SV.real, SV.r2, SV.r1]))
    all_goals exact congrArg Value.bool (decide_eq_false (by omega)).symm
  rintro ⟨n, v3, w1, gs1, w2, gs2⟩ ⟨hn, hv3⟩
  dsimp only at hn hv3 ⊢
  obtain ⟨a3, n3, c3, hv⟩ : ∃ a n c, v3 = .slice a n c := by
    obtain ⟨A, cap, xs, hv, -⟩ := hv3
    exact ⟨_, _, _, hv⟩
  subst hv
  by_cases hn0 : 0 < n
  · obtain ⟨i, rfl⟩ : ∃ i, n = i + 1 := ⟨n - 1, by omega⟩
    obtain ⟨e, he⟩ : ∃ e, l[i]? = some e := ⟨_, List.getElem?_eq_getElem (by omega)⟩
    obtain ⟨x, hx, hne⟩ := nest_at hxA hrA.1 he
    obtain ⟨A2', A2, cA2, rfl, aA2, hcA2, hrA2, -⟩ := nea_row hne
    obtain ⟨p, rfl, rfl⟩ := some_of aA hrA (by omega)
    have hel := hf.el e (List.mem_of_getElem? he)
    have hmax2 : e.length ≤ 9223372036854775807 := Nat.le_trans (Nat.le_trans hcA2.1 hcA2.2) (by decide)
    repeat' ((conv => whnf); first | refine walk (Tryd.ok ..) ?_ | (refine Cnd.mk (fun h => ?_) (fun h => ?_) <;> (first | exact cndT h (by (try dsimp only); omega) | exact cndF h (by (try dsimp only); omega) | (exfalso; simp at h; omega) | simp at h | skip)) | refine kp ?_ ?_ | refine tw ?_ ?_ | refine appnil rfl ?_ | refine rawnil rfl ?_ | exact trivial | refine side2 ?_ | refine sideL2 ?_ | refine Or.inr ?_ | refine sat_drawH (Tryd.ok ..) (by kernel_rfl) ?_ | refine xi _ (And.intro rfl rfl) ?_ | refine xi _ (fun _ => And.intro rfl rfl) ?_ | refine xi _ rfl ?_ | refine xi _ (fun _ => (ro_at rfl rfl hrA hx (by omega))) ?_ | refine xi _ (ro_at rfl rfl hrA hx (by omega)) ?_)
    obtain ⟨N, hN⟩ : ∃ N, N = cutN e e.length := ⟨_, rfl⟩
    have hNl : N ≤ e.length := by rw [hN]; exact cutN_le e e.length
    have hNs := cutN_spec e e.length
    rw [← hN] at hNs
    refine sat_loop (Tryd.ok ..) (α := Nat × Value × World × List Nat) (fun s => ([(0, .yes, .v (.slice (adr (some p)) l.length cA)), (3, .yes, .v (.slice a3 n3 c3)), (4, .yes, .v (.bool (decide (i + 1 < M)))), (5, .yes, .v (.int .i64 i)), (6, .yes, .v s.2.1), (7, .yes, .v (.int .i64 ((s.1 : Int) - 1)))], [(77, .own gs1 (Frz w1 gs1)), (78, .own s.2.2.2 (Frz s.2.2.1 s.2.2.2))]))
      (fun s => s.1 ≤ e.length ∧ NE s.2.2.1 (fun g => g ∈ s.2.2.2) s.2.1 ((e.take N).drop s.1)) (fun s => s.1) (fun _ => rfl) ?_ ?_
    · refine ⟨(e.length, .slice none 0 0, w2, gs2), ⟨Nat.le_refl _, by rw [take_drop_none hNl]; exact nest_nil⟩, ?_, ?_, rfl⟩
      all_goals ((repeat' (first | exact trivial | exact rfl | refine And.intro ?_ ?_)) <;> (try (conv => whnf)) <;> (try simp only [SV.real, SV.r2, SV.r1]))
      all_goals exact congrArg (Value.int IntKind.i64) (by omega)
    rintro ⟨j, v6, w4, gs4⟩ ⟨hj, hv6⟩
    dsimp only at hj hv6 ⊢
    obtain ⟨A6, c6, rfl, hc6, hr6, hB6⟩ := ne_rowC hv6
    have hcl : ((e.take N).drop j).length = N - j := by rw [List.length_drop, List.length_take]; omega
    rw [hcl] at hv6 hc6 hr6 hB6 ⊢
    by_cases hj0 : 0 < j
    · obtain ⟨m, rfl⟩ : ∃ m, j = m + 1 := ⟨j - 1, by omega⟩
      obtain ⟨s, hs⟩ : ∃ s, e[m]? = some s := ⟨_, List.getElem?_eq_getElem (by omega)⟩
      obtain ⟨p2, rfl, rfl⟩ := some_of aA2 hrA2 (by omega)
      repeat' ((conv => whnf); first | refine walk (Tryd.ok ..) ?_ | (refine Cnd.mk (fun h => ?_) (fun h => ?_) <;> (first | exact cndT h (by (try dsimp only); omega) | exact cndF h (by (try dsimp only); omega) | (exfalso; simp at h; omega) | simp at h | skip)) | refine kp ?_ ?_ | refine tw ?_ ?_ | refine appnil rfl ?_ | refine rawnil rfl ?_ | exact trivial | refine side2 ?_ | refine sideL2 ?_ | refine Or.inr ?_ | refine sat_drawH (Tryd.ok ..) (by kernel_rfl) ?_ | refine xi _ (And.intro rfl rfl) ?_ | refine xi _ (fun _ => And.intro rfl rfl) ?_ | refine xi _ rfl ?_ | refine xi _ (fun _ => (ro_at rfl rfl hrA hx rfl)) ?_ | refine xi _ (ro_at rfl rfl hrA hx rfl) ?_ | refine xi _ (fun _ => (ro_at rfl rfl hrA2 (str_cell hs) (by omega))) ?_ | refine xi _ (ro_at rfl rfl hrA2 (str_cell hs) (by omega)) ?_)
      · have hmN : m < N := by
          rcases Nat.lt_or_ge m N with h1 | h1
          · exact h1
          · exfalso
            have h2 := hNs.1 m h1 (by omega)
            have h3 := cutN_pos e e.length (by omega)
            rw [hs] at h2
            rcases h with (h | h) | h
            · omega
            · omega
            · exact h (Option.some.inj h2)
        (conv => whnf)
        intro g49 hg49
        repeat' ((conv => whnf); first | refine walk (Tryd.ok ..) ?_ | (refine Cnd.mk (fun h => ?_) (fun h => ?_) <;> (first | exact cndT h (by (try dsimp only); omega) | exact cndF h (by (try dsimp only); omega) | (exfalso; simp at h; omega) | simp at h | skip)) | refine kp ?_ ?_ | refine tw ?_ ?_ | refine appnil rfl ?_ | refine rawnil rfl ?_ | exact trivial | refine side2 ?_ | refine sideL2 ?_ | refine Or.inr ?_ | refine sat_drawH (Tryd.ok ..) (by kernel_rfl) ?_ | refine xi _ (And.intro rfl rfl) ?_ | refine xi _ (fun _ => And.intro rfl rfl) ?_ | refine xi _ rfl ?_)
        (conv => whnf)
        refine raw_frz (d := 78) hr6 hB6 rfl ?_
        have hall := strs_all ((e.take N).drop (m + 1))
        repeat' ((conv => whnf); first | refine walk (Tryd.ok ..) ?_ | (refine Cnd.mk (fun h => ?_) (fun h => ?_) <;> (first | exact cndT h (by (try dsimp only); omega) | exact cndF h (by (try dsimp only); omega) | (exfalso; simp at h; omega) | simp at h | skip)) | refine kp ?_ ?_ | refine tw ?_ ?_ | refine appnil rfl ?_ | refine rawnil rfl ?_ | exact trivial | refine side2 ?_ | refine sideL2 ?_ | refine Or.inr ?_ | refine sat_drawH (Tryd.ok ..) (by kernel_rfl) ?_ | refine xi _ (And.intro rfl rfl) ?_ | refine xi _ (fun _ => And.intro rfl rfl) ?_ | refine xi _ rfl ?_)
        (conv => whnf)
        intro A51 c51
        repeat' ((conv => whnf); first | refine walk (Tryd.ok ..) ?_ | (refine Cnd.mk (fun h => ?_) (fun h => ?_) <;> (first | exact cndT h (by (try dsimp only); omega) | exact cndF h (by (try dsimp only); omega) | (exfalso; simp at h; omega) | simp at h | skip)) | refine kp ?_ ?_ | refine tw ?_ ?_ | refine appnil rfl ?_ | refine rawnil rfl ?_ | exact trivial | refine side2 ?_ | refine sideL2 ?_ | refine Or.inr ?_ | refine sat_drawH (Tryd.ok ..) (by kernel_rfl) ?_ | refine xi _ (And.intro rfl rfl) ?_ | refine xi _ (fun _ => And.intro rfl rfl) ?_ | refine xi _ rfl ?_)
        refine sat_fuse 78 [49] rfl fun w5 hw5 => ?_
        have hcur : (e.take N).drop m = s :: (e.take N).drop (m + 1) := take_drop_cons hs hmN
        have h5 := nest_fuseN (R := Text) [49] 49 (l := (e.take N).drop m) (by rw [hcur, List.length_cons, hcl]; omega) hw5 rfl rfl (by rw [hcur]; exact got_strs (s :: (e.take N).drop (m + 1)))
        refine sat_ops (Tryd.ok ..) ?_
        repeat' ((conv => whnf); first | refine walk (Tryd.ok ..) ?_ | (refine Cnd.mk (fun h => ?_) (fun h => ?_) <;> (first | exact cndT h (by (try dsimp only); omega) | exact cndF h (by (try dsimp only); omega) | (exfalso; simp at h; omega) | simp at h | skip)) | refine kp ?_ ?_ | refine tw ?_ ?_ | refine appnil rfl ?_ | refine rawnil rfl ?_ | exact trivial | refine side2 ?_ | refine sideL2 ?_ | refine Or.inr ?_ | refine sat_drawH (Tryd.ok ..) (by kernel_rfl) ?_ | refine xi _ (And.intro rfl rfl) ?_ | refine xi _ (fun _ => And.intro rfl rfl) ?_ | refine xi _ rfl ?_)
        refine ⟨(m, .slice (adr A51) (1 + (N - (m + 1))) c51, w5, _), ⟨⟨by omega, h5⟩, by omega⟩, ?_, ?_, rfl⟩
        all_goals ((repeat' (first | exact trivial | exact rfl | refine And.intro ?_ ?_)) <;> (try (conv => whnf)) <;> (try simp only [SV.real, SV.r2, SV.r1]))
        all_goals exact congrArg (Value.int IntKind.i64) (by omega)
      · have hmN : N ≤ m := by
          rcases Nat.lt_or_ge m N with h1 | h1
          · exfalso
            have h2 : N = m + 1 := by omega
            rcases hNs.2 with h3 | h3
            · omega
            · rw [h2] at h3
              exact h3 (by rw [show m + 1 - 1 = m from rfl, hs, h.2]; rfl)
          · exact h1
        have h0 : N - (m + 1) = 0 := by omega
        refine sat_ops (Tryd.ok ..) ?_
        repeat' ((conv => whnf); first | refine walk (Tryd.ok ..) ?_ | (refine Cnd.mk (fun h => ?_) (fun h => ?_) <;> (first | exact cndT h (by (try dsimp only); omega) | exact cndF h (by (try dsimp only); omega) | (exfalso; simp at h; omega) | simp at h | skip)) | refine kp ?_ ?_ | refine tw ?_ ?_ | refine appnil rfl ?_ | refine rawnil rfl ?_ | exact trivial | refine side2 ?_ | refine sideL2 ?_ | refine Or.inr ?_ | refine sat_drawH (Tryd.ok ..) (by kernel_rfl) ?_ | refine xi _ (And.intro rfl rfl) ?_ | refine xi _ (fun _ => And.intro rfl rfl) ?_ | refine xi _ rfl ?_)
        refine ⟨(m, .slice (adr A6) (N - (m + 1)) c6, w4, gs4), ⟨⟨by omega, by rw [take_drop_none hmN]; rw [take_drop_none (show N ≤ m + 1 by omega)] at hv6; exact hv6⟩, by omega⟩, ?_, ?_, rfl⟩
        all_goals ((repeat' (first | exact trivial | exact rfl | refine And.intro ?_ ?_)) <;> (try (conv => whnf)) <;> (try simp only [SV.real, SV.r2, SV.r1]))
        all_goals exact congrArg (Value.int IntKind.i64) (by omega)
    · obtain rfl : j = 0 := by omega
      have h3 := hv3
      obtain ⟨A3, c3', xs3, hv3', hc3, hr3, hB3, hx3⟩ := hv3
      injection hv3' with e1 e2 e3
      subst e1 e2 e3
      have hdl : ((L.take M).drop (i + 1)).length = M - (i + 1) := by rw [List.length_drop, List.length_take, hLl]; omega
      have hLi : L[i]? = some (trimE e) := by rw [hL, List.getElem?_map, he]; rfl
      have hall3 : allV xs3 = true := nest_all (R := NE) (fun _ _ _ _ h => ne_one h) (by rw [hr3.1, Nat.mul_one]) hx3
      rw [hdl] at h3 hc3 hr3 hB3 ⊢
      by_cases he0 : e = []
      · have hN0 : N = 0 := by rw [he0] at hNl; simpa using hNl
        have hte : trimE e = [emp] := by unfold trimE; rw [if_pos he0]
        subst hN0
        repeat' ((conv => whnf); first | refine walk (Tryd.ok ..) ?_ | (refine Cnd.mk (fun h => ?_) (fun h => ?_) <;> (first | exact cndT h (by (try dsimp only); omega) | exact cndF h (by (try dsimp only); omega) | (exfalso; simp at h; omega) | simp at h | skip)) | refine kp ?_ ?_ | refine tw ?_ ?_ | refine appnil rfl ?_ | refine rawnil rfl ?_ | exact trivial | refine side2 ?_ | refine sideL2 ?_ | refine Or.inr ?_ | refine sat_drawH (Tryd.ok ..) (by kernel_rfl) ?_ | refine xi _ (And.intro rfl rfl) ?_ | refine xi _ (fun _ => And.intro rfl rfl) ?_ | refine xi _ rfl ?_)
        · (conv => whnf)
          intro g55 hg55
          repeat' ((conv => whnf); first | refine walk (Tryd.ok ..) ?_ | (refine Cnd.mk (fun h => ?_) (fun h => ?_) <;> (first | exact cndT h (by (try dsimp only); omega) | exact cndF h (by (try dsimp only); omega) | (exfalso; simp at h; omega) | simp at h | skip)) | refine kp ?_ ?_ | refine tw ?_ ?_ | refine appnil rfl ?_ | refine rawnil rfl ?_ | exact trivial | refine side2 ?_ | refine sideL2 ?_ | refine Or.inr ?_ | refine sat_drawH (Tryd.ok ..) (by kernel_rfl) ?_ | refine xi _ (And.intro rfl rfl) ?_ | refine xi _ (fun _ => And.intro rfl rfl) ?_ | refine xi _ rfl ?_)
          · have hiM : i < M := by omega
            (conv => whnf)
            intro g69 hg69
            repeat' ((conv => whnf); first | refine walk (Tryd.ok ..) ?_ | (refine Cnd.mk (fun h => ?_) (fun h => ?_) <;> (first | exact cndT h (by (try dsimp only); omega) | exact cndF h (by (try dsimp only); omega) | (exfalso; simp at h; omega) | simp at h | skip)) | refine kp ?_ ?_ | refine tw ?_ ?_ | refine appnil rfl ?_ | refine rawnil rfl ?_ | exact trivial | refine side2 ?_ | refine sideL2 ?_ | refine Or.inr ?_ | refine sat_drawH (Tryd.ok ..) (by kernel_rfl) ?_ | refine xi _ (And.intro rfl rfl) ?_ | refine xi _ (fun _ => And.intro rfl rfl) ?_ | refine xi _ rfl ?_)
            (conv => whnf)
            refine raw_frz (d := 77) hr3 hB3 rfl ?_
            repeat' ((conv => whnf); first | refine walk (Tryd.ok ..) ?_ | (refine Cnd.mk (fun h => ?_) (fun h => ?_) <;> (first | exact cndT h (by (try dsimp only); omega) | exact cndF h (by (try dsimp only); omega) | (exfalso; simp at h; omega) | simp at h | skip)) | refine kp ?_ ?_ | refine tw ?_ ?_ | refine appnil rfl ?_ | refine rawnil rfl ?_ | exact trivial | refine side2 ?_ | refine sideL2 ?_ | refine Or.inr ?_ | refine sat_drawH (Tryd.ok ..) (by kernel_rfl) ?_ | refine xi _ (And.intro rfl rfl) ?_ | refine xi _ (fun _ => And.intro rfl rfl) ?_ | refine xi _ rfl ?_)
            (conv => whnf)
            intro A71 c71
            repeat' ((conv => whnf); first | refine walk (Tryd.ok ..) ?_ | (refine Cnd.mk (fun h => ?_) (fun h => ?_) <;> (first | exact cndT h (by (try dsimp only); omega) | exact cndF h (by (try dsimp only); omega) | (exfalso; simp at h; omega) | simp at h | skip)) | refine kp ?_ ?_ | refine tw ?_ ?_ | refine appnil rfl ?_ | refine rawnil rfl ?_ | exact trivial | refine side2 ?_ | refine sideL2 ?_ | refine Or.inr ?_ | refine sat_drawH (Tryd.ok ..) (by kernel_rfl) ?_ | refine xi _ (And.intro rfl rfl) ?_ | refine xi _ (fun _ => And.intro rfl rfl) ?_ | refine xi _ rfl ?_)
            refine sat_fuse 77 [77, 55, 69] rfl fun w5 hw5 => ?_
            have hcur : (L.take M).drop i = trimE e :: (L.take M).drop (i + 1) := take_drop_cons hLi hiM
            have hgot := got_cons (hte.symm ▸ blk_ownN Text [77, 55, 69] 55 (g := g55) (n := 1) [emp] [.string emp] hw5 rfl rfl rfl (by unfold maxLen; simp) rfl ⟨rfl, trivial⟩) (Got.fuse ne_stays [77, 55, 69] 77 (Got.mk hx3) hw5 rfl rfl)
            rw [← hcur] at hgot
            have h5 := nest_fuseN (R := NE) [77, 55, 69] 69 (l := (L.take M).drop i) (by rw [hcur, List.length_cons, hdl]; omega) hw5 rfl rfl hgot
            refine sat_fuse 78 [] rfl fun w6 hw6 => ?_
            refine sat_ops (Tryd.ok ..) ?_
            repeat' ((conv => whnf); first | refine walk (Tryd.ok ..) ?_ | (refine Cnd.mk (fun h => ?_) (fun h => ?_) <;> (first | exact cndT h (by (try dsimp only); omega) | exact cndF h (by (try dsimp only); omega) | (exfalso; simp at h; omega) | simp at h | skip)) | refine kp ?_ ?_ | refine tw ?_ ?_ | refine appnil rfl ?_ | refine rawnil rfl ?_ | exact trivial | refine side2 ?_ | refine sideL2 ?_ | refine Or.inr ?_ | refine sat_drawH (Tryd.ok ..) (by kernel_rfl) ?_ | refine xi _ (And.intro rfl rfl) ?_ | refine xi _ (fun _ => And.intro rfl rfl) ?_ | refine xi _ rfl ?_)
            refine ⟨(i, .slice (adr A71) (1 + (M - (i + 1))) c71, w5, _, w6, []), ⟨⟨by omega, h5⟩, by omega⟩, ?_, ?_, rfl⟩
            all_goals ((repeat' (first | exact trivial | exact rfl | refine And.intro ?_ ?_)) <;> (try (conv => whnf)) <;> (try simp only [SV.real, SV.r2, SV.r1]))
            all_goals first | exact congrArg (Value.int IntKind.i64) (by omega) | exact congrArg Value.bool (decide_eq_true hiM).symm
          · have hiM : M ≤ i := by
              rcases Nat.lt_or_ge i M with h1 | h1
              · exfalso
                rcases hMs.2 with h4 | h4
                · omega
                · rw [show M - 1 = i by omega, hLi, hte] at h4
                  exact h4 rfl
              · exact h1
            refine sat_ops (Tryd.ok ..) ?_
            repeat' ((conv => whnf); first | refine walk (Tryd.ok ..) ?_ | (refine Cnd.mk (fun h => ?_) (fun h => ?_) <;> (first | exact cndT h (by (try dsimp only); omega) | exact cndF h (by (try dsimp only); omega) | (exfalso; simp at h; omega) | simp at h | skip)) | refine kp ?_ ?_ | refine tw ?_ ?_ | refine appnil rfl ?_ | refine rawnil rfl ?_ | exact trivial | refine side2 ?_ | refine sideL2 ?_ | refine Or.inr ?_ | refine sat_drawH (Tryd.ok ..) (by kernel_rfl) ?_ | refine xi _ (And.intro rfl rfl) ?_ | refine xi _ (fun _ => And.intro rfl rfl) ?_ | refine xi _ rfl ?_)
            refine ⟨(i, .slice (adr A3) (M - (i + 1)) c3, w1, gs1, w4, gs4), ⟨⟨by omega, by rw [take_drop_none hiM]; rw [take_drop_none (show M ≤ i + 1 by omega)] at h3; exact h3⟩, by omega⟩, ?_, ?_, rfl⟩
            all_goals ((repeat' (first | exact trivial | exact rfl | refine And.intro ?_ ?_)) <;> (try (conv => whnf)) <;> (try simp only [SV.real, SV.r2, SV.r1]))
            all_goals first | exact congrArg (Value.int IntKind.i64) (by omega) | exact congrArg Value.bool (by rw [decide_eq_false (by omega), decide_eq_false (by omega)])
      · have hN1 : 0 < N := by rw [hN]; exact cutN_pos e e.length (List.length_pos_iff.2 he0)
        have hte : trimE e = e.take N := by unfold trimE; rw [if_neg he0, ← hN]
        obtain ⟨p6, rfl, _⟩ := hr6.some_ (by omega)
        obtain ⟨s0, hs0⟩ : ∃ s, ((e.take N).drop 0)[0]? = some s := ⟨_, List.getElem?_eq_getElem (by omega)⟩
        repeat' ((conv => whnf); first | refine walk (Tryd.ok ..) ?_ | (refine Cnd.mk (fun h => ?_) (fun h => ?_) <;> (first | exact cndT h (by (try dsimp only); omega) | exact cndF h (by (try dsimp only); omega) | (exfalso; simp at h; omega) | simp at h | skip)) | refine kp ?_ ?_ | refine tw ?_ ?_ | refine appnil rfl ?_ | refine rawnil rfl ?_ | exact trivial | refine side2 ?_ | refine sideL2 ?_ | refine Or.inr ?_ | refine sat_drawH (Tryd.ok ..) (by kernel_rfl) ?_ | refine xi _ (And.intro rfl rfl) ?_ | refine xi _ (fun _ => And.intro rfl rfl) ?_ | refine xi _ rfl ?_ | refine xi _ (fun _ => (frz_at (d := 78) hr6 hB6 (str_cell hs0) rfl rfl)) ?_ | refine xi _ (frz_at (d := 78) hr6 hB6 (str_cell hs0) rfl rfl) ?_)
        · have hiM : i < M := by
            rcases Nat.lt_or_ge i M with h1 | h1
            · exact h1
            · exfalso
              have h4 := hMs.1 i h1 (by omega)
              rw [hLi, hte] at h4
              have h5 : e.take N = [emp] := Option.some.inj h4
              rw [List.drop_zero, h5] at hcl hs0
              cases hs0
              rcases h with (h | h) | h
              · omega
              · simp at hcl; omega
              · exact h rfl
          rw [List.drop_zero, ← hte] at hv6
          (conv => whnf)
          intro g69 hg69
          repeat' ((conv => whnf); first | refine walk (Tryd.ok ..) ?_ | (refine Cnd.mk (fun h => ?_) (fun h => ?_) <;> (first | exact cndT h (by (try dsimp only); omega) | exact cndF h (by (try dsimp only); omega) | (exfalso; simp at h; omega) | simp at h | skip)) | refine kp ?_ ?_ | refine tw ?_ ?_ | refine appnil rfl ?_ | refine rawnil rfl ?_ | exact trivial | refine side2 ?_ | refine sideL2 ?_ | refine Or.inr ?_ | refine sat_drawH (Tryd.ok ..) (by kernel_rfl) ?_ | refine xi _ (And.intro rfl rfl) ?_ | refine xi _ (fun _ => And.intro rfl rfl) ?_ | refine xi _ rfl ?_)
          (conv => whnf)
          refine raw_frz (d := 77) hr3 hB3 rfl ?_
          repeat' ((conv => whnf); first | refine walk (Tryd.ok ..) ?_ | (refine Cnd.mk (fun h => ?_) (fun h => ?_) <;> (first | exact cndT h (by (try dsimp only); omega) | exact cndF h (by (try dsimp only); omega) | (exfalso; simp at h; omega) | simp at h | skip)) | refine kp ?_ ?_ | refine tw ?_ ?_ | refine appnil rfl ?_ | refine rawnil rfl ?_ | exact trivial | refine side2 ?_ | refine sideL2 ?_ | refine Or.inr ?_ | refine sat_drawH (Tryd.ok ..) (by kernel_rfl) ?_ | refine xi _ (And.intro rfl rfl) ?_ | refine xi _ (fun _ => And.intro rfl rfl) ?_ | refine xi _ rfl ?_)
          (conv => whnf)
          intro A71 c71
          repeat' ((conv => whnf); first | refine walk (Tryd.ok ..) ?_ | (refine Cnd.mk (fun h => ?_) (fun h => ?_) <;> (first | exact cndT h (by (try dsimp only); omega) | exact cndF h (by (try dsimp only); omega) | (exfalso; simp at h; omega) | simp at h | skip)) | refine kp ?_ ?_ | refine tw ?_ ?_ | refine appnil rfl ?_ | refine rawnil rfl ?_ | exact trivial | refine side2 ?_ | refine sideL2 ?_ | refine Or.inr ?_ | refine sat_drawH (Tryd.ok ..) (by kernel_rfl) ?_ | refine xi _ (And.intro rfl rfl) ?_ | refine xi _ (fun _ => And.intro rfl rfl) ?_ | refine xi _ rfl ?_)
          refine sat_fuse 77 [77, 78, 69] rfl fun w5 hw5 => ?_
          have hcur : (L.take M).drop i = trimE e :: (L.take M).drop (i + 1) := take_drop_cons hLi hiM
          have hgot := got_cons (frz_fuse ne_stays [77, 78, 69] 78 hv6 hw5 rfl rfl) (Got.fuse ne_stays [77, 78, 69] 77 (Got.mk hx3) hw5 rfl rfl)
          rw [← hcur] at hgot
          have h5 := nest_fuseN (R := NE) [77, 78, 69] 69 (l := (L.take M).drop i) (by rw [hcur, List.length_cons, hdl]; omega) hw5 rfl rfl hgot
          refine sat_fuse 78 [] rfl fun w6 hw6 => ?_
          refine sat_ops (Tryd.ok ..) ?_
          repeat' ((conv => whnf); first | refine walk (Tryd.ok ..) ?_ | (refine Cnd.mk (fun h => ?_) (fun h => ?_) <;> (first | exact cndT h (by (try dsimp only); omega) | exact cndF h (by (try dsimp only); omega) | (exfalso; simp at h; omega) | simp at h | skip)) | refine kp ?_ ?_ | refine tw ?_ ?_ | refine appnil rfl ?_ | refine rawnil rfl ?_ | exact trivial | refine side2 ?_ | refine sideL2 ?_ | refine Or.inr ?_ | refine sat_drawH (Tryd.ok ..) (by kernel_rfl) ?_ | refine xi _ (And.intro rfl rfl) ?_ | refine xi _ (fun _ => And.intro rfl rfl) ?_ | refine xi _ rfl ?_)
          refine ⟨(i, .slice (adr A71) (1 + (M - (i + 1))) c71, w5, _, w6, []), ⟨⟨by omega, h5⟩, by omega⟩, ?_, ?_, rfl⟩
          all_goals ((repeat' (first | exact trivial | exact rfl | refine And.intro ?_ ?_)) <;> (try (conv => whnf)) <;> (try simp only [SV.real, SV.r2, SV.r1]))
          all_goals first | exact congrArg (Value.int IntKind.i64) (by omega) | exact congrArg Value.bool (decide_eq_true hiM).symm
        · have hiM : M ≤ i := by
            rcases Nat.lt_or_ge i M with h1 | h1
            · exfalso
              rcases hMs.2 with h4 | h4
              · omega
              · rw [show M - 1 = i by omega, hLi, hte] at h4
                refine h4 ?_
                have h5 : (e.take N).length = 1 := by rw [List.drop_zero] at hcl; omega
                obtain ⟨c, hc⟩ := List.length_eq_one_iff.1 h5
                rw [List.drop_zero, hc] at hs0
                cases hs0
                rw [hc, h.2]
                rfl
            · exact h1
          refine sat_ops (Tryd.ok ..) ?_
          repeat' ((conv => whnf); first | refine walk (Tryd.ok ..) ?_ | (refine Cnd.mk (fun h => ?_) (fun h => ?_) <;> (first | exact cndT h (by (try dsimp only); omega) | exact cndF h (by (try dsimp only); omega) | (exfalso; simp at h; omega) | simp at h | skip)) | refine kp ?_ ?_ | refine tw ?_ ?_ | refine appnil rfl ?_ | refine rawnil rfl ?_ | exact trivial | refine side2 ?_ | refine sideL2 ?_ | refine Or.inr ?_ | refine sat_drawH (Tryd.ok ..) (by kernel_rfl) ?_ | refine xi _ (And.intro rfl rfl) ?_ | refine xi _ (fun _ => And.intro rfl rfl) ?_ | refine xi _ rfl ?_)
          refine ⟨(i, .slice (adr A3) (M - (i + 1)) c3, w1, gs1, w4, gs4), ⟨⟨by omega, by rw [take_drop_none hiM]; rw [take_drop_none (show M ≤ i + 1 by omega)] at h3; exact h3⟩, by omega⟩, ?_, ?_, rfl⟩
          all_goals ((repeat' (first | exact trivial | exact rfl | refine And.intro ?_ ?_)) <;> (try (conv => whnf)) <;> (try simp only [SV.real, SV.r2, SV.r1]))
          all_goals first | exact congrArg (Value.int IntKind.i64) (by omega) | exact congrArg Value.bool (by rw [decide_eq_false (by omega), decide_eq_false (by omega)])
  · obtain rfl : n = 0 := by omega
    rw [List.drop_zero] at hv3
    repeat' ((conv => whnf); first | refine walk (Tryd.ok ..) ?_ | (refine Cnd.mk (fun h => ?_) (fun h => ?_) <;> (first | exact cndT h (by (try dsimp only); omega) | exact cndF h (by (try dsimp only); omega) | (exfalso; simp at h; omega) | simp at h | skip)) | refine kp ?_ ?_ | refine tw ?_ ?_ | refine appnil rfl ?_ | refine rawnil rfl ?_ | exact trivial | refine side2 ?_ | refine sideL2 ?_ | refine Or.inr ?_ | refine sat_drawH (Tryd.ok ..) (by kernel_rfl) ?_ | refine xi _ (And.intro rfl rfl) ?_ | refine xi _ (fun _ => And.intro rfl rfl) ?_ | refine xi _ rfl ?_)
    exact done_nest (mk := id) (fun w w' B v h hb => ns_stays w w' B B v _ h hb (fun _ h => h)) rfl rfl 77 rfl hv3 rfl
end Go.Proofs.YtdohcglpcgahaaaDoor
