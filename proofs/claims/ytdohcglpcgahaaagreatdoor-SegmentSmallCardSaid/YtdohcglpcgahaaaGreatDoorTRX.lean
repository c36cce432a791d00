/-
  The walk of the reference's Trim. The walk of the law's trims.
-/
import Derived.Test.YtdohcglpcgahaaaGreatDoorTP
import Derived.Test.YtdohcglpcgahaaaGreatDoorSR1
import Derived.Test.YtdohcglpcgahaaaGreatDoorW2
import Derived.Test.YtdohcglpcgahaaaGreatDoorNX
import Derived.Test.YtdohcglpcgahaaaGreatDoorSWX
set_option linter.unusedSimpArgs false
set_option linter.unusedVariables false
namespace Go.Proofs.YtdohcglpcgahaaaGreatDoor
section
open Go Sat Go.RowKit Go.PlainAid
theorem ne_rowC {w : World} {v : Value} {e : List ByteArray} {B : Nat → Prop} (h : NE w B v e) : ∃ A cap, v = .slice (adr A) e.length cap ∧ (e.length ≤ cap ∧ cap ≤ maxLen) ∧ Ro w A e.length 1 (e.map Value.string) ∧ ∀ p, A = some p → 0 < e.length → B p.1 ∧ Cells0 w p.1 := by
  have h0 := h
  obtain ⟨A, cap, hv, hc, hro, hB⟩ := ne_row h
  obtain ⟨A', cap', xs, hv', hc', hro', hB', hx'⟩ := h0
  rw [hv] at hv'
  injection hv' with e1 e2 e3
  have hA : A = A' := by
    cases A with
    | none => cases A' with
      | none => rfl
      | some q => cases e1
    | some p => cases A' with
      | none => cases e1
      | some q =>
        simp only [adr, Option.map_some, Option.some.injEq, Addr.mk.injEq] at e1
        congr 1
        exact Prod.ext e1.1 e1.2.1
  exact ⟨A, cap, hv, hc, hro, fun p hp hn => by rw [hA] at hp; exact hB' p hp hn⟩
theorem take_drop_cons {α : Type} {l : List α} {n j : Nat} {x : α} (h : l[j]? = some x) (hj : j < n) : (l.take n).drop j = x :: (l.take n).drop (j + 1) := by
  have h1 : (l.take n)[j]? = some x := by rw [List.getElem?_take, if_pos hj]; exact h
  exact (by rw [List.drop_eq_getElem_cons (List.getElem?_eq_some_iff.1 h1).1, (List.getElem?_eq_some_iff.1 h1).2])
theorem got_cons {α : Type} {R : Lies α} {w : World} {gs : List Nat} {xs : List Value} {l : List α} {x : Value} {a : α} (hx : R w (fun g => g ∈ gs) x a) (h : Got R w gs xs l) : Got R w gs (x :: xs) (a :: l) := ⟨fun i y b hy hb => by
  cases i with
  | zero =>
    cases hy
    cases hb
    exact hx
  | succ i => exact h.at_ i y b hy hb⟩
theorem take_drop_none {α : Type} {l : List α} {n j : Nat} (hj : n ≤ j) : (l.take n).drop j = [] := by
  rw [List.drop_eq_nil_iff, List.length_take]
  omega
set_option maxRecDepth 100000 in
set_option maxHeartbeats 8000000 in
theorem rtrim_any (l : Dat) (v : Value) (w : World) (hA : NSA w (fun _ => True) v l) (hf : FewS l) :
    Calls Tryz.prog 22 #[v] w (Gives id (fun w B v => NS w B v (trimS l)) w) := by
  obtain ⟨A', A, cA, xs, rfl, aA, hcA, hrA, -, hxA⟩ := hA
  refine calls_sat (cx := Tryz.cx 73 [3, 9, 5] [] [] w) (Tryz.ok ..) Tryz.func22 rfl [.v (.slice A' l.length cA)] rfl (by show 1 ≤ 73; omega) [] (holds_nil (Nat.le_refl _)) ?_
  have htop := hf.top
  have hmax : l.length ≤ 9223372036854775807 := Nat.le_trans (Nat.le_trans hcA.1 hcA.2) (by decide)
  obtain ⟨L, hL⟩ : ∃ L, L = l.map trimE := ⟨_, rfl⟩
  obtain ⟨M, hM⟩ : ∃ M, M = cutM L l.length := ⟨_, rfl⟩
  have hLl : L.length = l.length := by rw [hL, List.length_map]
  have hMl : M ≤ l.length := by rw [hM]; exact cutM_le L l.length
  have hMs := cutM_spec L l.length
  rw [← hM] at hMs
  have hS : trimS l = L.take M := by unfold trimS; rw [← hL, ← hM]
  rw [hS]
  repeat' ((conv => whnf); first | refine walk (Tryz.ok ..) ?_ | fail)
  refine sat_fuse 77 [] rfl fun w0 hw0 => ?_
  refine sat_fuse 78 [] rfl fun w00 hw00 => ?_
  refine sat_ops (Tryz.ok ..) ?_
  repeat' ((conv => whnf); first | refine walk (Tryz.ok ..) ?_ | refine sideL2 ?_ | fail)
  refine sat_loop (Tryz.ok ..) (α := Nat × Value × World × List Nat × World × List Nat) (fun s => ([(0, .yes, .v (.slice A' l.length cA)), (3, .yes, .v s.2.1), (4, .yes, .v (.bool (decide (s.1 < M)))), (5, .yes, .v (.int .i64 ((s.1 : Int) - 1)))], [(77, .own s.2.2.2.1 (Frz s.2.2.1 s.2.2.2.1)), (78, .own s.2.2.2.2.2 (Frz s.2.2.2.2.1 s.2.2.2.2.2))]))
    (fun s => s.1 ≤ l.length ∧ NS s.2.2.1 (fun g => g ∈ s.2.2.2.1) s.2.1 ((L.take M).drop s.1)) (fun s => s.1) (fun _ => rfl) ?_ ?_
  · refine ⟨(l.length, .slice none 0 0, w0, [], w00, []), ⟨Nat.le_refl _, by rw [take_drop_none hMl]; exact nest_nil⟩, ?_, ?_, rfl⟩
    all_goals ((repeat' (first | exact trivial | exact rfl | refine And.intro ?_ ?_)) <;> (try (conv => whnf)) <;> (try simp only [SV.real, SV.r2, SV.r1]))
    all_goals exact congrArg Value.bool (decide_eq_false (by omega)).symm
  rintro ⟨n, v3, w1, gs1, w2, gs2⟩ ⟨hn, hv3⟩
  dsimp only at hn hv3 ⊢
  obtain ⟨a3, n3, c3, hv⟩ : ∃ a n c, v3 = .slice a n c := by
    obtain ⟨A, cap, xs, hv, -⟩ := hv3
    exact ⟨_, _, _, hv⟩
  subst hv
  by_cases hn0 : 0 < n
  · obtain ⟨i, rfl⟩ : ∃ i, n = i + 1 := ⟨n - 1, by omega⟩
    obtain ⟨e, he⟩ : ∃ e, l[i]? = some e := ⟨_, List.getElem?_eq_getElem (by omega)⟩
    obtain ⟨x, hx, hne⟩ := nest_at hxA hrA.1 he
    obtain ⟨A2', A2, cA2, rfl, aA2, hcA2, hrA2, -⟩ := nea_row hne
    obtain ⟨p, rfl, rfl⟩ := some_of aA hrA (by omega)
    have hel := hf.el e (List.mem_of_getElem? he)
    have hmax2 : e.length ≤ 9223372036854775807 := Nat.le_trans (Nat.le_trans hcA2.1 hcA2.2) (by decide)
    repeat' ((conv => whnf); first | refine walk (Tryz.ok ..) ?_ | (refine Cnd.mk (fun h => ?_) (fun h => ?_) <;> (first | exact cndT h (by (try dsimp only); omega) | exact cndF h (by (try dsimp only); omega) | (exfalso; simp at h; omega) | simp at h | skip)) | refine side2 ?_ | refine sideL2 ?_ | refine xi _ (ro_at rfl rfl hrA hx (by omega)) ?_ | fail)
    obtain ⟨N, hN⟩ : ∃ N, N = cutN e e.length := ⟨_, rfl⟩
    have hNl : N ≤ e.length := by rw [hN]; exact cutN_le e e.length
    have hNs := cutN_spec e e.length
    rw [← hN] at hNs
    refine sat_loop (Tryz.ok ..) (α := Nat × Value × World × List Nat) (fun s => ([(0, .yes, .v (.slice (adr (some p)) l.length cA)), (3, .yes, .v (.slice a3 n3 c3)), (4, .yes, .v (.bool (decide (i + 1 < M)))), (5, .yes, .v (.int .i64 i)), (6, .yes, .v s.2.1), (7, .yes, .v (.int .i64 ((s.1 : Int) - 1)))], [(77, .own gs1 (Frz w1 gs1)), (78, .own s.2.2.2 (Frz s.2.2.1 s.2.2.2))]))
      (fun s => s.1 ≤ e.length ∧ NE s.2.2.1 (fun g => g ∈ s.2.2.2) s.2.1 ((e.take N).drop s.1)) (fun s => s.1) (fun _ => rfl) ?_ ?_
    · refine ⟨(e.length, .slice none 0 0, w2, gs2), ⟨Nat.le_refl _, by rw [take_drop_none hNl]; exact nest_nil⟩, ?_, ?_, rfl⟩
      all_goals ((repeat' (first | exact trivial | exact rfl | refine And.intro ?_ ?_)) <;> (try (conv => whnf)) <;> (try simp only [SV.real, SV.r2, SV.r1]))
      all_goals exact congrArg (Value.int IntKind.i64) (by omega)
    rintro ⟨j, v6, w4, gs4⟩ ⟨hj, hv6⟩
    dsimp only at hj hv6 ⊢
    obtain ⟨A6, c6, rfl, hc6, hr6, hB6⟩ := ne_rowC hv6
    have hcl : ((e.take N).drop j).length = N - j := by rw [List.length_drop, List.length_take]; omega
    rw [hcl] at hv6 hc6 hr6 hB6 ⊢
    by_cases hj0 : 0 < j
    · obtain ⟨m, rfl⟩ : ∃ m, j = m + 1 := ⟨j - 1, by omega⟩
      obtain ⟨s, hs⟩ : ∃ s, e[m]? = some s := ⟨_, List.getElem?_eq_getElem (by omega)⟩
      obtain ⟨p2, rfl, rfl⟩ := some_of aA2 hrA2 (by omega)
      repeat' ((conv => whnf); first | refine walk (Tryz.ok ..) ?_ | (refine Cnd.mk (fun h => ?_) (fun h => ?_) <;> (first | exact cndT h (by (try dsimp only); omega) | exact cndF h (by (try dsimp only); omega) | (exfalso; simp at h; omega) | simp at h | skip)) | refine side2 ?_ | refine xi _ (fun _ => (ro_at rfl rfl hrA hx rfl)) ?_ | refine xi _ (ro_at rfl rfl hrA hx rfl) ?_ | refine xi _ (fun _ => (ro_at rfl rfl hrA2 (str_cell hs) (by omega))) ?_ | refine xi _ (ro_at rfl rfl hrA2 (str_cell hs) (by omega)) ?_ | fail)
      · have hmN : m < N := by
          rcases Nat.lt_or_ge m N with h1 | h1
          · exact h1
          · exfalso
            have h2 := hNs.1 m h1 (by omega)
            have h3 := cutN_pos e e.length (by omega)
            rw [hs] at h2
            rcases h with (h | h) | h
            · omega
            · omega
            · exact h (Option.some.inj h2)
        (conv => whnf)
        intro g49 hg49
        skip
        (conv => whnf)
        refine raw_frz (d := 78) hr6 hB6 rfl ?_
        have hall := strs_all ((e.take N).drop (m + 1))
        repeat' ((conv => whnf); first | refine side2 ?_ | fail)
        (conv => whnf)
        intro A51 c51
        repeat' ((conv => whnf); first | refine walk (Tryz.ok ..) ?_ | fail)
        refine sat_fuse 78 [49] rfl fun w5 hw5 => ?_
        have hcur : (e.take N).drop m = s :: (e.take N).drop (m + 1) := take_drop_cons hs hmN
        have h5 := nest_fuseN (R := Text) [49] 49 (l := (e.take N).drop m) (by rw [hcur, List.length_cons, hcl]; omega) hw5 rfl rfl (by rw [hcur]; exact got_strs (s :: (e.take N).drop (m + 1)))
        refine sat_ops (Tryz.ok ..) ?_
        repeat' ((conv => whnf); first | refine sideL2 ?_ | fail)
        refine ⟨(m, .slice (adr A51) (1 + (N - (m + 1))) c51, w5, _), ⟨⟨by omega, h5⟩, by omega⟩, ?_, ?_, rfl⟩
        all_goals ((repeat' (first | exact trivial | exact rfl | refine And.intro ?_ ?_)) <;> (try (conv => whnf)) <;> (try simp only [SV.real, SV.r2, SV.r1]))
        all_goals exact congrArg (Value.int IntKind.i64) (by omega)
      · have hmN : N ≤ m := by
          rcases Nat.lt_or_ge m N with h1 | h1
          · exfalso
            have h2 : N = m + 1 := by omega
            rcases hNs.2 with h3 | h3
            · omega
            · rw [h2] at h3
              exact h3 (by rw [show m + 1 - 1 = m from rfl, hs, h.2]; rfl)
          · exact h1
        have h0 : N - (m + 1) = 0 := by omega
        refine sat_ops (Tryz.ok ..) ?_
        repeat' ((conv => whnf); first | refine sideL2 ?_ | fail)
        refine ⟨(m, .slice (adr A6) (N - (m + 1)) c6, w4, gs4), ⟨⟨by omega, by rw [take_drop_none hmN]; rw [take_drop_none (show N ≤ m + 1 by omega)] at hv6; exact hv6⟩, by omega⟩, ?_, ?_, rfl⟩
        all_goals ((repeat' (first | exact trivial | exact rfl | refine And.intro ?_ ?_)) <;> (try (conv => whnf)) <;> (try simp only [SV.real, SV.r2, SV.r1]))
        all_goals exact congrArg (Value.int IntKind.i64) (by omega)
    · obtain rfl : j = 0 := by omega
      have h3 := hv3
      obtain ⟨A3, c3', xs3, hv3', hc3, hr3, hB3, hx3⟩ := hv3
      injection hv3' with e1 e2 e3
      subst e1 e2 e3
      have hdl : ((L.take M).drop (i + 1)).length = M - (i + 1) := by rw [List.length_drop, List.length_take, hLl]; omega
      have hLi : L[i]? = some (trimE e) := by rw [hL, List.getElem?_map, he]; rfl
      have hall3 : allV xs3 = true := nest_all (R := NE) (fun _ _ _ _ h => ne_one h) (by rw [hr3.1, Nat.mul_one]) hx3
      rw [hdl] at h3 hc3 hr3 hB3 ⊢
      by_cases he0 : e = []
      · have hN0 : N = 0 := by rw [he0] at hNl; simpa using hNl
        have hte : trimE e = [emp] := by unfold trimE; rw [if_pos he0]
        subst hN0
        repeat' ((conv => whnf); first | refine walk (Tryz.ok ..) ?_ | (refine Cnd.mk (fun h => ?_) (fun h => ?_) <;> (first | exact cndT h (by (try dsimp only); omega) | exact cndF h (by (try dsimp only); omega) | (exfalso; simp at h; omega) | simp at h | skip)) | fail)
        · (conv => whnf)
          intro g55 hg55
          repeat' ((conv => whnf); first | refine walk (Tryz.ok ..) ?_ | (refine Cnd.mk (fun h => ?_) (fun h => ?_) <;> (first | exact cndT h (by (try dsimp only); omega) | exact cndF h (by (try dsimp only); omega) | (exfalso; simp at h; omega) | simp at h | skip)) | refine side2 ?_ | refine xi _ (fun _ => And.intro rfl rfl) ?_ | fail)
          · have hiM : i < M := by omega
            (conv => whnf)
            intro g69 hg69
            skip
            (conv => whnf)
            refine raw_frz (d := 77) hr3 hB3 rfl ?_
            repeat' ((conv => whnf); first | refine side2 ?_ | fail)
            (conv => whnf)
            intro A71 c71
            repeat' ((conv => whnf); first | refine walk (Tryz.ok ..) ?_ | fail)
            refine sat_fuse 77 [77, 55, 69] rfl fun w5 hw5 => ?_
            have hcur : (L.take M).drop i = trimE e :: (L.take M).drop (i + 1) := take_drop_cons hLi hiM
            have hgot := got_cons (hte.symm ▸ blk_ownN Text [77, 55, 69] 55 (g := g55) (n := 1) [emp] [.string emp] hw5 rfl rfl rfl (by unfold maxLen; simp) rfl ⟨rfl, trivial⟩) (Got.fuse ne_stays [77, 55, 69] 77 (Got.mk hx3) hw5 rfl rfl)
            rw [← hcur] at hgot
            have h5 := nest_fuseN (R := NE) [77, 55, 69] 69 (l := (L.take M).drop i) (by rw [hcur, List.length_cons, hdl]; omega) hw5 rfl rfl hgot
            refine sat_fuse 78 [] rfl fun w6 hw6 => ?_
            refine sat_ops (Tryz.ok ..) ?_
            repeat' ((conv => whnf); first | refine sideL2 ?_ | fail)
            refine ⟨(i, .slice (adr A71) (1 + (M - (i + 1))) c71, w5, _, w6, []), ⟨⟨by omega, h5⟩, by omega⟩, ?_, ?_, rfl⟩
            all_goals ((repeat' (first | exact trivial | exact rfl | refine And.intro ?_ ?_)) <;> (try (conv => whnf)) <;> (try simp only [SV.real, SV.r2, SV.r1]))
            all_goals first | exact congrArg (Value.int IntKind.i64) (by omega) | exact congrArg Value.bool (decide_eq_true hiM).symm
          · have hiM : M ≤ i := by
              rcases Nat.lt_or_ge i M with h1 | h1
              · exfalso
                rcases hMs.2 with h4 | h4
                · omega
                · rw [show M - 1 = i by omega, hLi, hte] at h4
                  exact h4 rfl
              · exact h1
            refine sat_ops (Tryz.ok ..) ?_
            repeat' ((conv => whnf); first | refine sideL2 ?_ | fail)
            refine ⟨(i, .slice (adr A3) (M - (i + 1)) c3, w1, gs1, w4, gs4), ⟨⟨by omega, by rw [take_drop_none hiM]; rw [take_drop_none (show M ≤ i + 1 by omega)] at h3; exact h3⟩, by omega⟩, ?_, ?_, rfl⟩
            all_goals ((repeat' (first | exact trivial | exact rfl | refine And.intro ?_ ?_)) <;> (try (conv => whnf)) <;> (try simp only [SV.real, SV.r2, SV.r1]))
            all_goals first | exact congrArg (Value.int IntKind.i64) (by omega) | exact congrArg Value.bool (by rw [decide_eq_false (by omega), decide_eq_false (by omega)])
      · have hN1 : 0 < N := by rw [hN]; exact cutN_pos e e.length (List.length_pos_iff.2 he0)
        have hte : trimE e = e.take N := by unfold trimE; rw [if_neg he0, ← hN]
        obtain ⟨p6, rfl, _⟩ := hr6.some_ (by omega)
        obtain ⟨s0, hs0⟩ : ∃ s, ((e.take N).drop 0)[0]? = some s := ⟨_, List.getElem?_eq_getElem (by omega)⟩
        repeat' ((conv => whnf); first | refine walk (Tryz.ok ..) ?_ | (refine Cnd.mk (fun h => ?_) (fun h => ?_) <;> (first | exact cndT h (by (try dsimp only); omega) | exact cndF h (by (try dsimp only); omega) | (exfalso; simp at h; omega) | simp at h | skip)) | refine side2 ?_ | refine xi _ (fun _ => (frz_at (d := 78) hr6 hB6 (str_cell hs0) rfl rfl)) ?_ | fail)
        · have hiM : i < M := by
            rcases Nat.lt_or_ge i M with h1 | h1
            · exact h1
            · exfalso
              have h4 := hMs.1 i h1 (by omega)
              rw [hLi, hte] at h4
              have h5 : e.take N = [emp] := Option.some.inj h4
              rw [List.drop_zero, h5] at hcl hs0
              cases hs0
              rcases h with (h | h) | h
              · omega
              · simp at hcl; omega
              · exact h rfl
          rw [List.drop_zero, ← hte] at hv6
          (conv => whnf)
          intro g69 hg69
          skip
          (conv => whnf)
          refine raw_frz (d := 77) hr3 hB3 rfl ?_
          repeat' ((conv => whnf); first | refine side2 ?_ | fail)
          (conv => whnf)
          intro A71 c71
          repeat' ((conv => whnf); first | refine walk (Tryz.ok ..) ?_ | fail)
          refine sat_fuse 77 [77, 78, 69] rfl fun w5 hw5 => ?_
          have hcur : (L.take M).drop i = trimE e :: (L.take M).drop (i + 1) := take_drop_cons hLi hiM
          have hgot := got_cons (frz_fuse ne_stays [77, 78, 69] 78 hv6 hw5 rfl rfl) (Got.fuse ne_stays [77, 78, 69] 77 (Got.mk hx3) hw5 rfl rfl)
          rw [← hcur] at hgot
          have h5 := nest_fuseN (R := NE) [77, 78, 69] 69 (l := (L.take M).drop i) (by rw [hcur, List.length_cons, hdl]; omega) hw5 rfl rfl hgot
          refine sat_fuse 78 [] rfl fun w6 hw6 => ?_
          refine sat_ops (Tryz.ok ..) ?_
          repeat' ((conv => whnf); first | refine sideL2 ?_ | fail)
          refine ⟨(i, .slice (adr A71) (1 + (M - (i + 1))) c71, w5, _, w6, []), ⟨⟨by omega, h5⟩, by omega⟩, ?_, ?_, rfl⟩
          all_goals ((repeat' (first | exact trivial | exact rfl | refine And.intro ?_ ?_)) <;> (try (conv => whnf)) <;> (try simp only [SV.real, SV.r2, SV.r1]))
          all_goals first | exact congrArg (Value.int IntKind.i64) (by omega) | exact congrArg Value.bool (decide_eq_true hiM).symm
        · have hiM : M ≤ i := by
            rcases Nat.lt_or_ge i M with h1 | h1
            · exfalso
              rcases hMs.2 with h4 | h4
              · omega
              · rw [show M - 1 = i by omega, hLi, hte] at h4
                refine h4 ?_
                have h5 : (e.take N).length = 1 := by rw [List.drop_zero] at hcl; omega
                obtain ⟨c, hc⟩ := List.length_eq_one_iff.1 h5
                rw [List.drop_zero, hc] at hs0
                cases hs0
                rw [hc, h.2]
                rfl
            · exact h1
          refine sat_ops (Tryz.ok ..) ?_
          repeat' ((conv => whnf); first | refine sideL2 ?_ | fail)
          refine ⟨(i, .slice (adr A3) (M - (i + 1)) c3, w1, gs1, w4, gs4), ⟨⟨by omega, by rw [take_drop_none hiM]; rw [take_drop_none (show M ≤ i + 1 by omega)] at h3; exact h3⟩, by omega⟩, ?_, ?_, rfl⟩
          all_goals ((repeat' (first | exact trivial | exact rfl | refine And.intro ?_ ?_)) <;> (try (conv => whnf)) <;> (try simp only [SV.real, SV.r2, SV.r1]))
          all_goals first | exact congrArg (Value.int IntKind.i64) (by omega) | exact congrArg Value.bool (by rw [decide_eq_false (by omega), decide_eq_false (by omega)])
  · obtain rfl : n = 0 := by omega
    rw [List.drop_zero] at hv3
    repeat' ((conv => whnf); first | refine walk (Tryz.ok ..) ?_ | (refine Cnd.mk (fun h => ?_) (fun h => ?_) <;> (first | exact cndT h (by (try dsimp only); omega) | exact cndF h (by (try dsimp only); omega) | (exfalso; simp at h; omega) | simp at h | skip)) | fail)
    exact done_nest (mk := id) (fun w w' B v h hb => ns_stays w w' B B v _ h hb (fun _ h => h)) rfl rfl 77 rfl hv3 rfl
end
section
open Go Sat Go.RowKit Go.PlainAid
set_option maxRecDepth 100000 in
set_option maxHeartbeats 8000000 in
/-- data as a list of one segment -/
theorem lists_any {R : Lies Dat} (hR : Stays R) (hsl : ∀ w B v a, R w B v a → ∃ p n c, v = .slice p n c) (d : Dat) (v : Value) (w : World) (Bd : Nat → Prop) (hA : R w Bd v d) :
    Calls Tryz.prog 20 #[v] w (Gives id (fun w B v => Nest R w (fun g => B g ∨ Bd g) v [d]) w) := by
  obtain ⟨p, n, c, rfl⟩ := hsl _ _ _ _ hA
  refine calls_sat (cx := Tryz.cx 5 [] [] [] w) (Tryz.ok ..) Tryz.func20 rfl [.v (.slice p n c)] rfl (by show 1 ≤ 5; omega) [] (holds_nil (Nat.le_refl _)) ?_
  repeat' ((conv => whnf); first | refine walk (Tryz.ok ..) ?_ | fail)
  (conv => whnf)
  intro g4 hg4
  repeat' ((conv => whnf); first | refine walk (Tryz.ok ..) ?_ | fail)
  refine done_fuse (v := .slice (some ⟨g4, 0, none⟩) 1 1) rfl rfl [4] (fun w' hw => ?_) rfl
  have hb : (HB.blk g4 54 [.v (.slice p n c)]).holds (Tryz.cx 5 [] [] [] w) w' := hw.at_ (i := 4) rfl
  refine ⟨some (g4, 0), 1, [.slice p n c], rfl, ⟨Nat.le_refl _, by unfold maxLen; simp⟩, ⟨rfl, fun _ => ⟨(g4, 0), rfl, heap_lt hb.2, fun j u hu => ?_⟩⟩, fun q hq _ => ⟨.inl (gs_sub (i := 4) rfl rfl (by cases hq; exact List.mem_singleton_self _)), by cases hq; exact ⟨_, _, hb.2⟩⟩, fun i x a hx ha => ?_⟩
  · rw [Lib.cell_of_heap hb.2]
    have hu' : [(SV.v (Value.slice p n c)).r1][j]? = some u := hu
    simpa using hu'
  · cases i with
    | zero =>
      cases hx
      cases ha
      exact hR _ _ _ _ _ _ hA (fun g _ hg => hw.keep.block g hg (fun h => (by cases h))) (fun _ h => .inr h)
    | succ i => simp at hx
theorem ite_iff {α : Type} {p q : Prop} [Decidable p] [Decidable q] (h : p ↔ q) (a b : α) : (if p then a else b) = (if q then a else b) := by
  by_cases hp : p
  · rw [if_pos hp, if_pos (h.1 hp)]
  · rw [if_neg hp, if_neg (fun hq => hp (h.2 hq))]
theorem ns_sl (w : World) (B : Nat → Prop) (v : Value) (a : Dat) (h : NS w B v a) : ∃ p n c, v = .slice p n c := by
  obtain ⟨A, cap, xs, hv, -⟩ := h
  exact ⟨_, _, _, hv⟩
theorem nsa_sl (w : World) (B : Nat → Prop) (v : Value) (a : Dat) (h : NSA w B v a) : ∃ p n c, v = .slice p n c := by
  obtain ⟨a, A, cap, xs, hv, -⟩ := h
  exact ⟨_, _, _, hv⟩
theorem nest_to {α : Type} {R : Lies α} {w : World} {B : Nat → Prop} {v : Value} {l : List α} (h : Nest R w B v l) : NestA R w B v l := nest_arg (fun _ _ _ _ h => h) h
theorem fewL_one {d : Dat} (h : FewS d) : FewL [d] := ⟨by simp, fun s hs => by rw [List.mem_singleton] at hs; subst hs; exact h.top, fun s hs e he => by rw [List.mem_singleton] at hs; subst hs; exact h.el e he⟩
set_option maxRecDepth 100000 in
set_option maxHeartbeats 16000000 in
theorem trims_any (d : Dat) (v : Value) (el co : Int) (w : World) (hA : NSA w (fun _ => True) v d) (hf : FewS d) :
    Calls Tryz.prog 6 #[v, .int .i64 el, .int .i64 co] w fun e w' => e = .returned (.bool true) ∧ Below w.heap.size w w' := by
  have hA0 := hA
  obtain ⟨A', A, cA, xs, rfl, aA, hcA, hrA, -, hxA⟩ := hA
  refine calls_sat (cx := Tryz.cx 109 [] [] [] w) (Tryz.ok ..) Tryz.func6 rfl [.v (.slice A' d.length cA), .v (.int .i64 el), .v (.int .i64 co)] rfl (by show 3 ≤ 109; omega) [] (holds_nil (Nat.le_refl _)) ?_
  have hmax : d.length ≤ 9223372036854775807 := Nat.le_trans (Nat.le_trans hcA.1 hcA.2) (by decide)
  repeat' ((conv => whnf); first | refine walk (Tryz.ok ..) ?_ | fail)
  (conv => whnf)
  refine called_nestK 900 (mk := id) (Q := fun w' B v => Nest NSA w' (fun g => B g ∨ g < w.heap.size) v [d]) (fun v => .v v) (fun _ => rfl) (fun w' hh => by exact lists_any nsa_stays nsa_sl d _ w' _ (lent_low nsa_stays nsa_narrow rfl rfl hA0 hh)) ?_
  intro w1 gs1 v1 h1 hw1
  skip
  (conv => whnf)
  refine called_nest 901 (mk := id) (Q := fun w B v => NL w B v [d]) (fun v => .v v) (fun _ => rfl) (fun w' hh => by exact own_any [d] v1 w' (nest_to (mix_nest (nest_stays nsa_stays) rfl h1 hw1 (d := 900) rfl hh _ (fun _ _ => trivial))) (fewL_one hf)) ?_
  intro w2 gs2 v2 h2
  obtain ⟨A2, c2, xs2, rfl, hc2, hr2, hB2, hx2⟩ := h2
  obtain ⟨x2, hx20, hown⟩ := nest_at hx2 hr2.1 (i := 0) (a := d) rfl
  obtain ⟨p2, rfl, _⟩ := hr2.some_ (by simp)
  have hown0 := hown
  obtain ⟨Ao, co', xo, rfl, hco, hro, hBo, hxo⟩ := hown0
  rw [show [d].length = 1 from rfl] at hc2 hr2 hB2 ⊢
  repeat' ((conv => whnf); first | refine walk (Tryz.ok ..) ?_ | refine side2 ?_ | refine xi _ (frz_at (d := 901) hr2 hB2 hx20 rfl rfl) ?_ | fail)
  (conv => whnf)
  refine called_nest 902 (mk := id) (Q := fun w B v => NS w B v (trimS d)) (fun v => .v v) (fun _ => rfl) (fun w' hh => by exact trim_any d _ w' (ns_arg (frz_nest ns_stays hown (d := 901) rfl hh)) hf) ?_
  intro w3 gs3 v3 h3
  obtain ⟨a3, n3, c3, rfl⟩ := ns_sl _ _ _ _ h3
  repeat' ((conv => whnf); first | refine walk (Tryz.ok ..) ?_ | fail)
  (conv => whnf)
  refine called_nest 903 (mk := id) (Q := fun w B v => NS w B v (trimS d)) (fun v => .v v) (fun _ => rfl) (fun w' hh => by exact rtrim_any d _ w' (lent_nest nsa_stays rfl rfl hA0 hh) hf) ?_
  intro w4 gs4 v4 h4
  obtain ⟨a4, n4, c4, rfl⟩ := ns_sl _ _ _ _ h4
  skip
  (conv => whnf)
  refine called_nestK 904 (mk := id) (Q := fun w' B v => Nest NS w' (fun g => B g ∨ g ∈ gs4) v [trimS d]) (fun v => .v v) (fun _ => rfl) (fun w' hh => by exact lists_any ns_stays ns_sl (trimS d) _ w' _ (frz_nest' ns_stays h4 (d := 903) rfl hh (fun _ h => h))) ?_
  intro w5 gs5 v5 h5 hw5
  repeat' ((conv => whnf); first | refine walk (Tryz.ok ..) ?_ | fail)
  (conv => whnf)
  refine called_nestK 905 (mk := id) (Q := fun w' B v => Nest NS w' (fun g => B g ∨ g ∈ gs3) v [trimS d]) (fun v => .v v) (fun _ => rfl) (fun w' hh => by exact lists_any ns_stays ns_sl (trimS d) _ w' _ (frz_nest' ns_stays h3 (d := 902) rfl hh (fun _ h => h))) ?_
  intro w6 gs6 v6 h6 hw6
  skip
  (conv => whnf)
  refine called_at (.v (.bool true)) rfl (fun w' hh => by
    have h := same_any [trimS d] [trimS d] v6 v5 w' (nl_arg (two_nest nl_stays h6 hw6 (d := 905) (d1 := 902) rfl hh rfl rfl _ (fun _ _ => trivial))) (nl_arg (two_nest nl_stays h5 hw5 (d := 904) (d1 := 903) rfl hh rfl rfl _ (fun _ _ => trivial)))
    rw [decide_eq_true rfl] at h
    exact h) ?_
  repeat' ((conv => whnf); first | refine side2 ?_ | (with_reducible refine Or.inr (Cnd.mk (fun _ => ?_) (fun h => absurd h (by simp)))) | fail)
  (conv => whnf)
  refine called_nestK 906 (mk := id) (Q := fun w' B v => Nest NS w' (fun g => B g ∨ g ∈ gs2) v [d]) (fun v => .v v) (fun _ => rfl) (fun w' hh => by exact lists_any ns_stays ns_sl d _ w' _ (frz_nest' ns_stays hown (d := 901) rfl hh (fun _ h => h))) ?_
  intro w7 gs7 v7 h7 hw7
  repeat' ((conv => whnf); first | refine side2 ?_ | (with_reducible refine Or.inr (Cnd.mk (fun _ => ?_) (fun h => absurd h (by simp)))) | fail)
  (conv => whnf)
  refine called_nestK 907 (mk := id) (Q := fun w' B v => Nest NSA w' (fun g => B g ∨ g < w.heap.size) v [d]) (fun v => .v v) (fun _ => rfl) (fun w' hh => by exact lists_any nsa_stays nsa_sl d _ w' _ (lent_low nsa_stays nsa_narrow rfl rfl hA0 hh)) ?_
  intro w8 gs8 v8 h8 hw8
  repeat' ((conv => whnf); first | (with_reducible refine Or.inr (Cnd.mk (fun _ => ?_) (fun h => absurd h (by simp)))) | fail)
  (conv => whnf)
  refine called_at (.v (.bool true)) rfl (fun w' hh => by
    have h := same_any [d] [d] v7 v8 w' (nl_arg (two_nest nl_stays h7 hw7 (d := 906) (d1 := 901) rfl hh rfl rfl _ (fun _ _ => trivial))) (nest_to (mix_nest (nest_stays nsa_stays) rfl h8 hw8 (d := 907) rfl hh _ (fun _ _ => trivial)))
    rw [decide_eq_true rfl] at h
    exact h) ?_
  repeat' ((conv => whnf); first | refine walk (Tryz.ok ..) ?_ | (refine Cnd.mk (fun h => ?_) (fun h => ?_) <;> (first | exact cndT h (by (try dsimp only); omega) | exact cndF h (by (try dsimp only); omega) | (exfalso; simp at h; omega) | simp at h | skip)) | refine side2 ?_ | fail)
  refine sat_loop (Tryz.ok ..) (α := Nat) (fun i => ([(0, .yes, .v (.slice A' d.length cA)), (1, .yes, .v (.int .i64 el)), (2, .yes, .v (.int .i64 co)), (7, .yes, .v (.slice (adr Ao) d.length co')), (8, .yes, .v (.slice a3 n3 c3)), (9, .yes, .v v5), (10, .yes, .v (.string (if 0 ≤ el ∧ el < i then fieldS d el co else emp))), (11, .yes, .v (.int .i64 i))], [(901, .own gs2 (Frz w2 gs2)), (902, .own gs3 (Frz w3 gs3)), (903, .own gs4 (Frz w4 gs4)), (904, .own gs5 (Frz w5 gs5))]))
    (fun i => i ≤ d.length) (fun i => d.length - i) (fun _ => rfl) ?_ ?_
  · refine ⟨0, Nat.zero_le _, ?_, ?_, rfl⟩
    all_goals ((repeat' (first | exact trivial | exact rfl | refine And.intro ?_ ?_)) <;> (try (conv => whnf)) <;> (try simp only [SV.real, SV.r2, SV.r1]))
    all_goals exact congrArg Value.string (by rw [if_neg (by omega)]; rfl)
  rintro i hi
  by_cases hi1 : i < d.length
  case neg =>
    obtain rfl : i = d.length := by omega
    have hfin : (if 0 ≤ el ∧ el < d.length then fieldS d el co else emp) = fieldS d el co := by
      by_cases h1 : 0 ≤ el ∧ el < d.length
      · rw [if_pos h1]
      · rw [if_neg h1]
        unfold fieldS
        split
        · rw [List.getElem?_eq_none (by omega)]
          rfl
        · rfl
    rw [hfin]
    repeat' ((conv => whnf); first | refine walk (Tryz.ok ..) ?_ | (refine Cnd.mk (fun h => ?_) (fun h => ?_) <;> (first | exact cndT h (by (try dsimp only); omega) | exact cndF h (by (try dsimp only); omega) | (exfalso; simp at h; omega) | simp at h | skip)) | fail)
    (conv => whnf)
    intro g13 hg13
    repeat' ((conv => whnf); first | refine walk (Tryz.ok ..) ?_ | refine side2 ?_ | fail)
    (conv => whnf)
    intro g14 hg14
    repeat' ((conv => whnf); first | refine walk (Tryz.ok ..) ?_ | refine side2 ?_ | fail)
    (conv => whnf)
    refine called_at (.v (.string (fieldS d el co))) rfl (fun w' hh => by exact field_any ⟨#[65, 66, 67]⟩ d _ el co w' (ns_arg (frz_nest ns_stays hown (d := 901) rfl hh))) ?_
    repeat' ((conv => whnf); first | refine side2 ?_ | refine sideL2 ?_ | fail)
    (conv => whnf)
    refine calledQ_at (.v (.string (fieldS d el co))) rfl (fun _ w' hh => by
      have h := field_any ⟨#[65, 66, 67]⟩ (trimS d) _ el co w' (ns_arg (frz_nest ns_stays h3 (d := 902) rfl hh))
      rw [fieldS_trim] at h
      exact h) ?_
    repeat' ((conv => whnf); first | refine walk (Tryz.ok ..) ?_ | (refine Cnd.mk (fun h => ?_) (fun h => ?_) <;> (first | exact cndT h (by (try dsimp only); omega) | exact cndF h (by (try dsimp only); omega) | (exfalso; simp at h; omega) | simp at h | skip)) | refine side2 ?_ | fail)
    refine sat_less 901 rfl ?_
    refine sat_loop (Tryz.ok ..) (α := Nat) (fun i => ([(8, .yes, .v (.slice a3 n3 c3)), (9, .yes, .v v5), (89, .yes, .v (.slice (adr Ao) d.length co')), (90, .yes, .v (.int .i64 d.length)), (91, .yes, .v (.int .i64 i))], [(901, .own gs2 (StrMod w2 gs2)), (902, .own gs3 (Frz w3 gs3)), (903, .own gs4 (Frz w4 gs4)), (904, .own gs5 (Frz w5 gs5))]))
      (fun i => i ≤ d.length) (fun i => d.length - i) (fun _ => rfl) ?_ ?_
    · refine ⟨0, Nat.zero_le _, ?_, ?_, rfl⟩
      all_goals ((repeat' (first | exact trivial | exact rfl | refine And.intro ?_ ?_)) <;> (try (conv => whnf)) <;> (try simp only [SV.real, SV.r2, SV.r1]))
    rintro i hi
    by_cases hi1 : i < d.length
    case neg =>
      obtain rfl : i = d.length := by omega
      repeat' ((conv => whnf); first | refine walk (Tryz.ok ..) ?_ | (refine Cnd.mk (fun h => ?_) (fun h => ?_) <;> (first | exact cndT h (by (try dsimp only); omega) | exact cndF h (by (try dsimp only); omega) | (exfalso; simp at h; omega) | simp at h | skip)) | fail)
      (conv => whnf)
      refine called_nestK 905 (mk := id) (Q := fun w' B v => Nest NS w' (fun g => B g ∨ g ∈ gs3) v [trimS d]) (fun v => .v v) (fun _ => rfl) (fun w' hh => by exact lists_any ns_stays ns_sl (trimS d) _ w' _ (frz_nest' ns_stays h3 (d := 902) rfl hh (fun _ h => h))) ?_
      intro w9 gs9 v9 h9 hw9
      skip
      (conv => whnf)
      refine called_at (.v (.bool true)) rfl (fun w' hh => by
        have h := same_any [trimS d] [trimS d] v9 v5 w' (nl_arg (two_nest nl_stays h9 hw9 (d := 905) (d1 := 902) rfl hh rfl rfl _ (fun _ _ => trivial))) (nl_arg (two_nest nl_stays h5 hw5 (d := 904) (d1 := 903) rfl hh rfl rfl _ (fun _ _ => trivial)))
        rw [decide_eq_true rfl] at h
        exact h) ?_
      repeat' ((conv => whnf); first | refine walk (Tryz.ok ..) ?_ | fail)
      exact done_pure rfl rfl rfl
    obtain ⟨e, he⟩ : ∃ e, d[i]? = some e := ⟨_, List.getElem?_eq_getElem hi1⟩
    obtain ⟨x, hx, A5, c5, zs5, rfl, hc5, hro5, hB5, hz5⟩ := nest_at hxo hro.1 he
    obtain ⟨po, rfl, _⟩ := hro.some_ (by omega)
    have hmax5 : e.length ≤ 9223372036854775807 := Nat.le_trans (Nat.le_trans hc5.1 hc5.2) (by decide)
    repeat' ((conv => whnf); first | refine walk (Tryz.ok ..) ?_ | (refine Cnd.mk (fun h => ?_) (fun h => ?_) <;> (first | exact cndT h (by (try dsimp only); omega) | exact cndF h (by (try dsimp only); omega) | (exfalso; simp at h; omega) | simp at h | skip)) | refine side2 ?_ | refine xi _ (mod_at (d := 901) hro hBo hx rfl rfl rfl) ?_ | fail)
    refine sat_loop (Tryz.ok ..) (α := Nat) (fun k => ([(8, .yes, .v (.slice a3 n3 c3)), (9, .yes, .v v5), (16, .yes, .v (.slice (adr A5) e.length c5)), (89, .yes, .v (.slice (adr (some po)) d.length co')), (90, .yes, .v (.int .i64 d.length)), (91, .yes, .v (.int .i64 i)), (96, .yes, .v (.int .i64 e.length)), (97, .yes, .v (.int .i64 k))], [(901, .own gs2 (StrMod w2 gs2)), (902, .own gs3 (Frz w3 gs3)), (903, .own gs4 (Frz w4 gs4)), (904, .own gs5 (Frz w5 gs5))]))
      (fun k => k ≤ e.length) (fun k => e.length - k) (fun _ => rfl) ?_ ?_
    · refine ⟨0, Nat.zero_le _, ?_, ?_, rfl⟩
      all_goals ((repeat' (first | exact trivial | exact rfl | refine And.intro ?_ ?_)) <;> (try (conv => whnf)) <;> (try simp only [SV.real, SV.r2, SV.r1]))
    rintro k hk
    by_cases hk1 : k < e.length
    case neg =>
      obtain rfl : k = e.length := by omega
      repeat' ((conv => whnf); first | refine walk (Tryz.ok ..) ?_ | (refine Cnd.mk (fun h => ?_) (fun h => ?_) <;> (first | exact cndT h (by (try dsimp only); omega) | exact cndF h (by (try dsimp only); omega) | (exfalso; simp at h; omega) | simp at h | skip)) | refine sideL2 ?_ | fail)
      refine ⟨i + 1, ⟨hi1, by omega⟩, ?_, ?_, rfl⟩
      all_goals ((repeat' (first | exact trivial | exact rfl | refine And.intro ?_ ?_)) <;> (try (conv => whnf)) <;> (try simp only [SV.real, SV.r2, SV.r1]))
    obtain ⟨c, hc⟩ : ∃ c, e[k]? = some c := ⟨_, List.getElem?_eq_getElem hk1⟩
    obtain ⟨z, hz, hzc⟩ := nest_at hz5 hro5.1 hc
    obtain ⟨q5, rfl, _⟩ := hro5.some_ (by omega)
    have hzs : isStr z = true := by rw [show z = .string c from hzc]; rfl
    repeat' ((conv => whnf); first | refine walk (Tryz.ok ..) ?_ | (refine Cnd.mk (fun h => ?_) (fun h => ?_) <;> (first | exact cndT h (by (try dsimp only); omega) | exact cndF h (by (try dsimp only); omega) | (exfalso; simp at h; omega) | simp at h | skip)) | refine side2 ?_ | fail)
    (conv => whnf)
    refine mod_store (d := 901) (s := ⟨#[63]⟩) hro5 hB5 hz hzs rfl ⟨_, rfl, rfl⟩ rfl ?_
    repeat' ((conv => whnf); first | refine walk (Tryz.ok ..) ?_ | refine sideL2 ?_ | fail)
    refine ⟨k + 1, ⟨hk1, by omega⟩, ?_, ?_, rfl⟩
    all_goals ((repeat' (first | exact trivial | exact rfl | refine And.intro ?_ ?_)) <;> (try (conv => whnf)) <;> (try simp only [SV.real, SV.r2, SV.r1]))
  obtain ⟨e, he⟩ : ∃ e, d[i]? = some e := ⟨_, List.getElem?_eq_getElem hi1⟩
  obtain ⟨x, hx, hne⟩ := nest_at hxA hrA.1 he
  obtain ⟨A3', A3, cA3, rfl, aA3, hcA3, hrA3, -⟩ := nea_row hne
  obtain ⟨p, rfl, rfl⟩ := some_of aA hrA (by omega)
  have hmax3 : e.length ≤ 9223372036854775807 := Nat.le_trans (Nat.le_trans hcA3.1 hcA3.2) (by decide)
  repeat' ((conv => whnf); first | refine walk (Tryz.ok ..) ?_ | (refine Cnd.mk (fun h => ?_) (fun h => ?_) <;> (first | exact cndT h (by (try dsimp only); omega) | exact cndF h (by (try dsimp only); omega) | (exfalso; simp at h; omega) | simp at h | skip)) | fail)
  refine sat_loop (Tryz.ok ..) (α := Nat) (fun k => ([(0, .yes, .v (.slice (adr (some p)) d.length cA)), (1, .yes, .v (.int .i64 el)), (2, .yes, .v (.int .i64 co)), (7, .yes, .v (.slice (adr Ao) d.length co')), (8, .yes, .v (.slice a3 n3 c3)), (9, .yes, .v v5), (10, .yes, .v (.string (if (0 ≤ el ∧ el < i) ∨ (el = i ∧ 0 ≤ co ∧ co < k) then fieldS d el co else emp))), (11, .yes, .v (.int .i64 i)), (12, .yes, .v (.int .i64 k))], [(901, .own gs2 (Frz w2 gs2)), (902, .own gs3 (Frz w3 gs3)), (903, .own gs4 (Frz w4 gs4)), (904, .own gs5 (Frz w5 gs5))]))
    (fun k => k ≤ e.length) (fun k => e.length - k) (fun _ => rfl) ?_ ?_
  · refine ⟨0, Nat.zero_le _, ?_, ?_, rfl⟩
    all_goals ((repeat' (first | exact trivial | exact rfl | refine And.intro ?_ ?_)) <;> (try (conv => whnf)) <;> (try simp only [SV.real, SV.r2, SV.r1]))
    all_goals exact congrArg Value.string (ite_iff (by omega) _ _)
  rintro k hk
  by_cases hk1 : k < e.length
  case neg =>
    obtain rfl : k = e.length := by omega
    have hend : (if (0 ≤ el ∧ el < i) ∨ (el = i ∧ 0 ≤ co ∧ co < e.length) then fieldS d el co else emp) = (if 0 ≤ el ∧ el < ((i + 1 : Nat) : Int) then fieldS d el co else emp) := by
      by_cases h1 : 0 ≤ el ∧ el < i
      · rw [if_pos (.inl h1), if_pos (by omega)]
      by_cases h2 : el = i
      · by_cases h3 : 0 ≤ co ∧ co < e.length
        · rw [if_pos (.inr ⟨h2, h3⟩), if_pos (by omega)]
        · rw [if_neg (by omega), if_pos (by omega)]
          unfold fieldS
          split
          · rw [h2, Int.toNat_natCast, he]
            show emp = (e[co.toNat]?).getD emp
            rw [List.getElem?_eq_none (by omega)]
            rfl
          · rfl
      · rw [if_neg (by omega), if_neg (by omega)]
    repeat' ((conv => whnf); first | refine walk (Tryz.ok ..) ?_ | (refine Cnd.mk (fun h => ?_) (fun h => ?_) <;> (first | exact cndT h (by (try dsimp only); omega) | exact cndF h (by (try dsimp only); omega) | (exfalso; simp at h; omega) | simp at h | skip)) | refine side2 ?_ | refine sideL2 ?_ | refine xi _ (ro_at rfl rfl hrA hx rfl) ?_ | fail)
    refine ⟨i + 1, ⟨hi1, by omega⟩, ?_, ?_, rfl⟩
    all_goals ((repeat' (first | exact trivial | exact rfl | refine And.intro ?_ ?_)) <;> (try (conv => whnf)) <;> (try simp only [SV.real, SV.r2, SV.r1]))
    all_goals first | exact congrArg Value.string hend | exact congrArg (Value.int IntKind.i64) (by omega)
  obtain ⟨s, hs⟩ : ∃ s, e[k]? = some s := ⟨_, List.getElem?_eq_getElem hk1⟩
  obtain ⟨p3, rfl, rfl⟩ := some_of aA3 hrA3 (by omega)
  repeat' ((conv => whnf); first | refine walk (Tryz.ok ..) ?_ | (refine Cnd.mk (fun h => ?_) (fun h => ?_) <;> (first | exact cndT h (by (try dsimp only); omega) | exact cndF h (by (try dsimp only); omega) | (exfalso; simp at h; omega) | simp at h | skip)) | refine side2 ?_ | refine sideL2 ?_ | refine xi _ (ro_at rfl rfl hrA hx rfl) ?_ | refine xi _ (ro_at rfl rfl hrA3 (str_cell hs) rfl) ?_ | fail)
  · have hval : s = (if (0 ≤ el ∧ el < i) ∨ (el = i ∧ 0 ≤ co ∧ co < ((k + 1 : Nat) : Int)) then fieldS d el co else emp) := by
      rw [if_pos (by omega)]
      unfold fieldS
      rw [if_pos (by omega), ← h.1, ← h.2, Int.toNat_natCast, Int.toNat_natCast, he]
      show s = (e[k]?).getD emp
      rw [hs]
      rfl
    refine ⟨k + 1, ⟨hk1, by omega⟩, ?_, ?_, rfl⟩
    all_goals ((repeat' (first | exact trivial | exact rfl | refine And.intro ?_ ?_)) <;> (try (conv => whnf)) <;> (try simp only [SV.real, SV.r2, SV.r1]))
    all_goals first | exact congrArg Value.string hval | exact congrArg (Value.int IntKind.i64) (by omega)
  · refine ⟨k + 1, ⟨hk1, by omega⟩, ?_, ?_, rfl⟩
    all_goals ((repeat' (first | exact trivial | exact rfl | refine And.intro ?_ ?_)) <;> (try (conv => whnf)) <;> (try simp only [SV.real, SV.r2, SV.r1]))
    all_goals first | exact congrArg Value.string (ite_iff (by omega) _ _) | exact congrArg (Value.int IntKind.i64) (by omega)
end
end Go.Proofs.YtdohcglpcgahaaaGreatDoor
