/-
  The walk of the law's copy of segments.
-/
import Derived.Test.YtdohcglpcgahaaaGreatDoorW1
import Derived.Test.YtdohcglpcgahaaaGreatDoorNX
set_option linter.unusedSimpArgs false
set_option linter.unusedVariables false
namespace Go.Proofs.YtdohcglpcgahaaaGreatDoor
open Go Sat Go.RowKit Go.PlainAid
set_option maxRecDepth 100000 in
set_option maxHeartbeats 8000000 in
theorem own_row (l : List (List (List ByteArray))) (v : Value) (w : World) (hA : NLA w (fun _ => True) v l) (hf : FewL l) :
    Calls Tryz.prog 19 #[v] w (GivesR 54 id NS l w) := by
  obtain ⟨A', A, cA, xs, rfl, aA, hcA, hrA, -, hxA⟩ := hA
  refine calls_sat (cx := Tryz.cx 33 [2, 10, 12] [] [] w) (Tryz.ok ..) Tryz.func19 rfl [.v (.slice A' l.length cA)] rfl (by show 1 ≤ 33; omega) [] (holds_nil (Nat.le_refl _)) ?_
  have htop := hf.top
  have hmax : l.length ≤ 9223372036854775807 := Nat.le_trans (Nat.le_trans hcA.1 hcA.2) (by decide)
  repeat' ((conv => whnf); first | refine walk (Tryz.ok ..) ?_ | fail)
  refine sat_fuse 77 [] rfl fun w0 hw0 => ?_
  refine sat_ops (Tryz.ok ..) ?_
  repeat' ((conv => whnf); first | refine walk (Tryz.ok ..) ?_ | fail)
  refine sat_loop (Tryz.ok ..) (α := Nat × Option (Nat × Nat) × Nat × List Value × World × List Nat) (fun s => ([(3, .yes, .o 30 s.2.1 s.1 s.2.2.1), (9, .yes, .v (.slice A' l.length cA)), (10, .yes, .v (.int .i64 l.length)), (11, .yes, .v (.int .i64 s.1))], [(30, .row s.2.1 54 1 s.1 s.2.2.1 s.2.2.2.1), (77, .own s.2.2.2.2.2 (Frz s.2.2.2.2.1 s.2.2.2.2.2))]))
    (fun s => s.1 ≤ l.length ∧ s.2.2.2.1.length = s.1 ∧ Got NS s.2.2.2.2.1 s.2.2.2.2.2 s.2.2.2.1 l) (fun s => l.length - s.1) (fun _ => rfl) ?_ ?_
  · refine ⟨(0, none, 0, [], w0, []), ⟨Nat.zero_le _, rfl, Got.nil⟩, ?_, ?_, rfl⟩
    all_goals ((repeat' (first | exact trivial | exact rfl | refine And.intro ?_ ?_)) <;> (try (conv => whnf)) <;> (try simp only [SV.real, SV.r2, SV.r1]))
  rintro ⟨k, A3, cap3, xs3, w1, gs⟩ ⟨hk, hl3, hx3⟩
  dsimp only at hk hl3 hx3 ⊢
  by_cases hk1 : k < l.length
  · obtain ⟨s, hs⟩ : ∃ s, l[k]? = some s := ⟨_, List.getElem?_eq_getElem hk1⟩
    obtain ⟨x, hx, A1', A1, cA1, xs1, rfl, aA1, hcA1, hrA1, -, hxA1⟩ := nest_at hxA hrA.1 hs
    obtain ⟨p, rfl, rfl⟩ := some_of aA hrA (by omega)
    have hseg := hf.seg s (List.mem_of_getElem? hs)
    have hmax1 : s.length ≤ 9223372036854775807 := Nat.le_trans (Nat.le_trans hcA1.1 hcA1.2) (by decide)
    repeat' ((conv => whnf); first | refine walk (Tryz.ok ..) ?_ | (refine Cnd.mk (fun h => ?_) (fun h => ?_) <;> (first | exact cndT h (by (try dsimp only); omega) | exact cndF h (by (try dsimp only); omega) | (exfalso; simp at h; omega) | simp at h | skip)) | refine side2 ?_ | refine xi _ (ro_at rfl rfl hrA hx rfl) ?_ | fail)
    refine sat_loop (Tryz.ok ..) (α := Nat × Option (Nat × Nat) × Nat × List Value × World × List Nat) (fun u => ([(3, .yes, .o 30 A3 k cap3), (6, .yes, .o 25 u.2.1 u.1 u.2.2.1), (9, .yes, .v (.slice (adr (some p)) l.length cA)), (10, .yes, .v (.int .i64 l.length)), (11, .yes, .v (.int .i64 k)), (15, .yes, .v (.slice A1' s.length cA1)), (16, .yes, .v (.int .i64 s.length)), (17, .yes, .v (.int .i64 u.1))], [(25, .row u.2.1 22 1 u.1 u.2.2.1 u.2.2.2.1), (30, .row A3 54 1 k cap3 xs3), (77, .own u.2.2.2.2.2 (Frz u.2.2.2.2.1 u.2.2.2.2.2))]))
      (fun u => u.1 ≤ s.length ∧ u.2.2.2.1.length = u.1 ∧ Got NE u.2.2.2.2.1 u.2.2.2.2.2 u.2.2.2.1 s ∧ Got NS u.2.2.2.2.1 u.2.2.2.2.2 xs3 l) (fun u => s.length - u.1) (fun _ => rfl) ?_ ?_
    · refine ⟨(0, none, 0, [], w1, gs), ⟨Nat.zero_le _, rfl, Got.nil, hx3⟩, ?_, ?_, rfl⟩
      all_goals ((repeat' (first | exact trivial | exact rfl | refine And.intro ?_ ?_)) <;> (try (conv => whnf)) <;> (try simp only [SV.real, SV.r2, SV.r1]))
    clear hx3
    rintro ⟨j, A6, cap6, xs6, w2, gs2⟩ ⟨hj, hl6, hx6, hx3⟩
    dsimp only at hj hl6 hx6 hx3 ⊢
    by_cases hj1 : j < s.length
    · obtain ⟨e, he⟩ : ∃ e, s[j]? = some e := ⟨_, List.getElem?_eq_getElem hj1⟩
      obtain ⟨x1, hx1, hne⟩ := nest_at hxA1 hrA1.1 he
      obtain ⟨A2', A2, cA2, rfl, aA2, hcA2, hrA2, -⟩ := nea_row hne
      obtain ⟨p1, rfl, rfl⟩ := some_of aA1 hrA1 (by omega)
      have hel := hf.el s (List.mem_of_getElem? hs) e (List.mem_of_getElem? he)
      have hall := strs_all e
      have hmax2 : e.length ≤ 9223372036854775807 := Nat.le_trans (Nat.le_trans hcA2.1 hcA2.2) (by decide)
      repeat' ((conv => whnf); first | refine walk (Tryz.ok ..) ?_ | (refine Cnd.mk (fun h => ?_) (fun h => ?_) <;> (first | exact cndT h (by (try dsimp only); omega) | exact cndF h (by (try dsimp only); omega) | (exfalso; simp at h; omega) | simp at h | skip)) | refine appnil rfl ?_ | refine side2 ?_ | refine xi _ (ro_at rfl rfl hrA1 hx1 rfl) ?_ | fail)
      (conv => whnf)
      refine raw_arg rfl rfl aA2 hrA2 ?_
      repeat' ((conv => whnf); first | refine side2 ?_ | fail)
      (conv => whnf)
      intro A23 cap23
      skip
      (conv => whnf)
      intro g24 hg24
      repeat' ((conv => whnf); first | refine side2 ?_ | refine Or.inr ?_ | fail)
      (conv => whnf)
      intro A25 cap25
      repeat' ((conv => whnf); first | refine walk (Tryz.ok ..) ?_ | fail)
      refine sat_fuse 77 [77, 23] rfl fun w4 hw4 => ?_
      have hx3' := hx3.fuse ns_stays [77, 23] 77 hw4 rfl rfl
      have hx6' := (hx6.fuse ne_stays [77, 23] 77 hw4 rfl rfl).snoc (by rw [hl6]; exact he) (nest_fuse [77, 23] 23 hw4 rfl rfl (got_strs e))
      refine sat_ops (Tryz.ok ..) ?_
      repeat' ((conv => whnf); first | refine sideL2 ?_ | fail)
      refine ⟨(j + 1, A25, cap25, _, w4, _), ⟨⟨hj1, by rw [List.length_append, hl6]; rfl, hx6', hx3'⟩, by show s.length - (j + 1) < s.length - j; omega⟩, ?_, ?_, rfl⟩
      all_goals ((repeat' (first | exact trivial | exact rfl | refine And.intro ?_ ?_)) <;> (try (conv => whnf)) <;> (try simp only [SV.real, SV.r2, SV.r1]))
    obtain rfl : j = s.length := by omega
    repeat' ((conv => whnf); first | refine walk (Tryz.ok ..) ?_ | (refine Cnd.mk (fun h => ?_) (fun h => ?_) <;> (first | exact cndT h (by (try dsimp only); omega) | exact cndF h (by (try dsimp only); omega) | (exfalso; simp at h; omega) | simp at h | skip)) | fail)
    (conv => whnf)
    intro g29 hg29
    repeat' ((conv => whnf); first | refine side2 ?_ | refine Or.inr ?_ | fail)
    (conv => whnf)
    intro A30 cap30
    repeat' ((conv => whnf); first | refine walk (Tryz.ok ..) ?_ | fail)
    refine sat_fuse 77 [77, 25] rfl fun w4 hw4 => ?_
    have hx3' := (hx3.fuse ns_stays [77, 25] 77 hw4 rfl rfl).snoc (by rw [hl3]; exact hs) (nest_fuse [77, 25] 25 hw4 rfl rfl (hx6.fuse ne_stays [77, 25] 77 hw4 rfl rfl))
    refine sat_ops (Tryz.ok ..) ?_
    repeat' ((conv => whnf); first | refine sideL2 ?_ | fail)
    refine ⟨(k + 1, A30, cap30, _, w4, _), ⟨⟨hk1, by rw [List.length_append, hl3]; rfl, hx3'⟩, by show l.length - (k + 1) < l.length - k; omega⟩, ?_, ?_, rfl⟩
    all_goals ((repeat' (first | exact trivial | exact rfl | refine And.intro ?_ ?_)) <;> (try (conv => whnf)) <;> (try simp only [SV.real, SV.r2, SV.r1]))
  obtain rfl : k = l.length := by omega
  repeat' ((conv => whnf); first | refine walk (Tryz.ok ..) ?_ | (refine Cnd.mk (fun h => ?_) (fun h => ?_) <;> (first | exact cndT h (by (try dsimp only); omega) | exact cndF h (by (try dsimp only); omega) | (exfalso; simp at h; omega) | simp at h | skip)) | fail)
  exact done_nestR (mk := id) ns_stays rfl rfl 30 77 (by decide) (A := A3) (cap := cap3) (xs := xs3) (gs := gs) (w0 := w1) rfl rfl rfl hx3 rfl
theorem own_any (l : List (List (List ByteArray))) (v : Value) (w : World) (hA : NLA w (fun _ => True) v l) (hf : FewL l) :
    Calls Tryz.prog 19 #[v] w (Gives id (fun w B v => NL w B v l) w) := (own_row l v w hA hf).mono fun _ _ h => gives_of_R ns_stays h
end Go.Proofs.YtdohcglpcgahaaaGreatDoor
