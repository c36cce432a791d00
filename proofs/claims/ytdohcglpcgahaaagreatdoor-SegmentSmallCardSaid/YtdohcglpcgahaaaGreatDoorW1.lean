/-
  The walks of the comparisons of lists of texts and of segments.
-/
import Derived.Test.YtdohcglpcgahaaaGreatDoorNX
import Derived.Test.YtdohcglpcgahaaaGreatDoorTab
set_option linter.unusedSimpArgs false
set_option linter.unusedVariables false
namespace Go.Proofs.YtdohcglpcgahaaaGreatDoor
open Go Sat Go.RowKit Go.PlainAid
theorem eq_step {α : Type} [DecidableEq α] {a b : List α} {k : Nat} {s t : α} (h : a.take k = b.take k) (ha : a[k]? = some s) (hb : b[k]? = some t) (e : s = t) : a.take (k + 1) = b.take (k + 1) := by
  rw [List.take_add_one, List.take_add_one, h, ha, hb, e]
theorem eq_no {α : Type} {a b : List α} {k : Nat} {s t : α} (ha : a[k]? = some s) (hb : b[k]? = some t) (e : s ≠ t) : a ≠ b := fun h => e (by rw [h, hb] at ha; cases ha; rfl)
theorem ne_row {w : World} {v : Value} {e : List ByteArray} {B : Nat → Prop} (h : NE w B v e) : ∃ A cap, v = .slice (adr A) e.length cap ∧ (e.length ≤ cap ∧ cap ≤ maxLen) ∧ Ro w A e.length 1 (e.map Value.string) ∧ ∀ p, A = some p → 0 < e.length → B p.1 := by
  obtain ⟨A, cap, xs, hv, hc, hro, hB, hx⟩ := h
  have hxs : xs = e.map Value.string := by
    refine List.ext_getElem? fun i => ?_
    rcases Nat.lt_or_ge i e.length with h | h
    · have h1 : i < xs.length := by rw [hro.1]; omega
      have := hx i xs[i] e[i] (List.getElem?_eq_getElem h1) (List.getElem?_eq_getElem h)
      rw [List.getElem?_eq_getElem h1, List.getElem?_map, List.getElem?_eq_getElem h]
      exact congrArg some this
    · rw [List.getElem?_eq_none (by rw [hro.1]; omega), List.getElem?_eq_none (by simpa using h)]
  rw [hxs] at hro
  exact ⟨A, cap, hv, hc, hro, fun p h1 h2 => (hB p h1 h2).1⟩
set_option maxRecDepth 100000 in
set_option maxHeartbeats 8000000 in
theorem sameTexts_any (a b : List ByteArray) (A' B' : Option Addr) (A B : Option (Nat × Nat)) (cA cB : Nat) (w : World) (aA : AtN a.length A' A) (aB : AtN b.length B' B) (hA : Ro w A a.length 1 (a.map Value.string)) (hB : Ro w B b.length 1 (b.map Value.string)) (hlen : a.length ≤ maxLen) :
    Calls Tryz.prog 49 #[.slice A' a.length cA, .slice B' b.length cB] w fun e w' => e = .returned (.bool (decide (a = b))) ∧ Below w.heap.size w w' := by
  refine calls_sat (cx := Tryz.cx 26 [] [] [] w) (Tryz.ok ..) Tryz.func49 rfl [.v (.slice A' a.length cA), .v (.slice B' b.length cB)] rfl (by show 2 ≤ 26; omega) [] (holds_nil (Nat.le_refl _)) ?_
  by_cases hl : a.length = b.length
  case neg =>
    rw [decide_eq_false (fun h => hl (by rw [h]))]
    repeat' ((conv => whnf); first | refine walk (Tryz.ok ..) ?_ | (refine Cnd.mk (fun h => ?_) (fun h => ?_) <;> (first | exact cndT h (by (try dsimp only); omega) | exact cndF h (by (try dsimp only); omega) | (exfalso; simp at h; omega) | simp at h | skip)) | fail)
    exact done_pure rfl rfl rfl
  rw [← hl]
  have hmax : a.length ≤ 9223372036854775807 := Nat.le_trans hlen (by decide)
  repeat' ((conv => whnf); first | refine walk (Tryz.ok ..) ?_ | (refine Cnd.mk (fun h => ?_) (fun h => ?_) <;> (first | exact cndT h (by (try dsimp only); omega) | exact cndF h (by (try dsimp only); omega) | (exfalso; simp at h; omega) | simp at h | skip)) | fail)
  refine sat_loop (Tryz.ok ..) (α := Nat) (fun k => ([(0, .yes, .v (.slice A' a.length cA)), (1, .yes, .v (.slice B' a.length cB)), (5, .yes, .v (.int .i64 k))], []))
    (fun k => k ≤ a.length ∧ a.take k = b.take k) (fun k => a.length - k) (fun _ => rfl) ?_ ?_
  · refine ⟨0, ⟨Nat.zero_le _, by simp⟩, ?_, ?_, rfl⟩
    all_goals ((repeat' (first | exact trivial | exact rfl | refine And.intro ?_ ?_)) <;> (try (conv => whnf)) <;> (try simp only [SV.real, SV.r2, SV.r1]))
  rintro k ⟨hk, he⟩
  by_cases hk1 : k < a.length
  · obtain ⟨s, hs⟩ : ∃ s, a[k]? = some s := ⟨_, List.getElem?_eq_getElem hk1⟩
    obtain ⟨t, ht⟩ : ∃ s, b[k]? = some s := ⟨_, List.getElem?_eq_getElem (hl ▸ hk1)⟩
    obtain ⟨p, rfl, rfl⟩ := some_of aA hA (by omega)
    obtain ⟨q, rfl, rfl⟩ := some_of aB hB (by omega)
    repeat' ((conv => whnf); first | refine walk (Tryz.ok ..) ?_ | (refine Cnd.mk (fun h => ?_) (fun h => ?_) <;> (first | exact cndT h (by (try dsimp only); omega) | exact cndF h (by (try dsimp only); omega) | (exfalso; simp at h; omega) | simp at h | skip)) | refine side2 ?_ | refine sideL2 ?_ | refine xi _ (ro_at rfl rfl hA (str_cell hs) rfl) ?_ | refine xi _ (ro_at rfl rfl hB (str_cell ht) rfl) ?_ | fail)
    · rw [decide_eq_false (eq_no hs ht h)]
      exact done_pure rfl rfl rfl
    · refine ⟨k + 1, ⟨⟨hk1, eq_step he hs ht h⟩, by omega⟩, ?_, ?_, rfl⟩
      all_goals ((repeat' (first | exact trivial | exact rfl | refine And.intro ?_ ?_)) <;> (try (conv => whnf)) <;> (try simp only [SV.real, SV.r2, SV.r1]))
  · obtain rfl : k = a.length := by omega
    rw [List.take_length, hl, List.take_length] at he
    rw [decide_eq_true he]
    repeat' ((conv => whnf); first | refine walk (Tryz.ok ..) ?_ | (refine Cnd.mk (fun h => ?_) (fun h => ?_) <;> (first | exact cndT h (by (try dsimp only); omega) | exact cndF h (by (try dsimp only); omega) | (exfalso; simp at h; omega) | simp at h | skip)) | fail)
    exact done_pure rfl rfl rfl
set_option maxRecDepth 100000 in
set_option maxHeartbeats 8000000 in
theorem same_any (a b : List (List (List ByteArray))) (va vb : Value) (w : World) (hA : NLA w (fun _ => True) va a) (hB : NLA w (fun _ => True) vb b) :
    Calls Tryz.prog 23 #[va, vb] w fun e w' => e = .returned (.bool (decide (a = b))) ∧ Below w.heap.size w w' := by
  obtain ⟨A', A, cA, xs, rfl, aA, hcA, hrA, -, hxA⟩ := hA
  obtain ⟨B', B, cB, ys, rfl, aB, hcB, hrB, -, hxB⟩ := hB
  refine calls_sat (cx := Tryz.cx 54 [] [] [] w) (Tryz.ok ..) Tryz.func23 rfl [.v (.slice A' a.length cA), .v (.slice B' b.length cB)] rfl (by show 2 ≤ 54; omega) [] (holds_nil (Nat.le_refl _)) ?_
  by_cases hl : a.length = b.length
  case neg =>
    rw [decide_eq_false (fun h => hl (by rw [h]))]
    repeat' ((conv => whnf); first | refine walk (Tryz.ok ..) ?_ | (refine Cnd.mk (fun h => ?_) (fun h => ?_) <;> (first | exact cndT h (by (try dsimp only); omega) | exact cndF h (by (try dsimp only); omega) | (exfalso; simp at h; omega) | simp at h | skip)) | fail)
    exact done_pure rfl rfl rfl
  rw [← hl]
  have hmax : a.length ≤ 9223372036854775807 := Nat.le_trans (Nat.le_trans hcA.1 hcA.2) (by decide)
  repeat' ((conv => whnf); first | refine walk (Tryz.ok ..) ?_ | (refine Cnd.mk (fun h => ?_) (fun h => ?_) <;> (first | exact cndT h (by (try dsimp only); omega) | exact cndF h (by (try dsimp only); omega) | (exfalso; simp at h; omega) | simp at h | skip)) | fail)
  refine sat_loop (Tryz.ok ..) (α := Nat) (fun i => ([(0, .yes, .v (.slice A' a.length cA)), (1, .yes, .v (.slice B' a.length cB)), (5, .yes, .v (.int .i64 i))], []))
    (fun k => k ≤ a.length ∧ a.take k = b.take k) (fun k => a.length - k) (fun _ => rfl) ?_ ?_
  · refine ⟨0, ⟨Nat.zero_le _, by simp⟩, ?_, ?_, rfl⟩
    all_goals ((repeat' (first | exact trivial | exact rfl | refine And.intro ?_ ?_)) <;> (try (conv => whnf)) <;> (try simp only [SV.real, SV.r2, SV.r1]))
  rintro i ⟨hi, he⟩
  by_cases hi1 : i < a.length
  · obtain ⟨s, hs⟩ : ∃ s, a[i]? = some s := ⟨_, List.getElem?_eq_getElem hi1⟩
    obtain ⟨t, ht⟩ : ∃ s, b[i]? = some s := ⟨_, List.getElem?_eq_getElem (hl ▸ hi1)⟩
    obtain ⟨x, hx, A1', A1, cA1, xs1, rfl, aA1, hcA1, hrA1, -, hxA1⟩ := nest_at hxA hrA.1 hs
    obtain ⟨y, hy, B1', B1, cB1, ys1, rfl, aB1, hcB1, hrB1, -, hxB1⟩ := nest_at hxB hrB.1 ht
    obtain ⟨p, rfl, rfl⟩ := some_of aA hrA (by omega)
    obtain ⟨q, rfl, rfl⟩ := some_of aB hrB (by omega)
    repeat' ((conv => whnf); first | refine walk (Tryz.ok ..) ?_ | (refine Cnd.mk (fun h => ?_) (fun h => ?_) <;> (first | exact cndT h (by (try dsimp only); omega) | exact cndF h (by (try dsimp only); omega) | (exfalso; simp at h; omega) | simp at h | skip)) | refine side2 ?_ | refine sideL2 ?_ | refine xi _ (ro_at rfl rfl hrA hx rfl) ?_ | refine xi _ (ro_at rfl rfl hrB hy rfl) ?_ | fail)
    · rw [decide_eq_false (eq_no hs ht (fun e => h (by rw [e])))]
      exact done_pure rfl rfl rfl
    have hl1 : s.length = t.length := by omega
    have hmax1 : s.length ≤ 9223372036854775807 := Nat.le_trans (Nat.le_trans hcA1.1 hcA1.2) (by decide)
    refine sat_loop (Tryz.ok ..) (α := Nat) (fun k => ([(0, .yes, .v (.slice (adr (some p)) a.length cA)), (1, .yes, .v (.slice (adr (some q)) b.length cB)), (5, .yes, .v (.int .i64 i)), (6, .yes, .v (.int .i64 k))], []))
      (fun k => k ≤ s.length ∧ s.take k = t.take k) (fun k => s.length - k) (fun _ => rfl) ?_ ?_
    · refine ⟨0, ⟨Nat.zero_le _, by simp⟩, ?_, ?_, rfl⟩
      all_goals ((repeat' (first | exact trivial | exact rfl | refine And.intro ?_ ?_)) <;> (try (conv => whnf)) <;> (try simp only [SV.real, SV.r2, SV.r1]))
      all_goals exact congrArg (fun n => Value.slice _ n _) hl
    rintro k ⟨hk, he1⟩
    by_cases hk1 : k < s.length
    · obtain ⟨s1, hs1⟩ : ∃ s1, s[k]? = some s1 := ⟨_, List.getElem?_eq_getElem hk1⟩
      obtain ⟨t1, ht1⟩ : ∃ s1, t[k]? = some s1 := ⟨_, List.getElem?_eq_getElem (hl1 ▸ hk1)⟩
      obtain ⟨x, hx2, hne⟩ := nest_at hxA1 hrA1.1 hs1
      obtain ⟨A2', A2, cA2, rfl, aA2, hcA2, hrA2, -⟩ := nea_row hne
      obtain ⟨y, hy2, hne2⟩ := nest_at hxB1 hrB1.1 ht1
      obtain ⟨B2', B2, cB2, rfl, aB2, hcB2, hrB2, -⟩ := nea_row hne2
      obtain ⟨p1, rfl, rfl⟩ := some_of aA1 hrA1 (by omega)
      obtain ⟨q1, rfl, rfl⟩ := some_of aB1 hrB1 (by omega)
      repeat' ((conv => whnf); first | refine walk (Tryz.ok ..) ?_ | (refine Cnd.mk (fun h => ?_) (fun h => ?_) <;> (first | exact cndT h (by (try dsimp only); omega) | exact cndF h (by (try dsimp only); omega) | (exfalso; simp at h; omega) | simp at h | skip)) | refine side2 ?_ | refine sideL2 ?_ | refine xi _ (ro_at rfl rfl hrA hx rfl) ?_ | refine xi _ (ro_at rfl rfl hrB hy rfl) ?_ | refine xi _ (ro_at rfl rfl hrA1 hx2 rfl) ?_ | refine xi _ (ro_at rfl rfl hrB1 hy2 rfl) ?_ | fail)
      refine calledQ_at (.v (.bool (decide (s1 = t1)))) rfl (fun _ w' hh => by
        have hb := below_of rfl rfl hh
        exact sameTexts_any s1 t1 A2' B2' A2 B2 cA2 cB2 w' aA2 aB2 (hrA2.mono hb (Nat.le_refl _)) (hrB2.mono hb (Nat.le_refl _)) (Nat.le_trans hcA2.1 hcA2.2)) ?_
      repeat' ((conv => whnf); first | refine walk (Tryz.ok ..) ?_ | (refine Cnd.mk (fun h => ?_) (fun h => ?_) <;> (first | exact cndT h (by (try dsimp only); omega) | exact cndF h (by (try dsimp only); omega) | (exfalso; simp at h; omega) | simp at h | skip)) | refine sideL2 ?_ | fail)
      · rw [decide_eq_false (eq_no hs ht (eq_no hs1 ht1 h))]
        exact done_pure rfl rfl rfl
      · refine ⟨k + 1, ⟨⟨hk1, eq_step he1 hs1 ht1 h⟩, by omega⟩, ?_, ?_, rfl⟩
        all_goals ((repeat' (first | exact trivial | exact rfl | refine And.intro ?_ ?_)) <;> (try (conv => whnf)) <;> (try simp only [SV.real, SV.r2, SV.r1]))
    · obtain rfl : k = s.length := by omega
      rw [List.take_length, hl1, List.take_length] at he1
      repeat' ((conv => whnf); first | refine walk (Tryz.ok ..) ?_ | (refine Cnd.mk (fun h => ?_) (fun h => ?_) <;> (first | exact cndT h (by (try dsimp only); omega) | exact cndF h (by (try dsimp only); omega) | (exfalso; simp at h; omega) | simp at h | skip)) | refine side2 ?_ | refine sideL2 ?_ | refine xi _ (ro_at rfl rfl hrA hx rfl) ?_ | fail)
      refine ⟨i + 1, ⟨⟨hi1, eq_step he hs ht he1⟩, by omega⟩, ?_, ?_, rfl⟩
      all_goals ((repeat' (first | exact trivial | exact rfl | refine And.intro ?_ ?_)) <;> (try (conv => whnf)) <;> (try simp only [SV.real, SV.r2, SV.r1]))
      all_goals exact congrArg (fun n => Value.slice _ n _) hl.symm
  · obtain rfl : i = a.length := by omega
    rw [List.take_length, hl, List.take_length] at he
    rw [decide_eq_true he]
    repeat' ((conv => whnf); first | refine walk (Tryz.ok ..) ?_ | (refine Cnd.mk (fun h => ?_) (fun h => ?_) <;> (first | exact cndT h (by (try dsimp only); omega) | exact cndF h (by (try dsimp only); omega) | (exfalso; simp at h; omega) | simp at h | skip)) | fail)
    exact done_pure rfl rfl rfl
end Go.Proofs.YtdohcglpcgahaaaGreatDoor
