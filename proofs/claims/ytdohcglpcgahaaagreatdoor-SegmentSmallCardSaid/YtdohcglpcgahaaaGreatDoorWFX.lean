/-
  strings.ContainsFunc with Right's function: whether a byte lies outside of the printable ones. The walk of Right.
-/
import Derived.Test.YtdohcglpcgahaaaGreatDoorWP
import Derived.Test.YtdohcglpcgahaaaGreatDoorRX
import Derived.Test.YtdohcglpcgahaaaGreatDoorW1
import Derived.Test.YtdohcglpcgahaaaGreatDoorSR
set_option linter.unusedSimpArgs false
set_option linter.unusedVariables false
namespace Go.Proofs.YtdohcglpcgahaaaGreatDoor
section
open Go Sat Go.RowKit Go.PlainAid
/-- the place of the first byte outside, or -1 -/
def posBad : List UInt8 → Nat → Int
  | [], _ => -1
  | b :: l, k => if badB b = true then k else posBad l (k + 1)
theorem posBad_iff : ∀ (l : List UInt8) (k : Nat), (0 ≤ posBad l k ↔ l.any badB = true)
  | [], k => by simp [posBad]
  | b :: l, k => by
    simp only [posBad, List.any_cons, Bool.or_eq_true]
    by_cases h : badB b = true
    · rw [if_pos h]; simp [h]
    · rw [if_neg h, posBad_iff l (k + 1)]; simp [h]
theorem dec_at {s : ByteArray} {k : Nat} {c : UInt8} (h : s.data.toList[k]? = some c) (hc : c.toNat < 128) : Utf8.decode s k = (c.toNat, 1) := by
  have hk : k < s.size := (List.getElem?_eq_some_iff.1 h).1
  have e : s[k]'hk = c := (List.getElem?_eq_some_iff.1 h).2
  have := decode_ascii s k hk (by rw [e]; exact hc)
  rw [e] at this
  exact this
theorem dec_high {s : ByteArray} {k : Nat} {c : UInt8} (h : s.data.toList[k]? = some c) (hc : 128 ≤ c.toNat) : 128 ≤ (Utf8.decode s k).1 := by
  have hk : k < s.size := (List.getElem?_eq_some_iff.1 h).1
  have e : s[k]'hk = c := (List.getElem?_eq_some_iff.1 h).2
  exact (decode_high s k hk (by rw [e]; exact hc)).1
set_option maxRecDepth 100000 in
set_option maxHeartbeats 8000000 in
theorem out_any (c : Int) (w : World) :
    Calls Tryz.prog 71 #[.int .i32 c] w fun e w' => e = .returned (.bool (decide (c < 32 ∨ 126 < c))) ∧ Below w.heap.size w w' := by
  refine calls_sat (cx := Tryz.cx 9 [] [] [] w) (Tryz.ok ..) Tryz.func71 rfl [.v (.int .i32 c)] rfl (by show 1 ≤ 9; omega) [] (holds_nil (Nat.le_refl _)) ?_
  by_cases h1 : c < 32
  · rw [decide_eq_true (Or.inl h1)]
    repeat' ((conv => whnf); first | refine walk (Tryz.ok ..) ?_ | refine side2 ?_ | fail)
    all_goals exact done_pure rfl rfl (congrArg Value.bool (by simp; omega))
  by_cases h2 : 126 < c
  · rw [decide_eq_true (Or.inr h2)]
    repeat' ((conv => whnf); first | refine walk (Tryz.ok ..) ?_ | refine side2 ?_ | fail)
    all_goals exact done_pure rfl rfl (congrArg Value.bool (by simp; omega))
  rw [decide_eq_false (by omega)]
  repeat' ((conv => whnf); first | refine walk (Tryz.ok ..) ?_ | refine side2 ?_ | fail)
  all_goals exact done_pure rfl rfl (congrArg Value.bool (by simp; omega))
set_option maxRecDepth 100000 in
set_option maxHeartbeats 8000000 in
theorem indexFunc_any (s : ByteArray) (w : World) :
    Calls Tryz.prog 100 #[.string s, (SV.fn (Fn.func 71) [] []).real, .bool true] w fun e w' => e = .returned (.int .i64 (posBad s.data.toList 0)) ∧ Below w.heap.size w w' := by
  refine calls_sat (cx := Tryz.cx 21 [] [] [] w) (Tryz.ok ..) Tryz.func100 rfl [.v (.string s), .fn (Fn.func 71) [] [], .v (.bool true)] rfl (by show 3 ≤ 21; omega) [] (holds_nil (Nat.le_refl _)) ?_
  obtain ⟨l, hl⟩ : ∃ l, l = s.data.toList := ⟨_, rfl⟩
  have hsz : s.size = l.length := by rw [hl]; rfl
  rw [← hl]
  repeat' ((conv => whnf); first | refine walk (Tryz.ok ..) ?_ | fail)
  refine Sat.other_range_str (Tryz.ok 21 [] [] [] w.heap.size [] w).T (i := _) rfl rfl (s := s) rfl ?_
  intro gI hgI
  repeat' ((conv => whnf); first | refine walk (Tryz.ok ..) ?_ | fail)
  refine sat_loop (Tryz.ok ..) (α := Nat) (fun k => ([(0, .yes, .v (.string s)), (1, .yes, .fn (Fn.func 71) [] []), (2, .yes, .v (.bool true)), (10, .yes, .v (.pointer (some ⟨gI, 0, none⟩)))], [(10, Sat.HBo gI (.stringIter s k))]))
    (fun k => k ≤ l.length ∧ posBad (l.drop k) k = posBad l 0) (fun k => l.length - k) (fun _ => rfl) ?_ ?_
  · refine ⟨0, ⟨Nat.zero_le _, rfl⟩, ?_, ?_, rfl⟩
    all_goals ((repeat' (first | exact trivial | exact rfl | refine And.intro ?_ ?_)) <;> (try (conv => whnf)) <;> (try simp only [SV.real, SV.r2, SV.r1]))
  rintro k ⟨hk, hrun⟩
  repeat' ((conv => whnf); first | refine walk (Tryz.ok ..) ?_ | fail)
  refine Sat.other_next_str 10 (g := gI) (pos := k) (s := s) rfl rfl ⟨fun hlt => ?_, fun hge => ?_⟩
  · obtain ⟨b, hb⟩ : ∃ b, l[k]? = some b := ⟨l[k]'(by omega), List.getElem?_eq_getElem (by omega)⟩
    have hbs : s.data.toList[k]? = some b := by rw [← hl]; exact hb
    have hdrop : l.drop k = b :: l.drop (k + 1) := by
      rw [List.drop_eq_getElem_cons (by omega)]
      congr 1
      exact (List.getElem?_eq_some_iff.1 hb).2
    rw [hdrop, posBad] at hrun
    obtain ⟨c, hc⟩ : ∃ c : Nat, c = (Utf8.decode s k).1 := ⟨_, rfl⟩
    obtain ⟨k2, hk2⟩ : ∃ c : Nat, c = k + (Utf8.decode s k).2 := ⟨_, rfl⟩
    rw [← hc, ← hk2]
    have hbad : badB b = true ↔ (c < 32 ∨ 126 < c) := by
      unfold badB
      rw [decide_eq_true_iff]
      rcases Nat.lt_or_ge b.toNat 128 with h1 | h1
      · rw [hc, dec_at hbs h1]
      · have := dec_high hbs h1
        omega
    have hk3 : ¬ (c < 32 ∨ 126 < c) → k2 = k + 1 := fun hn => by
      rcases Nat.lt_or_ge b.toNat 128 with h1 | h1
      · rw [hk2, dec_at hbs h1]
      · have := dec_high hbs h1
        omega
    repeat' ((conv => whnf); first | refine walk (Tryz.ok ..) ?_ | (refine Cnd.mk (fun h => ?_) (fun h => ?_) <;> (first | exact cndT h (by (try dsimp only); omega) | exact cndF h (by (try dsimp only); omega) | (exfalso; simp at h; omega) | simp at h | skip)) | refine side2 ?_ | fail)
    (conv => whnf)
    refine called_pure (.v (.bool (decide ((c : Int) < 32 ∨ 126 < (c : Int))))) rfl (fun w' => out_any c w') ?_
    by_cases hcb : c < 32 ∨ 126 < c
    · rw [if_pos (hbad.2 hcb)] at hrun
      rw [decide_eq_true (show (c : Int) < 32 ∨ 126 < (c : Int) by omega), ← hrun]
      repeat' ((conv => whnf); first | refine walk (Tryz.ok ..) ?_ | (refine Cnd.mk (fun h => ?_) (fun h => ?_) <;> (first | exact cndT h (by (try dsimp only); omega) | exact cndF h (by (try dsimp only); omega) | (exfalso; simp at h; omega) | simp at h | skip)) | fail)
      exact done_pure rfl rfl rfl
    · rw [if_neg (fun h => hcb (hbad.1 h))] at hrun
      rw [decide_eq_false (show ¬ ((c : Int) < 32 ∨ 126 < (c : Int)) by omega), hk3 hcb]
      repeat' ((conv => whnf); first | refine walk (Tryz.ok ..) ?_ | (refine Cnd.mk (fun h => ?_) (fun h => ?_) <;> (first | exact cndT h (by (try dsimp only); omega) | exact cndF h (by (try dsimp only); omega) | (exfalso; simp at h; omega) | simp at h | skip)) | fail)
      refine ⟨k + 1, ⟨⟨by omega, hrun⟩, by omega⟩, ?_, ?_, rfl⟩
      all_goals ((repeat' (first | exact trivial | exact rfl | refine And.intro ?_ ?_)) <;> (try (conv => whnf)) <;> (try simp only [SV.real, SV.r2, SV.r1]))
  · obtain rfl : k = l.length := by omega
    rw [List.drop_length] at hrun
    rw [← hrun]
    repeat' ((conv => whnf); first | refine walk (Tryz.ok ..) ?_ | (refine Cnd.mk (fun h => ?_) (fun h => ?_) <;> (first | exact cndT h (by (try dsimp only); omega) | exact cndF h (by (try dsimp only); omega) | (exfalso; simp at h; omega) | simp at h | skip)) | fail)
    exact done_pure rfl rfl rfl
set_option maxRecDepth 100000 in
set_option maxHeartbeats 8000000 in
theorem containsFunc_any (s : ByteArray) (w : World) :
    Calls Tryz.prog 70 #[.string s, (SV.fn (Fn.func 71) [] []).real] w fun e w' => e = .returned (.bool (s.data.toList.any badB)) ∧ Below w.heap.size w w' := by
  have hidx : ∀ w : World, Calls Tryz.prog 86 #[.string s, (SV.fn (Fn.func 71) [] []).real] w fun e w' => e = .returned (.int .i64 (posBad s.data.toList 0)) ∧ Below w.heap.size w w' := fun w => by
    refine calls_sat (cx := Tryz.cx 8 [] [] [] w) (Tryz.ok ..) Tryz.func86 rfl [.v (.string s), .fn (Fn.func 71) [] []] rfl (by show 2 ≤ 8; omega) [] (holds_nil (Nat.le_refl _)) ?_
    repeat' ((conv => whnf); first | refine walk (Tryz.ok ..) ?_ | fail)
    refine called_pure (.v (.int .i64 (posBad s.data.toList 0))) rfl (fun w' => indexFunc_any s w') ?_
    repeat' ((conv => whnf); first | refine walk (Tryz.ok ..) ?_ | fail)
    exact done_pure rfl rfl rfl
  refine calls_sat (cx := Tryz.cx 9 [] [] [] w) (Tryz.ok ..) Tryz.func70 rfl [.v (.string s), .fn (Fn.func 71) [] []] rfl (by show 2 ≤ 9; omega) [] (holds_nil (Nat.le_refl _)) ?_
  repeat' ((conv => whnf); first | refine walk (Tryz.ok ..) ?_ | fail)
  refine called_pure (.v (.int .i64 (posBad s.data.toList 0))) rfl (fun w' => hidx w') ?_
  have hp := posBad_iff s.data.toList 0
  cases hb : s.data.toList.any badB with
  | true =>
    have h0 : 0 ≤ posBad s.data.toList 0 := hp.2 hb
    repeat' ((conv => whnf); first | refine walk (Tryz.ok ..) ?_ | fail)
    exact done_pure rfl rfl (congrArg Value.bool (decide_eq_true h0))
  | false =>
    have h0 : ¬ 0 ≤ posBad s.data.toList 0 := fun h => by rw [hp.1 h] at hb; cases hb
    repeat' ((conv => whnf); first | refine walk (Tryz.ok ..) ?_ | fail)
    exact done_pure rfl rfl (congrArg Value.bool (decide_eq_false h0))
end
section
open Go Sat Go.RowKit Go.PlainAid
theorem all_no {α : Type} {f : α → Bool} {l : List α} {k : Nat} {x : α} (h : l[k]? = some x) (hf : f x = false) : l.all f = false := by
  rw [List.all_eq_false]
  exact ⟨x, List.mem_of_getElem? h, by rw [hf]; simp⟩
theorem all_step {α : Type} {f : α → Bool} {l : List α} {k : Nat} {x : α} (h0 : (l.take k).all f = true) (h : l[k]? = some x) (hf : f x = true) : (l.take (k + 1)).all f = true := by
  rw [List.take_add_one, h, List.all_append, h0]
  simp [hf]
set_option maxRecDepth 100000 in
set_option maxHeartbeats 8000000 in
theorem right_anyA (a : Segm) (va : Value) (w : World) (hA : NSA w (fun _ => True) va a) :
    Calls Tryz.prog 42 #[va] w fun e w' => e = .returned (.bool (rightS a)) ∧ Below w.heap.size w w' := by
  obtain ⟨A', A, cA, xs, rfl, aA, hcA, hrA, -, hxA⟩ := hA
  refine calls_sat (cx := Tryz.cx 44 [] [] [] w) (Tryz.ok ..) Tryz.func42 rfl [.v (.slice A' a.length cA)] rfl (by show 1 ≤ 44; omega) [] (holds_nil (Nat.le_refl _)) ?_
  by_cases hl : 1 ≤ a.length ∧ a.length ≤ 30
  case neg =>
    rw [show rightS a = false from by unfold rightS; rw [decide_eq_false hl]; rfl]
    repeat' ((conv => whnf); first | refine walk (Tryz.ok ..) ?_ | (refine Cnd.mk (fun h => ?_) (fun h => ?_) <;> (first | exact cndT h (by (try dsimp only); omega) | exact cndF h (by (try dsimp only); omega) | (exfalso; simp at h; omega) | simp at h | skip)) | refine side2 ?_ | fail)
    all_goals exact done_pure rfl rfl rfl
  rw [show rightS a = a.all rightE from by unfold rightS; rw [decide_eq_true hl]; rfl]
  repeat' ((conv => whnf); first | refine walk (Tryz.ok ..) ?_ | (refine Cnd.mk (fun h => ?_) (fun h => ?_) <;> (first | exact cndT h (by (try dsimp only); omega) | exact cndF h (by (try dsimp only); omega) | (exfalso; simp at h; omega) | simp at h | skip)) | refine side2 ?_ | fail)
  refine sat_loop (Tryz.ok ..) (α := Nat) (fun i => ([(0, .yes, .v (.slice A' a.length cA)), (15, .yes, .v (.slice A' a.length cA)), (16, .yes, .v (.int .i64 a.length)), (17, .yes, .v (.int .i64 i))], []))
    (fun k => k ≤ a.length ∧ (a.take k).all rightE = true) (fun k => a.length - k) (fun _ => rfl) ?_ ?_
  · refine ⟨0, ⟨Nat.zero_le _, by simp⟩, ?_, ?_, rfl⟩
    all_goals ((repeat' (first | exact trivial | exact rfl | refine And.intro ?_ ?_)) <;> (try (conv => whnf)) <;> (try simp only [SV.real, SV.r2, SV.r1]))
  rintro i ⟨hi, he⟩
  by_cases hi1 : i < a.length
  · obtain ⟨s, hs⟩ : ∃ s, a[i]? = some s := ⟨_, List.getElem?_eq_getElem hi1⟩
    obtain ⟨x, hx, hne⟩ := nest_at hxA hrA.1 hs
    obtain ⟨A1', A1, cA1, rfl, aA1, hcA1, hrA1, -⟩ := nea_row hne
    obtain ⟨p, rfl, rfl⟩ := some_of aA hrA (by omega)
    by_cases hl1 : 1 ≤ s.length ∧ s.length ≤ 10
    case neg =>
      rw [all_no hs (show rightE s = false from by unfold rightE; rw [decide_eq_false hl1]; rfl)]
      repeat' ((conv => whnf); first | refine walk (Tryz.ok ..) ?_ | (refine Cnd.mk (fun h => ?_) (fun h => ?_) <;> (first | exact cndT h (by (try dsimp only); omega) | exact cndF h (by (try dsimp only); omega) | (exfalso; simp at h; omega) | simp at h | skip)) | refine side2 ?_ | refine xi _ (ro_at rfl rfl hrA hx rfl) ?_ | fail)
      all_goals exact done_pure rfl rfl rfl
    have eS : rightE s = s.all rightC := by unfold rightE; rw [decide_eq_true hl1]; rfl
    repeat' ((conv => whnf); first | refine walk (Tryz.ok ..) ?_ | (refine Cnd.mk (fun h => ?_) (fun h => ?_) <;> (first | exact cndT h (by (try dsimp only); omega) | exact cndF h (by (try dsimp only); omega) | (exfalso; simp at h; omega) | simp at h | skip)) | refine side2 ?_ | refine xi _ (ro_at rfl rfl hrA hx rfl) ?_ | fail)
    refine sat_loop (Tryz.ok ..) (α := Nat) (fun k => ([(0, .yes, .v (.slice (adr (some p)) a.length cA)), (15, .yes, .v (.slice (adr (some p)) a.length cA)), (16, .yes, .v (.int .i64 a.length)), (17, .yes, .v (.int .i64 i)), (29, .yes, .v (.slice A1' s.length cA1)), (30, .yes, .v (.int .i64 s.length)), (31, .yes, .v (.int .i64 k))], []))
      (fun k => k ≤ s.length ∧ (s.take k).all rightC = true) (fun k => s.length - k) (fun _ => rfl) ?_ ?_
    · refine ⟨0, ⟨Nat.zero_le _, by simp⟩, ?_, ?_, rfl⟩
      all_goals ((repeat' (first | exact trivial | exact rfl | refine And.intro ?_ ?_)) <;> (try (conv => whnf)) <;> (try simp only [SV.real, SV.r2, SV.r1]))
    rintro k ⟨hk, he1⟩
    by_cases hk1 : k < s.length
    · obtain ⟨c, hc⟩ : ∃ c, s[k]? = some c := ⟨_, List.getElem?_eq_getElem hk1⟩
      obtain ⟨q, rfl, rfl⟩ := some_of aA1 hrA1 (by omega)
      have hcv : (s.map Value.string)[k]? = some (.string c) := by rw [List.getElem?_map, hc]; rfl
      by_cases hsz : c.size ≤ 100
      case neg =>
        rw [all_no hs (eS.trans (all_no hc (show rightC c = false from by unfold rightC; rw [decide_eq_false hsz]; rfl)))]
        repeat' ((conv => whnf); first | refine walk (Tryz.ok ..) ?_ | (refine Cnd.mk (fun h => ?_) (fun h => ?_) <;> (first | exact cndT h (by (try dsimp only); omega) | exact cndF h (by (try dsimp only); omega) | (exfalso; simp at h; omega) | simp at h | skip)) | refine side2 ?_ | refine sideL2 ?_ | refine xi _ (ro_at rfl rfl hrA1 hcv rfl) ?_ | fail)
        refine calledQ_pure (.v (.bool (c.data.toList.any badB))) rfl (fun _ w' => containsFunc_any c w') ?_
        repeat' ((conv => whnf); first | refine walk (Tryz.ok ..) ?_ | (refine Cnd.mk (fun h => ?_) (fun h => ?_) <;> (first | exact cndT h (by (try dsimp only); omega) | exact cndF h (by (try dsimp only); omega) | (exfalso; simp at h; omega) | simp at h | skip)) | refine side2 ?_ | fail)
        all_goals exact done_pure rfl rfl rfl
      have eC : rightC c = !c.data.toList.any badB := by unfold rightC; rw [decide_eq_true hsz]; rfl
      repeat' ((conv => whnf); first | refine walk (Tryz.ok ..) ?_ | (refine Cnd.mk (fun h => ?_) (fun h => ?_) <;> (first | exact cndT h (by (try dsimp only); omega) | exact cndF h (by (try dsimp only); omega) | (exfalso; simp at h; omega) | simp at h | skip)) | refine side2 ?_ | refine sideL2 ?_ | refine xi _ (ro_at rfl rfl hrA1 hcv rfl) ?_ | fail)
      refine calledQ_pure (.v (.bool (c.data.toList.any badB))) rfl (fun _ w' => containsFunc_any c w') ?_
      cases hb : c.data.toList.any badB with
      | true =>
        rw [all_no hs (eS.trans (all_no hc (show rightC c = false from by rw [eC, hb]; rfl)))]
        repeat' ((conv => whnf); first | refine walk (Tryz.ok ..) ?_ | (refine Cnd.mk (fun h => ?_) (fun h => ?_) <;> (first | exact cndT h (by (try dsimp only); omega) | exact cndF h (by (try dsimp only); omega) | (exfalso; simp at h; omega) | simp at h | skip)) | refine side2 ?_ | fail)
        all_goals exact done_pure rfl rfl rfl
      | false =>
        repeat' ((conv => whnf); first | refine walk (Tryz.ok ..) ?_ | (refine Cnd.mk (fun h => ?_) (fun h => ?_) <;> (first | exact cndT h (by (try dsimp only); omega) | exact cndF h (by (try dsimp only); omega) | (exfalso; simp at h; omega) | simp at h | skip)) | refine side2 ?_ | refine sideL2 ?_ | fail)
        refine ⟨k + 1, ⟨⟨hk1, all_step he1 hc (by rw [eC, hb]; rfl)⟩, by omega⟩, ?_, ?_, rfl⟩
        all_goals ((repeat' (first | exact trivial | exact rfl | refine And.intro ?_ ?_)) <;> (try (conv => whnf)) <;> (try simp only [SV.real, SV.r2, SV.r1]))
    · obtain rfl : k = s.length := by omega
      rw [List.take_length] at he1
      repeat' ((conv => whnf); first | refine walk (Tryz.ok ..) ?_ | (refine Cnd.mk (fun h => ?_) (fun h => ?_) <;> (first | exact cndT h (by (try dsimp only); omega) | exact cndF h (by (try dsimp only); omega) | (exfalso; simp at h; omega) | simp at h | skip)) | refine sideL2 ?_ | fail)
      refine ⟨i + 1, ⟨⟨hi1, all_step he hs (eS.trans he1)⟩, by omega⟩, ?_, ?_, rfl⟩
      all_goals ((repeat' (first | exact trivial | exact rfl | refine And.intro ?_ ?_)) <;> (try (conv => whnf)) <;> (try simp only [SV.real, SV.r2, SV.r1]))
  · obtain rfl : i = a.length := by omega
    rw [List.take_length] at he
    rw [he]
    repeat' ((conv => whnf); first | refine walk (Tryz.ok ..) ?_ | (refine Cnd.mk (fun h => ?_) (fun h => ?_) <;> (first | exact cndT h (by (try dsimp only); omega) | exact cndF h (by (try dsimp only); omega) | (exfalso; simp at h; omega) | simp at h | skip)) | fail)
    exact done_pure rfl rfl rfl
theorem right_any (a : Segm) (va : Value) (w : World) (hA : NS w (fun _ => True) va a) :
    Calls Tryz.prog 42 #[va] w fun e w' => e = .returned (.bool (rightS a)) ∧ Below w.heap.size w w' := right_anyA a va w (ns_arg hA)
end
end Go.Proofs.YtdohcglpcgahaaaGreatDoor
