/-
  strings.ContainsFunc with Right's function: whether a byte lies outside of the printable ones.
-/
import Derived.Test.YtdohcglpcgahaaaDoorWP
import Derived.Test.YtdohcglpcgahaaaDoorRX
import Derived.Test.YtdohcglpcgahaaaDoorW1
import Derived.Test.YtdohcglpcgahaaaDoorSR
set_option linter.unusedSimpArgs false
set_option linter.unusedVariables false
namespace Go.Proofs.YtdohcglpcgahaaaDoor
open Go Sat Go.RowKit Go.PlainAid
/-- the place of the first byte outside, or -1 -/
def posBad : List UInt8 → Nat → Int
  | [], _ => -1
  | b :: l, k => if badB b = true then k else posBad l (k + 1)
theorem posBad_iff : ∀ (l : List UInt8) (k : Nat), (0 ≤ posBad l k ↔ l.any badB = true)
  | [], k => by simp [posBad]
  | b :: l, k => by
    simp only [posBad, List.any_cons, Bool.or_eq_true]
    by_cases h : badB b = true
    · rw [if_pos h]; simp [h]
    · rw [if_neg h, posBad_iff l (k + 1)]; simp [h]
theorem dec_at {s : ByteArray} {k : Nat} {c : UInt8} (h : s.data.toList[k]? = some c) (hc : c.toNat < 128) : Utf8.decode s k = (c.toNat, 1) := by
  have hk : k < s.size := (List.getElem?_eq_some_iff.1 h).1
  have e : s[k]'hk = c := (List.getElem?_eq_some_iff.1 h).2
  have := decode_ascii s k hk (by rw [e]; exact hc)
  rw [e] at this
  exact this
theorem dec_high {s : ByteArray} {k : Nat} {c : UInt8} (h : s.data.toList[k]? = some c) (hc : 128 ≤ c.toNat) : 128 ≤ (Utf8.decode s k).1 := by
  have hk : k < s.size := (List.getElem?_eq_some_iff.1 h).1
  have e : s[k]'hk = c := (List.getElem?_eq_some_iff.1 h).2
  exact (decode_high s k hk (by rw [e]; exact hc)).1
set_option maxRecDepth 100000 in
set_option maxHeartbeats 8000000 in
theorem out_any (c : Int) (w : World) :
    Calls Tryd.prog 72 #[.int .i32 c] w fun e w' => e = .returned (.bool (decide (c < 32 ∨ 126 < c))) ∧ Below w.heap.size w w' := by
  refine calls_sat (cx := Tryd.cx 9 [] [] [] w) (Tryd.ok ..) Tryd.func72 rfl [.v (.int .i32 c)] rfl (by show 1 ≤ 9; omega) [] (holds_nil (Nat.le_refl _)) ?_
  by_cases h1 : c < 32
  · rw [decide_eq_true (Or.inl h1)]
    repeat' ((conv => whnf); first | refine walk (Tryd.ok ..) ?_ | refine side2 ?_ | fail)
    all_goals exact done_pure rfl rfl (congrArg Value.bool (by simp; omega))
  by_cases h2 : 126 < c
  · rw [decide_eq_true (Or.inr h2)]
    repeat' ((conv => whnf); first | refine walk (Tryd.ok ..) ?_ | refine side2 ?_ | fail)
    all_goals exact done_pure rfl rfl (congrArg Value.bool (by simp; omega))
  rw [decide_eq_false (by omega)]
  repeat' ((conv => whnf); first | refine walk (Tryd.ok ..) ?_ | refine side2 ?_ | fail)
  all_goals exact done_pure rfl rfl (congrArg Value.bool (by simp; omega))
set_option maxRecDepth 100000 in
set_option maxHeartbeats 8000000 in
theorem indexFunc_any (s : ByteArray) (w : World) :
    Calls Tryd.prog 76 #[.string s, (SV.fn (Fn.func 72) [] []).real, .bool true] w fun e w' => e = .returned (.int .i64 (posBad s.data.toList 0)) ∧ Below w.heap.size w w' := by
  refine calls_sat (cx := Tryd.cx 21 [] [] [] w) (Tryd.ok ..) Tryd.func76 rfl [.v (.string s), .fn (Fn.func 72) [] [], .v (.bool true)] rfl (by show 3 ≤ 21; omega) [] (holds_nil (Nat.le_refl _)) ?_
  obtain ⟨l, hl⟩ : ∃ l, l = s.data.toList := ⟨_, rfl⟩
  have hsz : s.size = l.length := by rw [hl]; rfl
  rw [← hl]
  repeat' ((conv => whnf); first | refine walk (Tryd.ok ..) ?_ | fail)
  refine Sat.other_range_str (Tryd.ok 21 [] [] [] w.heap.size [] w).T (i := _) rfl rfl (s := s) rfl ?_
  intro gI hgI
  repeat' ((conv => whnf); first | refine walk (Tryd.ok ..) ?_ | fail)
  refine sat_loop (Tryd.ok ..) (α := Nat) (fun k => ([(0, .yes, .v (.string s)), (1, .yes, .fn (Fn.func 72) [] []), (2, .yes, .v (.bool true)), (10, .yes, .v (.pointer (some ⟨gI, 0, none⟩)))], [(10, Sat.HBo gI (.stringIter s k))]))
    (fun k => k ≤ l.length ∧ posBad (l.drop k) k = posBad l 0) (fun k => l.length - k) (fun _ => rfl) ?_ ?_
  · refine ⟨0, ⟨Nat.zero_le _, rfl⟩, ?_, ?_, rfl⟩
    all_goals ((repeat' (first | exact trivial | exact rfl | refine And.intro ?_ ?_)) <;> (try (conv => whnf)) <;> (try simp only [SV.real, SV.r2, SV.r1]))
  rintro k ⟨hk, hrun⟩
  repeat' ((conv => whnf); first | refine walk (Tryd.ok ..) ?_ | fail)
  refine Sat.other_next_str 10 (g := gI) (pos := k) (s := s) rfl rfl ⟨fun hlt => ?_, fun hge => ?_⟩
  · obtain ⟨b, hb⟩ : ∃ b, l[k]? = some b := ⟨l[k]'(by omega), List.getElem?_eq_getElem (by omega)⟩
    have hbs : s.data.toList[k]? = some b := by rw [← hl]; exact hb
    have hdrop : l.drop k = b :: l.drop (k + 1) := by
      rw [List.drop_eq_getElem_cons (by omega)]
      congr 1
      exact (List.getElem?_eq_some_iff.1 hb).2
    rw [hdrop, posBad] at hrun
    obtain ⟨c, hc⟩ : ∃ c : Nat, c = (Utf8.decode s k).1 := ⟨_, rfl⟩
    obtain ⟨k2, hk2⟩ : ∃ c : Nat, c = k + (Utf8.decode s k).2 := ⟨_, rfl⟩
    rw [← hc, ← hk2]
    have hbad : badB b = true ↔ (c < 32 ∨ 126 < c) := by
      unfold badB
      rw [decide_eq_true_iff]
      rcases Nat.lt_or_ge b.toNat 128 with h1 | h1
      · rw [hc, dec_at hbs h1]
      · have := dec_high hbs h1
        omega
    have hk3 : ¬ (c < 32 ∨ 126 < c) → k2 = k + 1 := fun hn => by
      rcases Nat.lt_or_ge b.toNat 128 with h1 | h1
      · rw [hk2, dec_at hbs h1]
      · have := dec_high hbs h1
        omega
    repeat' ((conv => whnf); first | refine walk (Tryd.ok ..) ?_ | (refine Cnd.mk (fun h => ?_) (fun h => ?_) <;> (first | exact cndT h (by (try dsimp only); omega) | exact cndF h (by (try dsimp only); omega) | (exfalso; simp at h; omega) | simp at h | skip)) | refine side2 ?_ | fail)
    (conv => whnf)
    refine called_pure (.v (.bool (decide ((c : Int) < 32 ∨ 126 < (c : Int))))) rfl (fun w' => out_any c w') ?_
    by_cases hcb : c < 32 ∨ 126 < c
    · rw [if_pos (hbad.2 hcb)] at hrun
      rw [decide_eq_true (show (c : Int) < 32 ∨ 126 < (c : Int) by omega), ← hrun]
      repeat' ((conv => whnf); first | refine walk (Tryd.ok ..) ?_ | (refine Cnd.mk (fun h => ?_) (fun h => ?_) <;> (first | exact cndT h (by (try dsimp only); omega) | exact cndF h (by (try dsimp only); omega) | (exfalso; simp at h; omega) | simp at h | skip)) | fail)
      exact done_pure rfl rfl rfl
    · rw [if_neg (fun h => hcb (hbad.1 h))] at hrun
      rw [decide_eq_false (show ¬ ((c : Int) < 32 ∨ 126 < (c : Int)) by omega), hk3 hcb]
      repeat' ((conv => whnf); first | refine walk (Tryd.ok ..) ?_ | (refine Cnd.mk (fun h => ?_) (fun h => ?_) <;> (first | exact cndT h (by (try dsimp only); omega) | exact cndF h (by (try dsimp only); omega) | (exfalso; simp at h; omega) | simp at h | skip)) | fail)
      refine ⟨k + 1, ⟨⟨by omega, hrun⟩, by omega⟩, ?_, ?_, rfl⟩
      all_goals ((repeat' (first | exact trivial | exact rfl | refine And.intro ?_ ?_)) <;> (try (conv => whnf)) <;> (try simp only [SV.real, SV.r2, SV.r1]))
  · obtain rfl : k = l.length := by omega
    rw [List.drop_length] at hrun
    rw [← hrun]
    repeat' ((conv => whnf); first | refine walk (Tryd.ok ..) ?_ | (refine Cnd.mk (fun h => ?_) (fun h => ?_) <;> (first | exact cndT h (by (try dsimp only); omega) | exact cndF h (by (try dsimp only); omega) | (exfalso; simp at h; omega) | simp at h | skip)) | fail)
    exact done_pure rfl rfl rfl
set_option maxRecDepth 100000 in
set_option maxHeartbeats 8000000 in
theorem containsFunc_any (s : ByteArray) (w : World) :
    Calls Tryd.prog 24 #[.string s, (SV.fn (Fn.func 72) [] []).real] w fun e w' => e = .returned (.bool (s.data.toList.any badB)) ∧ Below w.heap.size w w' := by
  have hidx : ∀ w : World, Calls Tryd.prog 50 #[.string s, (SV.fn (Fn.func 72) [] []).real] w fun e w' => e = .returned (.int .i64 (posBad s.data.toList 0)) ∧ Below w.heap.size w w' := fun w => by
    refine calls_sat (cx := Tryd.cx 8 [] [] [] w) (Tryd.ok ..) Tryd.func50 rfl [.v (.string s), .fn (Fn.func 72) [] []] rfl (by show 2 ≤ 8; omega) [] (holds_nil (Nat.le_refl _)) ?_
    repeat' ((conv => whnf); first | refine walk (Tryd.ok ..) ?_ | fail)
    refine called_pure (.v (.int .i64 (posBad s.data.toList 0))) rfl (fun w' => indexFunc_any s w') ?_
    repeat' ((conv => whnf); first | refine walk (Tryd.ok ..) ?_ | fail)
    exact done_pure rfl rfl rfl
  refine calls_sat (cx := Tryd.cx 9 [] [] [] w) (Tryd.ok ..) Tryd.func24 rfl [.v (.string s), .fn (Fn.func 72) [] []] rfl (by show 2 ≤ 9; omega) [] (holds_nil (Nat.le_refl _)) ?_
  repeat' ((conv => whnf); first | refine walk (Tryd.ok ..) ?_ | fail)
  refine called_pure (.v (.int .i64 (posBad s.data.toList 0))) rfl (fun w' => hidx w') ?_
  have hp := posBad_iff s.data.toList 0
  cases hb : s.data.toList.any badB with
  | true =>
    have h0 : 0 ≤ posBad s.data.toList 0 := hp.2 hb
    repeat' ((conv => whnf); first | refine walk (Tryd.ok ..) ?_ | fail)
    exact done_pure rfl rfl (congrArg Value.bool (decide_eq_true h0))
  | false =>
    have h0 : ¬ 0 ≤ posBad s.data.toList 0 := fun h => by rw [hp.1 h] at hb; cases hb
    repeat' ((conv => whnf); first | refine walk (Tryd.ok ..) ?_ | fail)
    exact done_pure rfl rfl (congrArg Value.bool (decide_eq_false h0))
end Go.Proofs.YtdohcglpcgahaaaDoor
