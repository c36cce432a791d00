/-
  The walks of the reference's reader: worse, end, cut. The walks of the reference's reader: cut, component. The walk of the reference's component. The walk of the reference's segment. The walk of the reference's Read.
-/
import Derived.Test.YtdohcglpcgahaaaGreatDoorRVX
import Derived.Test.YtdohcglpcgahaaaGreatDoorVRQ
import Derived.Test.YtdohcglpcgahaaaGreatDoorW2
set_option linter.unusedSimpArgs false
set_option linter.unusedVariables false
namespace Go.Proofs.YtdohcglpcgahaaaGreatDoor
section
open Go Sat Go.RowKit Go.PlainAid
def fC (f : Flt) : List SV := [.v (.int .i64 f.at_), .v (.int .i64 f.rank), .v (.int .i64 f.e)]
def fV (f : Flt) : Value := .agg #[.int .i64 f.at_, .int .i64 f.rank, .int .i64 f.e]
set_option maxRecDepth 100000 in
set_option maxHeartbeats 8000000 in
theorem worse_any (a b : Flt) (w : World) : Calls Tryz.prog 63 #[fV a, fV b] w fun e w' => e = .returned (fV (worseF a b)) ∧ Below w.heap.size w w' := by
  obtain ⟨aa, ar, ae⟩ := a
  obtain ⟨ba, br, be⟩ := b
  refine calls_sat (cx := Tryz.cx 36 [] [] [] w) (Tryz.ok ..) Tryz.func63 rfl [.a (fC ⟨aa, ar, ae⟩), .a (fC ⟨ba, br, be⟩)] rfl (by show 2 ≤ 36; omega) [] (holds_nil (Nat.le_refl _)) ?_
  repeat' ((conv => whnf); first | refine walk (Tryz.ok ..) ?_ | (refine Cnd.mk (fun h => ?_) (fun h => ?_) <;> (first | exact cndT h (by (try dsimp only); omega) | exact cndF h (by (try dsimp only); omega) | (exfalso; simp at h; omega) | simp at h | skip)) | refine side2 ?_ | refine xi _ (And.intro rfl rfl) ?_ | refine xi _ (fun _ => And.intro rfl rfl) ?_ | intro g hg | fail)
  · have e1 : worseF ⟨aa, ar, ae⟩ ⟨ba, br, be⟩ = ⟨ba, br, be⟩ := if_pos h
    rw [e1]
    exact done_pure rfl rfl rfl
  · have e1 : worseF ⟨aa, ar, ae⟩ ⟨ba, br, be⟩ = ⟨aa, ar, ae⟩ := if_neg (by unfold worseC; dsimp only; omega)
    rw [e1]
    exact done_pure rfl rfl rfl
theorem endQ_end {l : List UInt8} {k : Nat} (h : l.length ≤ k) : endQ (l.drop k) = 0 := by rw [List.drop_eq_nil_of_le h]; rfl
theorem endQ_stop {l : List UInt8} {k : Nat} (h : l[k]? = some 39) : endQ (l.drop k) = 0 := by rw [drop_at h]; unfold endQ; rw [if_pos rfl]
theorem endQ_step {l : List UInt8} {k : Nat} {c : UInt8} (h : l[k]? = some c) (h1 : c ≠ 39) (h2 : c ≠ 63) : endQ (l.drop k) = 1 + endQ (l.drop (k + 1)) := by
  rw [drop_at h]
  conv => lhs; unfold endQ
  rw [if_neg h1, if_neg h2]
theorem endQ_two {l : List UInt8} {k : Nat} (h : l[k]? = some 63) : endQ (l.drop k) = if k + 1 < l.length then 2 + endQ (l.drop (k + 2)) else 1 := by
  rw [drop_at h]
  conv => lhs; unfold endQ
  rw [if_neg (by decide), if_pos rfl]
  by_cases hk : k + 1 < l.length
  · rw [if_pos hk, List.drop_eq_getElem_cons hk]
  · rw [if_neg hk, List.drop_eq_nil_of_le (by omega)]
/-- where the search for a segment's end is -/
structure AtEnd (l : List UInt8) (r k : Nat) : Prop where
  le : k ≤ l.length + 1
  go : k ≤ l.length → r = k + endQ (l.drop k)
  out : k = l.length + 1 → r = l.length
set_option maxRecDepth 100000 in
set_option maxHeartbeats 8000000 in
theorem end_any (s : ByteArray) (i : Nat) (hi : i ≤ s.size) (hs : s.size ≤ 100000) (w : World) : Calls Tryz.prog 61 #[.string s, .int .i64 i] w fun e w' => e = .returned (.int .i64 ((i + endQ (s.data.toList.drop i) : Nat) : Int)) ∧ Below w.heap.size w w' := by
  refine calls_sat (cx := Tryz.cx 30 [] [] [] w) (Tryz.ok ..) Tryz.func61 rfl [.v (.string s), .v (.int .i64 i)] rfl (by show 2 ≤ 30; omega) [] (holds_nil (Nat.le_refl _)) ?_
  generalize hr : i + endQ (s.data.toList.drop i) = r
  have hsz : s.size = s.data.toList.length := rfl
  repeat' ((conv => whnf); first | refine walk (Tryz.ok ..) ?_ | fail)
  refine sat_loop (Tryz.ok ..) (α := Nat) (fun k => ([(0, .yes, .v (.string s)), (1, .yes, .v (.int .i64 k))], []))
    (fun k => AtEnd s.data.toList r k) (fun k => s.size + 1 - k) (fun _ => rfl) ?_ ?_
  · refine ⟨i, ⟨by omega, fun _ => hr.symm, fun h => by omega⟩, ?_, ?_, rfl⟩
    all_goals ((repeat' (first | exact trivial | exact rfl | refine And.intro ?_ ?_)) <;> (try (conv => whnf)) <;> (try simp only [SV.real, SV.r2, SV.r1]))
  rintro k ⟨h1, h2, h3⟩
  by_cases hk : k < s.size
  case neg =>
    have e1 : r = s.size := by
      by_cases hk2 : k = s.size
      · rw [h2 (by omega), endQ_end (by omega)]
        omega
      · exact h3 (by omega)
    rw [e1]
    by_cases hk2 : k = s.size
    · subst hk2
      repeat' ((conv => whnf); first | refine walk (Tryz.ok ..) ?_ | (refine Cnd.mk (fun h => ?_) (fun h => ?_) <;> (first | exact cndT h (by (try dsimp only); omega) | exact cndF h (by (try dsimp only); omega) | (exfalso; simp at h; omega) | simp at h | skip)) | refine side2 ?_ | fail)
      all_goals exact done_pure rfl rfl rfl
    · repeat' ((conv => whnf); first | refine walk (Tryz.ok ..) ?_ | (refine Cnd.mk (fun h => ?_) (fun h => ?_) <;> (first | exact cndT h (by (try dsimp only); omega) | exact cndF h (by (try dsimp only); omega) | (exfalso; simp at h; omega) | simp at h | skip)) | refine side2 ?_ | fail)
      all_goals exact done_pure rfl rfl rfl
  obtain ⟨c, hc⟩ : ∃ c, s.data.toList[k]? = some c := ⟨_, List.getElem?_eq_getElem hk⟩
  have hbt : bt s (k : Int).toNat = (c.toNat : Int) := bt_at hc
  have hbt2 : bt s k = (c.toNat : Int) := bt_at hc
  have hr2 := h2 (by omega)
  clear h2 h3
  by_cases h39 : c = 39
  · have hn : (c.toNat : Int) = 39 := by rw [h39]; rfl
    rw [endQ_stop (by rw [← h39]; exact hc)] at hr2
    rw [hr2]
    repeat' ((conv => whnf); first | refine walk (Tryz.ok ..) ?_ | (refine Cnd.mk (fun h => ?_) (fun h => ?_) <;> (first | exact cndT h (by (try dsimp only); omega) | exact cndF h (by (try dsimp only); omega) | (exfalso; simp at h; omega) | simp at h | skip)) | refine side2 ?_ | fail)
    all_goals exact done_pure rfl rfl rfl
  have hn39 : (c.toNat : Int) ≠ 39 := fun e => h39 (UInt8.toNat_inj.1 (by rw [show (39 : UInt8).toNat = 39 from rfl]; omega))
  by_cases h63 : c = 63
  · have hn : (c.toNat : Int) = 63 := by rw [h63]; rfl
    rw [endQ_two (by rw [← h63]; exact hc)] at hr2
    repeat' ((conv => whnf); first | refine walk (Tryz.ok ..) ?_ | (refine Cnd.mk (fun h => ?_) (fun h => ?_) <;> (first | exact cndT h (by (try dsimp only); omega) | exact cndF h (by (try dsimp only); omega) | (exfalso; simp at h; omega) | simp at h | skip)) | refine side2 ?_ | refine sideL2 ?_ | fail)
    refine ⟨k + 2, ⟨⟨by omega, fun h => by rw [if_pos (by omega)] at hr2; omega, fun h => by rw [if_neg (by omega)] at hr2; omega⟩, by omega⟩, ?_, ?_, rfl⟩
    all_goals ((repeat' (first | exact trivial | exact rfl | refine And.intro ?_ ?_)) <;> (try (conv => whnf)) <;> (try simp only [SV.real, SV.r2, SV.r1]))
  have hn63 : (c.toNat : Int) ≠ 63 := fun e => h63 (UInt8.toNat_inj.1 (by rw [show (63 : UInt8).toNat = 63 from rfl]; omega))
  rw [endQ_step hc h39 h63] at hr2
  repeat' ((conv => whnf); first | refine walk (Tryz.ok ..) ?_ | (refine Cnd.mk (fun h => ?_) (fun h => ?_) <;> (first | exact cndT h (by (try dsimp only); omega) | exact cndF h (by (try dsimp only); omega) | (exfalso; simp at h; omega) | simp at h | skip)) | refine side2 ?_ | refine sideL2 ?_ | fail)
  refine ⟨k + 1, ⟨⟨by omega, fun h => by omega, fun h => by omega⟩, by omega⟩, ?_, ?_, rfl⟩
  all_goals ((repeat' (first | exact trivial | exact rfl | refine And.intro ?_ ?_)) <;> (try (conv => whnf)) <;> (try simp only [SV.real, SV.r2, SV.r1]))
end
section
open Go Sat Go.RowKit Go.PlainAid
theorem cutQ_nil (c : UInt8) (n i : Nat) : cutQ c n [] i = [] := by unfold cutQ; rfl
theorem cutQ_step {T : List UInt8} {b c : UInt8} {k te : Nat} (h : T[k]? = some c) (hk : k < te) (h63 : c ≠ 63) : cutQ b (te - k) (T.drop k) k = if c = b then (k + 1) :: cutQ b (te - (k + 1)) (T.drop (k + 1)) (k + 1) else cutQ b (te - (k + 1)) (T.drop (k + 1)) (k + 1) := by
  rw [drop_at h, show te - k = 1 + (te - (k + 1)) from by omega, cutQ_b b h63]
theorem cutQ_skip {T : List UInt8} {b : UInt8} {k te : Nat} (h : T[k]? = some 63) (hk : k < te) : cutQ b (te - k) (T.drop k) k = cutQ b (te - (k + 2)) (T.drop (k + 2)) (k + 2) := by
  rw [drop_at h]
  by_cases hl : k + 1 < T.length
  · rw [List.drop_eq_getElem_cons hl]
    conv => lhs; unfold cutQ
    rw [if_neg (by omega), if_pos rfl]
    show cutQ b (te - k - 2) (T.drop (k + 1 + 1)) (k + 2) = _
    rw [Nat.sub_sub]
  · rw [List.drop_eq_nil_of_le (show T.length ≤ k + 1 by omega), List.drop_eq_nil_of_le (show T.length ≤ k + 2 by omega), cutQ_nil]
    conv => lhs; unfold cutQ
    rw [if_neg (by omega), if_pos rfl]
theorem cutQ_len (b : UInt8) : ∀ (n : Nat) (l : List UInt8), l.length ≤ n → ∀ (m i : Nat), (cutQ b m l i).length ≤ l.length
  | 0, l, h, m, i => by
    obtain rfl : l = [] := List.eq_nil_of_length_eq_zero (by omega)
    rw [cutQ_nil]
    exact Nat.le_refl _
  | n + 1, [], h, m, i => by rw [cutQ_nil]; exact Nat.le_refl _
  | n + 1, c :: l, h, m, i => by
    rw [List.length_cons] at h
    unfold cutQ
    split
    · simp
    split
    · cases l with
      | nil => simp
      | cons d l' =>
        have := cutQ_len b n l' (by rw [List.length_cons] at h; omega) (m - 2) (i + 2)
        simp only [List.length_cons]
        omega
    split
    · have := cutQ_len b n l (by omega) (m - 1) (i + 1)
      simp only [List.length_cons]
      omega
    · have := cutQ_len b n l (by omega) (m - 1) (i + 1)
      simp only [List.length_cons]
      omega
def iv (l : List Nat) : List Value := l.map fun n : Nat => Value.int .i64 (n : Int)
theorem iv_snoc (l : List Nat) (n : Nat) : iv (l ++ [n]) = iv l ++ [.int .i64 (n : Int)] := by unfold iv; rw [List.map_append]; rfl
theorem u8_eq {b c : UInt8} : b = c ↔ (b.toNat : Int) = c.toNat := ⟨fun h => by rw [h], fun h => UInt8.toNat_inj.1 (by omega)⟩
set_option maxRecDepth 100000 in
set_option maxHeartbeats 8000000 in
theorem cut_any (s : ByteArray) (i te : Nat) (b : UInt8) (hto : te ≤ s.size) (hi : i ≤ te) (hs : s.size ≤ 100000) (w : World) :
    Calls Tryz.prog 82 #[.string s, .int .i64 i, .int .i64 te, .int .u8 (b.toNat : Int)] w fun e w' => ∃ v, e = .returned v ∧ w'.ownsRow w.heap.size 3 1 v (i :: cutQ b (te - i) (s.data.toList.drop i) i).length (iv (i :: cutQ b (te - i) (s.data.toList.drop i) i)) ∧ Below w.heap.size w w' := by
  refine calls_sat (cx := Tryz.cx 36 [] [] [] w) (Tryz.ok ..) Tryz.func82 rfl [.v (.string s), .v (.int .i64 i), .v (.int .i64 te), .v (.int .u8 (b.toNat : Int))] rfl (by show 4 ≤ 36; omega) [] (holds_nil (Nat.le_refl _)) ?_
  have hfull := cutQ_len b _ (s.data.toList.drop i) (Nat.le_refl _) (te - i) i
  have hsz : s.size = s.data.toList.length := rfl
  rw [List.length_drop, ← hsz] at hfull
  generalize hR : i :: cutQ b (te - i) (s.data.toList.drop i) i = R
  have hRl : R.length ≤ 100001 := by rw [← hR, List.length_cons]; omega
  repeat' ((conv => whnf); first | refine walk (Tryz.ok ..) ?_ | intro g hg | fail)
  refine sat_own 12 (n := 1) (size := 1) rfl rfl rfl (by decide) ?_
  refine sat_loop (Tryz.ok ..) (α := Nat × List Nat × Option (Nat × Nat) × Nat) (fun t => ([(0, .yes, .v (.string s)), (2, .yes, .v (.int .i64 te)), (3, .yes, .v (.int .u8 (b.toNat : Int))), (9, .yes, .o 12 t.2.2.1 t.2.1.length t.2.2.2), (10, .yes, .v (.int .i64 t.1))], [(12, .row t.2.2.1 3 1 t.2.1.length t.2.2.2 (iv t.2.1))]))
    (fun t => t.1 ≤ te + 1 ∧ t.2.1 ++ cutQ b (te - t.1) (s.data.toList.drop t.1) t.1 = R) (fun t => te + 1 - t.1) (fun _ => rfl) ?_ ?_
  · refine ⟨(i, [i], some (g, 0), 1), ⟨by omega, hR⟩, ?_, ?_, rfl⟩
    all_goals ((repeat' (first | exact trivial | exact rfl | refine And.intro ?_ ?_)) <;> (try (conv => whnf)) <;> (try simp only [SV.real, SV.r2, SV.r1]))
  rintro ⟨k, L, A, cap⟩ ⟨hk, hL⟩
  dsimp only at hk hL ⊢
  have hLl : L.length ≤ 100001 := by
    have := congrArg List.length hL
    rw [List.length_append] at this
    omega
  by_cases hk1 : k < te
  case neg =>
    rw [show te - k = 0 from by omega, cutQ_zero, List.append_nil] at hL
    subst hL
    repeat' ((conv => whnf); first | refine walk (Tryz.ok ..) ?_ | (refine Cnd.mk (fun h => ?_) (fun h => ?_) <;> (first | exact cndT h (by (try dsimp only); omega) | exact cndF h (by (try dsimp only); omega) | (exfalso; simp at h; omega) | simp at h | skip)) | fail)
    exact done_row2 (mk := id) rfl rfl 12 A cap rfl rfl rfl rfl
  obtain ⟨c, hc⟩ : ∃ c, s.data.toList[k]? = some c := ⟨_, List.getElem?_eq_getElem (by omega)⟩
  have hbt : bt s (k : Int).toNat = (c.toNat : Int) := bt_at hc
  have hbt2 : bt s k = (c.toNat : Int) := bt_at hc
  by_cases h63 : c = 63
  · have hn : (c.toNat : Int) = 63 := by rw [h63]; rfl
    rw [cutQ_skip (by rw [← h63]; exact hc) hk1] at hL
    by_cases hk2 : k + 1 < te
    · repeat' ((conv => whnf); first | refine walk (Tryz.ok ..) ?_ | (refine Cnd.mk (fun h => ?_) (fun h => ?_) <;> (first | exact cndT h (by (try dsimp only); omega) | exact cndF h (by (try dsimp only); omega) | (exfalso; simp at h; omega) | simp at h | skip)) | refine side2 ?_ | refine sideL2 ?_ | fail)
      refine ⟨(k + 2, L, A, cap), ⟨⟨by omega, hL⟩, by omega⟩, ?_, ?_, rfl⟩
      all_goals ((repeat' (first | exact trivial | exact rfl | refine And.intro ?_ ?_)) <;> (try (conv => whnf)) <;> (try simp only [SV.real, SV.r2, SV.r1]))
    · repeat' ((conv => whnf); first | refine walk (Tryz.ok ..) ?_ | (refine Cnd.mk (fun h => ?_) (fun h => ?_) <;> (first | exact cndT h (by (try dsimp only); omega) | exact cndF h (by (try dsimp only); omega) | (exfalso; simp at h; omega) | simp at h | skip)) | refine side2 ?_ | refine sideL2 ?_ | fail)
      refine ⟨(k + 2, L, A, cap), ⟨⟨by omega, hL⟩, by omega⟩, ?_, ?_, rfl⟩
      all_goals ((repeat' (first | exact trivial | exact rfl | refine And.intro ?_ ?_)) <;> (try (conv => whnf)) <;> (try simp only [SV.real, SV.r2, SV.r1]))
  have hn63 : (c.toNat : Int) ≠ 63 := fun e => h63 (UInt8.toNat_inj.1 (by rw [show (63 : UInt8).toNat = 63 from rfl]; omega))
  rw [cutQ_step hc hk1 h63] at hL
  by_cases hcb : c = b
  · have hn : (c.toNat : Int) = b.toNat := u8_eq.1 hcb
    rw [if_pos hcb] at hL
    repeat' ((conv => whnf); first | refine walk (Tryz.ok ..) ?_ | (refine Cnd.mk (fun h => ?_) (fun h => ?_) <;> (first | exact cndT h (by (try dsimp only); omega) | exact cndF h (by (try dsimp only); omega) | (exfalso; simp at h; omega) | simp at h | skip)) | refine side2 ?_ | refine sideL2 ?_ | fail)
    (conv => whnf)
    intro g2 hg2
    repeat' ((conv => whnf); first | refine side2 ?_ | refine Or.inr ?_ | fail)
    (conv => whnf)
    intro A2 cap2
    repeat' ((conv => whnf); first | refine walk (Tryz.ok ..) ?_ | refine sideL2 ?_ | fail)
    refine ⟨(k + 1, L ++ [k + 1], A2, cap2), ⟨⟨by omega, by rw [List.append_assoc]; exact hL⟩, by omega⟩, ?_, ?_, rfl⟩
    all_goals ((repeat' (first | exact trivial | exact rfl | refine And.intro ?_ ?_)) <;> (try (conv => whnf)) <;> (try simp only [SV.real, SV.r2, SV.r1]))
    · exact congrArg (fun n => Value.slice (adr A2) n cap2) (by rw [List.length_append]; rfl)
    · rw [List.length_append]
      rfl
    · rw [iv_snoc]
      rfl
  · have hn : (c.toNat : Int) ≠ b.toNat := fun e => hcb (u8_eq.2 e)
    rw [if_neg hcb] at hL
    repeat' ((conv => whnf); first | refine walk (Tryz.ok ..) ?_ | (refine Cnd.mk (fun h => ?_) (fun h => ?_) <;> (first | exact cndT h (by (try dsimp only); omega) | exact cndF h (by (try dsimp only); omega) | (exfalso; simp at h; omega) | simp at h | skip)) | refine side2 ?_ | refine sideL2 ?_ | fail)
    refine ⟨(k + 1, L, A, cap), ⟨⟨by omega, hL⟩, by omega⟩, ?_, ?_, rfl⟩
    all_goals ((repeat' (first | exact trivial | exact rfl | refine And.intro ?_ ?_)) <;> (try (conv => whnf)) <;> (try simp only [SV.real, SV.r2, SV.r1]))
theorem compQ_stop {T : List UInt8} {k te : Nat} (h : te ≤ k) (out : List UInt8) (f : Flt) : compQ (te - k) (T.drop k) k out f = (out, f) := by
  rw [show te - k = 0 from by omega, compQ_zero]
theorem compQ_step {T : List UInt8} {c : UInt8} {k te : Nat} (h : T[k]? = some c) (hk : k < te) (h63 : c ≠ 63) (out : List UInt8) (f : Flt) : compQ (te - k) (T.drop k) k out f = compQ (te - (k + 1)) (T.drop (k + 1)) (k + 1) (out ++ [c]) (if out.length = 100 then worseF (if badB c = true then worseF f ⟨k, 2, 40⟩ else f) ⟨k, 4, 3⟩ else (if badB c = true then worseF f ⟨k, 2, 40⟩ else f)) := by
  rw [drop_at h, show te - k = 1 + (te - (k + 1)) from by omega, compQ_b h63]
theorem compQ_esc {T : List UInt8} {d : UInt8} {k te : Nat} (h : T[k]? = some 63) (hd : T[k + 1]? = some d) (hk : k < te) (out : List UInt8) (f : Flt) : compQ (te - k) (T.drop k) k out f = if ¬ (svc (d.toNat : Int) ∨ d = 32) then compQ (te - (k + 2)) (T.drop (k + 2)) (k + 2) out (worseF f ⟨k, 3, 41⟩) else compQ (te - (k + 2)) (T.drop (k + 2)) (k + 2) (out ++ [d]) (if out.length = 100 then worseF f ⟨k, 4, 3⟩ else f) := by
  rw [drop_at h, drop_at hd]
  conv => lhs; unfold compQ
  rw [if_neg (by omega), if_pos rfl]
  show (if ¬ (svc (d.toNat : Int) ∨ d = 32) then compQ (te - k - 2) (T.drop (k + 1 + 1)) (k + 2) out (worseF f ⟨k, 3, 41⟩) else compQ (te - k - 2) (T.drop (k + 1 + 1)) (k + 2) (out ++ [d]) (if out.length = 100 then worseF f ⟨k, 4, 3⟩ else f)) = _
  rw [Nat.sub_sub]
theorem compQ_last {T : List UInt8} {k te : Nat} (h : T[k]? = some 63) (hl : T.length ≤ k + 1) (hk : k < te) (out : List UInt8) (f : Flt) : compQ (te - k) (T.drop k) k out f = (out, worseF f ⟨k, 3, 41⟩) := by
  rw [drop_at h, List.drop_eq_nil_of_le hl, show te - k = (te - k - 1) + 1 from by omega, compQ_w]
theorem ub_snoc (l : List UInt8) (c : UInt8) : uB (l ++ [c]) = uB l ++ [.int .u8 (c.toNat : Int)] := by unfold uB; rw [List.map_append]; rfl
end
section
open Go Sat Go.RowKit Go.PlainAid
theorem ub_back2 (l : List UInt8) : ∀ (j : Nat) (u : Value), ((l.map fun b => (b.toNat : Int)).map (Value.int .u8))[j]? = some u → (uB l)[j]? = some u := fun j u h => by unfold uB; rw [List.map_map] at h; exact h
set_option maxRecDepth 100000 in
set_option maxHeartbeats 16000000 in
theorem component_any (s : ByteArray) (i te : Nat) (hto : te ≤ s.size) (hi : i ≤ te) (hs : s.size ≤ 100000) (w : World) :
    Calls Tryz.prog 83 #[.string s, .int .i64 i, .int .i64 te] w fun e w' => e = .returned (.tuple #[.string (ba (compQ (te - i) (s.data.toList.drop i) i [] flt0).1), fV (compQ (te - i) (s.data.toList.drop i) i [] flt0).2]) ∧ Below w.heap.size w w' := by
  refine calls_sat (cx := Tryz.cx 76 [16] [] [] w) (Tryz.ok ..) Tryz.func83 rfl [.v (.string s), .v (.int .i64 i), .v (.int .i64 te)] rfl (by show 3 ≤ 76; omega) [] (holds_nil (Nat.le_refl _)) ?_
  have hsz : s.size = s.data.toList.length := rfl
  generalize hR : compQ (te - i) (s.data.toList.drop i) i [] flt0 = R
  repeat' ((conv => whnf); first | refine walk (Tryz.ok ..) ?_ | fail)
  (conv => whnf)
  intro g7 hg7
  repeat' ((conv => whnf); first | refine walk (Tryz.ok ..) ?_ | fail)
  (conv => whnf)
  intro g9 hg9
  repeat' ((conv => whnf); first | refine walk (Tryz.ok ..) ?_ | fail)
  refine sat_loop (Tryz.ok ..) (α := Nat × List UInt8 × Option (Nat × Nat) × Nat × Flt) (fun t => ([(0, .yes, .v (.string s)), (2, .yes, .v (.int .i64 te)), (7, .yes, .p 7 g7 0 0), (8, .yes, .o 72 t.2.2.1 t.2.1.length t.2.2.2.1), (9, .yes, .p 9 g9 0 0), (10, .yes, .v (.int .i64 t.1))], [(7, .blk g7 112 (fC flt0)), (9, .blk g9 112 (fC t.2.2.2.2)), (72, .row t.2.2.1 5 1 t.2.1.length t.2.2.2.1 (uB t.2.1))]))
    (fun t => t.1 ≤ te + 1 ∧ t.2.1.length ≤ t.1 ∧ compQ (te - t.1) (s.data.toList.drop t.1) t.1 t.2.1 t.2.2.2.2 = R) (fun t => te + 1 - t.1) (fun _ => rfl) ?_ ?_
  · refine ⟨(i, [], none, 0, flt0), ⟨by omega, Nat.zero_le _, hR⟩, ?_, ?_, rfl⟩
    all_goals ((repeat' (first | exact trivial | exact rfl | refine And.intro ?_ ?_)) <;> (try (conv => whnf)) <;> (try simp only [SV.real, SV.r2, SV.r1]))
  rintro ⟨k, out, A, cap, f⟩ ⟨hk, hol, hL⟩
  dsimp only at hk hol hL ⊢
  by_cases hk1 : k < te
  case neg =>
    rw [compQ_stop (by omega)] at hL
    subst hL
    have hstr := strOf_ba out
    have hub := ub_back2 out
    have hul : out.length = (out.map fun b => (b.toNat : Int)).length := by rw [List.length_map]
    repeat' ((conv => whnf); first | refine walk (Tryz.ok ..) ?_ | (refine Cnd.mk (fun h => ?_) (fun h => ?_) <;> (first | exact cndT h (by (try dsimp only); omega) | exact cndF h (by (try dsimp only); omega) | (exfalso; simp at h; omega) | simp at h | skip)) | fail)
    refine sat_draw (Tryz.ok ..) [2] [(9, .blk g9 112 (fC f)), (72, .row A 5 1 out.length cap (uB out))] (by kernel_rfl) (fun w hw => hw.sub ?_) ?_
    · ((repeat' (first | exact trivial | exact rfl | refine And.intro ?_ ?_)) <;> (try (conv => whnf)) <;> (try simp only [SV.real, SV.r2, SV.r1]))
    repeat' ((conv => whnf); first | refine walk (Tryz.ok ..) ?_ | refine kp ?_ ?_ | exact trivial | refine side2 ?_ | refine xi _ (And.intro hul hub) ?_ | fail)
    exact done_pure rfl rfl (congrArg (fun b => Value.tuple #[.string b, fV f]) hstr)
  obtain ⟨c, hc⟩ : ∃ c, s.data.toList[k]? = some c := ⟨_, List.getElem?_eq_getElem (by omega)⟩
  have hbt : bt s (k : Int).toNat = (c.toNat : Int) := bt_at hc
  have hbt2 : bt s k = (c.toNat : Int) := bt_at hc
  by_cases h63 : c = 63
  · subst h63
    have hn : bt s k = 63 := hbt2
    by_cases hlast : s.size ≤ k + 1
    · rw [compQ_last hc (by omega) hk1, ← compQ_stop (T := s.data.toList) (k := k + 2) (te := te) (by omega)] at hL
      repeat' ((conv => whnf); first | refine walk (Tryz.ok ..) ?_ | (refine Cnd.mk (fun h => ?_) (fun h => ?_) <;> (first | exact cndT h (by (try dsimp only); omega) | exact cndF h (by (try dsimp only); omega) | (exfalso; simp at h; omega) | simp at h | skip)) | refine side2 ?_ | refine sideL2 ?_ | fail)
      (conv => whnf)
      refine calledQ_at (.v (.bool true)) rfl (fun hq w' hh => by exact absurd (show (!decide ((s.size : Int) ≤ (k : Int) + 1)) = true from hq) (by rw [decide_eq_true (by omega)]; exact Bool.false_ne_true)) ?_
      repeat' ((conv => whnf); first | refine walk (Tryz.ok ..) ?_ | (refine Cnd.mk (fun h => ?_) (fun h => ?_) <;> (first | exact cndT h (by (try dsimp only); omega) | exact cndF h (by (try dsimp only); omega) | (exfalso; simp at h; omega) | simp at h | skip)) | refine side2 ?_ | fail)
      (conv => whnf)
      refine called_pure (.a (fC (worseF f ⟨(k : Int), 3, 41⟩))) rfl (fun w' => worse_any f ⟨(k : Int), 3, 41⟩ w') ?_
      repeat' ((conv => whnf); first | refine walk (Tryz.ok ..) ?_ | refine side2 ?_ | refine sideL2 ?_ | fail)
      refine ⟨(k + 2, out, A, cap, worseF f ⟨(k : Int), 3, 41⟩), ⟨⟨by omega, by show out.length ≤ k + 2; omega, hL⟩, by omega⟩, ?_, ?_, rfl⟩
      all_goals ((repeat' (first | exact trivial | exact rfl | refine And.intro ?_ ?_)) <;> (try (conv => whnf)) <;> (try simp only [SV.real, SV.r2, SV.r1]))
    obtain ⟨d, hd⟩ : ∃ d, s.data.toList[k + 1]? = some d := ⟨_, List.getElem?_eq_getElem (by omega)⟩
    have hbd : bt s ((k : Int) + 1).toNat = (d.toNat : Int) := by rw [show ((k : Int) + 1).toNat = k + 1 from by omega]; exact bt_at hd
    have hbd2 : bt s (k + 1) = (d.toNat : Int) := bt_at hd
    rw [compQ_esc hc hd hk1] at hL
    repeat' ((conv => whnf); first | refine walk (Tryz.ok ..) ?_ | (refine Cnd.mk (fun h => ?_) (fun h => ?_) <;> (first | exact cndT h (by (try dsimp only); omega) | exact cndF h (by (try dsimp only); omega) | (exfalso; simp at h; omega) | simp at h | skip)) | refine side2 ?_ | refine sideL2 ?_ | fail)
    (conv => whnf)
    refine calledQ_pure (.v (.bool (decide (svc (d.toNat : Int))))) rfl (fun _ w' => by rw [← hbd]; exact service_any _ w') ?_
    by_cases hsv : svc (d.toNat : Int)
    · have hns : ¬ ¬ (svc (d.toNat : Int) ∨ d = 32) := fun h => h (.inl hsv)
      rw [if_neg hns] at hL
      rw [decide_eq_true hsv]
      repeat' ((conv => whnf); first | refine walk (Tryz.ok ..) ?_ | (refine Cnd.mk (fun h => ?_) (fun h => ?_) <;> (first | exact cndT h (by (try dsimp only); omega) | exact cndF h (by (try dsimp only); omega) | (exfalso; simp at h; omega) | simp at h | skip)) | refine side2 ?_ | fail)
      · rw [if_pos (by omega)] at hL
        (conv => whnf)
        refine called_pure (.a (fC (worseF f ⟨(k : Int), 4, 3⟩))) rfl (fun w' => worse_any f ⟨(k : Int), 4, 3⟩ w') ?_
        repeat' ((conv => whnf); first | refine walk (Tryz.ok ..) ?_ | refine side2 ?_ | fail)
        (conv => whnf)
        intro g3 hg3
        repeat' ((conv => whnf); first | refine side2 ?_ | refine Or.inr ?_ | fail)
        (conv => whnf)
        intro A2 cap2
        repeat' ((conv => whnf); first | refine walk (Tryz.ok ..) ?_ | refine sideL2 ?_ | fail)
        refine ⟨(k + 2, out ++ [d], A2, cap2, (worseF f ⟨(k : Int), 4, 3⟩)), ⟨⟨by omega, by rw [List.length_append]; show out.length + 1 ≤ _; omega, hL⟩, by omega⟩, ?_, ?_, rfl⟩
        · ((repeat' (first | exact trivial | exact rfl | refine And.intro ?_ ?_)) <;> (try (conv => whnf)) <;> (try simp only [SV.real, SV.r2, SV.r1]))
          exact congrArg (fun n => Value.slice (adr A2) n cap2) (by rw [List.length_append]; rfl)
        · ((repeat' (first | exact trivial | exact rfl | refine And.intro ?_ ?_)) <;> (try (conv => whnf)) <;> (try simp only [SV.real, SV.r2, SV.r1]))
          · rw [List.length_append]
            rfl
          · rw [ub_snoc, ← hbd]
            rfl
      · rw [if_neg (by omega)] at hL
        (conv => whnf)
        intro g3 hg3
        repeat' ((conv => whnf); first | refine side2 ?_ | refine Or.inr ?_ | fail)
        (conv => whnf)
        intro A2 cap2
        repeat' ((conv => whnf); first | refine walk (Tryz.ok ..) ?_ | refine sideL2 ?_ | fail)
        refine ⟨(k + 2, out ++ [d], A2, cap2, f), ⟨⟨by omega, by rw [List.length_append]; show out.length + 1 ≤ _; omega, hL⟩, by omega⟩, ?_, ?_, rfl⟩
        · ((repeat' (first | exact trivial | exact rfl | refine And.intro ?_ ?_)) <;> (try (conv => whnf)) <;> (try simp only [SV.real, SV.r2, SV.r1]))
          exact congrArg (fun n => Value.slice (adr A2) n cap2) (by rw [List.length_append]; rfl)
        · ((repeat' (first | exact trivial | exact rfl | refine And.intro ?_ ?_)) <;> (try (conv => whnf)) <;> (try simp only [SV.real, SV.r2, SV.r1]))
          · rw [List.length_append]
            rfl
          · rw [ub_snoc, ← hbd]
            rfl
    rw [decide_eq_false hsv]
    by_cases h32 : d = 32
    · have hns : ¬ ¬ (svc (d.toNat : Int) ∨ d = 32) := fun h => h (.inr h32)
      rw [if_neg hns] at hL
      have hn32 : (d.toNat : Int) = 32 := by rw [h32]; rfl
      repeat' ((conv => whnf); first | refine walk (Tryz.ok ..) ?_ | (refine Cnd.mk (fun h => ?_) (fun h => ?_) <;> (first | exact cndT h (by (try dsimp only); omega) | exact cndF h (by (try dsimp only); omega) | (exfalso; simp at h; omega) | simp at h | skip)) | refine side2 ?_ | fail)
      · rw [if_pos (by omega)] at hL
        (conv => whnf)
        refine called_pure (.a (fC (worseF f ⟨(k : Int), 4, 3⟩))) rfl (fun w' => worse_any f ⟨(k : Int), 4, 3⟩ w') ?_
        repeat' ((conv => whnf); first | refine walk (Tryz.ok ..) ?_ | refine side2 ?_ | fail)
        (conv => whnf)
        intro g3 hg3
        repeat' ((conv => whnf); first | refine side2 ?_ | refine Or.inr ?_ | fail)
        (conv => whnf)
        intro A2 cap2
        repeat' ((conv => whnf); first | refine walk (Tryz.ok ..) ?_ | refine sideL2 ?_ | fail)
        refine ⟨(k + 2, out ++ [d], A2, cap2, (worseF f ⟨(k : Int), 4, 3⟩)), ⟨⟨by omega, by rw [List.length_append]; show out.length + 1 ≤ _; omega, hL⟩, by omega⟩, ?_, ?_, rfl⟩
        · ((repeat' (first | exact trivial | exact rfl | refine And.intro ?_ ?_)) <;> (try (conv => whnf)) <;> (try simp only [SV.real, SV.r2, SV.r1]))
          exact congrArg (fun n => Value.slice (adr A2) n cap2) (by rw [List.length_append]; rfl)
        · ((repeat' (first | exact trivial | exact rfl | refine And.intro ?_ ?_)) <;> (try (conv => whnf)) <;> (try simp only [SV.real, SV.r2, SV.r1]))
          · rw [List.length_append]
            rfl
          · rw [ub_snoc, ← hbd]
            rfl
      · rw [if_neg (by omega)] at hL
        (conv => whnf)
        intro g3 hg3
        repeat' ((conv => whnf); first | refine side2 ?_ | refine Or.inr ?_ | fail)
        (conv => whnf)
        intro A2 cap2
        repeat' ((conv => whnf); first | refine walk (Tryz.ok ..) ?_ | refine sideL2 ?_ | fail)
        refine ⟨(k + 2, out ++ [d], A2, cap2, f), ⟨⟨by omega, by rw [List.length_append]; show out.length + 1 ≤ _; omega, hL⟩, by omega⟩, ?_, ?_, rfl⟩
        · ((repeat' (first | exact trivial | exact rfl | refine And.intro ?_ ?_)) <;> (try (conv => whnf)) <;> (try simp only [SV.real, SV.r2, SV.r1]))
          exact congrArg (fun n => Value.slice (adr A2) n cap2) (by rw [List.length_append]; rfl)
        · ((repeat' (first | exact trivial | exact rfl | refine And.intro ?_ ?_)) <;> (try (conv => whnf)) <;> (try simp only [SV.real, SV.r2, SV.r1]))
          · rw [List.length_append]
            rfl
          · rw [ub_snoc, ← hbd]
            rfl
    have hn32 : (d.toNat : Int) ≠ 32 := fun e => h32 (UInt8.toNat_inj.1 (by rw [show (32 : UInt8).toNat = 32 from rfl]; omega))
    have hns : ¬ (svc (d.toNat : Int) ∨ d = 32) := by rintro (h | h) <;> first | exact hsv h | exact h32 h
    rw [if_pos hns] at hL
    repeat' ((conv => whnf); first | refine walk (Tryz.ok ..) ?_ | (refine Cnd.mk (fun h => ?_) (fun h => ?_) <;> (first | exact cndT h (by (try dsimp only); omega) | exact cndF h (by (try dsimp only); omega) | (exfalso; simp at h; omega) | simp at h | skip)) | refine side2 ?_ | fail)
    (conv => whnf)
    refine called_pure (.a (fC (worseF f ⟨(k : Int), 3, 41⟩))) rfl (fun w' => worse_any f ⟨(k : Int), 3, 41⟩ w') ?_
    repeat' ((conv => whnf); first | refine walk (Tryz.ok ..) ?_ | refine side2 ?_ | refine sideL2 ?_ | fail)
    refine ⟨(k + 2, out, A, cap, worseF f ⟨(k : Int), 3, 41⟩), ⟨⟨by omega, by show out.length ≤ k + 2; omega, hL⟩, by omega⟩, ?_, ?_, rfl⟩
    all_goals ((repeat' (first | exact trivial | exact rfl | refine And.intro ?_ ?_)) <;> (try (conv => whnf)) <;> (try simp only [SV.real, SV.r2, SV.r1]))
  have hn63 : (c.toNat : Int) ≠ 63 := fun e => h63 (UInt8.toNat_inj.1 (by rw [show (63 : UInt8).toNat = 63 from rfl]; omega))
  rw [compQ_step hc hk1 h63] at hL
  by_cases hbad : badB c = true
  · have hn : c.toNat < 32 ∨ 126 < c.toNat := by unfold badB at hbad; exact of_decide_eq_true hbad
    rw [if_pos hbad] at hL
    repeat' ((conv => whnf); first | refine walk (Tryz.ok ..) ?_ | (refine Cnd.mk (fun h => ?_) (fun h => ?_) <;> (first | exact cndT h (by (try dsimp only); omega) | exact cndF h (by (try dsimp only); omega) | (exfalso; simp at h; omega) | simp at h | skip)) | refine side2 ?_ | fail)
    (conv => whnf)
    refine called_pure (.a (fC (worseF f ⟨(k : Int), 2, 40⟩))) rfl (fun w' => worse_any f ⟨(k : Int), 2, 40⟩ w') ?_
    repeat' ((conv => whnf); first | refine walk (Tryz.ok ..) ?_ | (refine Cnd.mk (fun h => ?_) (fun h => ?_) <;> (first | exact cndT h (by (try dsimp only); omega) | exact cndF h (by (try dsimp only); omega) | (exfalso; simp at h; omega) | simp at h | skip)) | refine side2 ?_ | fail)
    · rw [if_pos (by omega)] at hL
      (conv => whnf)
      refine called_pure (.a (fC (worseF (worseF f ⟨(k : Int), 2, 40⟩) ⟨(k : Int), 4, 3⟩))) rfl (fun w' => worse_any (worseF f ⟨(k : Int), 2, 40⟩) ⟨(k : Int), 4, 3⟩ w') ?_
      repeat' ((conv => whnf); first | refine walk (Tryz.ok ..) ?_ | refine side2 ?_ | fail)
      (conv => whnf)
      intro g3 hg3
      repeat' ((conv => whnf); first | refine side2 ?_ | refine Or.inr ?_ | fail)
      (conv => whnf)
      intro A2 cap2
      repeat' ((conv => whnf); first | refine walk (Tryz.ok ..) ?_ | refine sideL2 ?_ | fail)
      refine ⟨(k + 1, out ++ [c], A2, cap2, (worseF (worseF f ⟨(k : Int), 2, 40⟩) ⟨(k : Int), 4, 3⟩)), ⟨⟨by omega, by rw [List.length_append]; show out.length + 1 ≤ _; omega, hL⟩, by omega⟩, ?_, ?_, rfl⟩
      · ((repeat' (first | exact trivial | exact rfl | refine And.intro ?_ ?_)) <;> (try (conv => whnf)) <;> (try simp only [SV.real, SV.r2, SV.r1]))
        exact congrArg (fun n => Value.slice (adr A2) n cap2) (by rw [List.length_append]; rfl)
      · ((repeat' (first | exact trivial | exact rfl | refine And.intro ?_ ?_)) <;> (try (conv => whnf)) <;> (try simp only [SV.real, SV.r2, SV.r1]))
        · rw [List.length_append]
          rfl
        · rw [ub_snoc, ← hbt]
          rfl
    · rw [if_neg (by omega)] at hL
      (conv => whnf)
      intro g3 hg3
      repeat' ((conv => whnf); first | refine side2 ?_ | refine Or.inr ?_ | fail)
      (conv => whnf)
      intro A2 cap2
      repeat' ((conv => whnf); first | refine walk (Tryz.ok ..) ?_ | refine sideL2 ?_ | fail)
      refine ⟨(k + 1, out ++ [c], A2, cap2, (worseF f ⟨(k : Int), 2, 40⟩)), ⟨⟨by omega, by rw [List.length_append]; show out.length + 1 ≤ _; omega, hL⟩, by omega⟩, ?_, ?_, rfl⟩
      · ((repeat' (first | exact trivial | exact rfl | refine And.intro ?_ ?_)) <;> (try (conv => whnf)) <;> (try simp only [SV.real, SV.r2, SV.r1]))
        exact congrArg (fun n => Value.slice (adr A2) n cap2) (by rw [List.length_append]; rfl)
      · ((repeat' (first | exact trivial | exact rfl | refine And.intro ?_ ?_)) <;> (try (conv => whnf)) <;> (try simp only [SV.real, SV.r2, SV.r1]))
        · rw [List.length_append]
          rfl
        · rw [ub_snoc, ← hbt]
          rfl
  have hn := badB_no (by simpa using hbad : badB c = false)
  rw [if_neg hbad] at hL
  repeat' ((conv => whnf); first | refine walk (Tryz.ok ..) ?_ | (refine Cnd.mk (fun h => ?_) (fun h => ?_) <;> (first | exact cndT h (by (try dsimp only); omega) | exact cndF h (by (try dsimp only); omega) | (exfalso; simp at h; omega) | simp at h | skip)) | refine side2 ?_ | fail)
  · rw [if_pos (by omega)] at hL
    (conv => whnf)
    refine called_pure (.a (fC (worseF f ⟨(k : Int), 4, 3⟩))) rfl (fun w' => worse_any f ⟨(k : Int), 4, 3⟩ w') ?_
    repeat' ((conv => whnf); first | refine walk (Tryz.ok ..) ?_ | refine side2 ?_ | fail)
    (conv => whnf)
    intro g3 hg3
    repeat' ((conv => whnf); first | refine side2 ?_ | refine Or.inr ?_ | fail)
    (conv => whnf)
    intro A2 cap2
    repeat' ((conv => whnf); first | refine walk (Tryz.ok ..) ?_ | refine sideL2 ?_ | fail)
    refine ⟨(k + 1, out ++ [c], A2, cap2, (worseF f ⟨(k : Int), 4, 3⟩)), ⟨⟨by omega, by rw [List.length_append]; show out.length + 1 ≤ _; omega, hL⟩, by omega⟩, ?_, ?_, rfl⟩
    · ((repeat' (first | exact trivial | exact rfl | refine And.intro ?_ ?_)) <;> (try (conv => whnf)) <;> (try simp only [SV.real, SV.r2, SV.r1]))
      exact congrArg (fun n => Value.slice (adr A2) n cap2) (by rw [List.length_append]; rfl)
    · ((repeat' (first | exact trivial | exact rfl | refine And.intro ?_ ?_)) <;> (try (conv => whnf)) <;> (try simp only [SV.real, SV.r2, SV.r1]))
      · rw [List.length_append]
        rfl
      · rw [ub_snoc, ← hbt]
        rfl
  · rw [if_neg (by omega)] at hL
    (conv => whnf)
    intro g3 hg3
    repeat' ((conv => whnf); first | refine side2 ?_ | refine Or.inr ?_ | fail)
    (conv => whnf)
    intro A2 cap2
    repeat' ((conv => whnf); first | refine walk (Tryz.ok ..) ?_ | refine sideL2 ?_ | fail)
    refine ⟨(k + 1, out ++ [c], A2, cap2, f), ⟨⟨by omega, by rw [List.length_append]; show out.length + 1 ≤ _; omega, hL⟩, by omega⟩, ?_, ?_, rfl⟩
    · ((repeat' (first | exact trivial | exact rfl | refine And.intro ?_ ?_)) <;> (try (conv => whnf)) <;> (try simp only [SV.real, SV.r2, SV.r1]))
      exact congrArg (fun n => Value.slice (adr A2) n cap2) (by rw [List.length_append]; rfl)
    · ((repeat' (first | exact trivial | exact rfl | refine And.intro ?_ ?_)) <;> (try (conv => whnf)) <;> (try simp only [SV.real, SV.r2, SV.r1]))
      · rw [List.length_append]
        rfl
      · rw [ub_snoc, ← hbt]
        rfl
end
section
open Go Sat Go.RowKit Go.PlainAid
/-- places one behind the other -/
def Inc (hi : Nat) : Nat → List Nat → Prop
  | p, [] => p ≤ hi
  | p, q :: L => p < q ∧ Inc hi q L
theorem Inc.mono {hi hi' : Nat} (h : hi ≤ hi') : ∀ {L : List Nat} {p p' : Nat}, p' ≤ p → Inc hi p L → Inc hi' p' L
  | [], p, p', h1, h2 => Nat.le_trans h1 (Nat.le_trans h2 h)
  | q :: L, p, p', h1, h2 => ⟨Nat.lt_of_le_of_lt h1 h2.1, Inc.mono h (Nat.le_refl _) h2.2⟩
theorem cutQ_inc (b : UInt8) : ∀ (m : Nat) (l : List UInt8), l.length ≤ m → ∀ (n i : Nat), Inc (i + n) i (cutQ b n l i)
  | _, [], h, n, i => by rw [cutQ_nil]; exact Nat.le_add_right _ _
  | 0, c :: l, h, n, i => by simp at h
  | m + 1, c :: l, h, n, i => by
    rw [List.length_cons] at h
    unfold cutQ
    split
    · exact Nat.le_add_right _ _
    split
    · cases l with
      | nil => exact Nat.le_add_right _ _
      | cons d l' =>
        rw [List.length_cons] at h
        by_cases hn : n = 1
        · subst hn
          show Inc (i + 1) i (cutQ b 0 l' (i + 2))
          rw [cutQ_zero]
          exact Nat.le_add_right _ _
        · exact (cutQ_inc b m l' (by omega) (n - 2) (i + 2)).mono (by omega) (by omega)
    split
    · exact ⟨Nat.lt_succ_self _, (cutQ_inc b m l (by omega) (n - 1) (i + 1)).mono (by omega) (Nat.le_refl _)⟩
    · exact (cutQ_inc b m l (by omega) (n - 1) (i + 1)).mono (by omega) (by omega)
theorem Inc.at_ {hi : Nat} : ∀ {L : List Nat} {p : Nat}, Inc hi p L → ∀ (i : Nat) (q : Nat), (p :: L)[i]? = some q → p + i ≤ q ∧ q ≤ hi ∧ ∀ q', (p :: L)[i + 1]? = some q' → q < q'
  | [], p, h, i, q, hq => by
    cases i with
    | zero => cases hq; exact ⟨Nat.le_refl _, h, fun q' h => by cases h⟩
    | succ i => cases hq
  | r :: L, p, h, i, q, hq => by
    cases i with
    | zero =>
      cases hq
      refine ⟨Nat.le_refl _, ?_, fun q' h' => by cases h'; exact h.1⟩
      have := (Inc.at_ h.2 0 r rfl).2.1
      have := h.1
      omega
    | succ i =>
      have := Inc.at_ h.2 i q hq
      have := h.1
      refine ⟨by omega, by omega, fun q' h' => (Inc.at_ h.2 i q hq).2.2 q' h'⟩
theorem behind_at {L : List Nat} {i last : Nat} : behindQ (L.drop (i + 1)) last = match L[i + 1]? with | some q => q - 1 | none => last := by
  cases h : L[i + 1]? with
  | none =>
    rw [List.drop_eq_nil_of_le (List.getElem?_eq_none_iff.1 h)]
    rfl
  | some q =>
    rw [drop_at h]
    rfl
theorem iv_at {L : List Nat} {i q : Nat} (h : L[i]? = some q) : (iv L)[mulS (i : Int).toNat 1]? = some (.int .i64 (q : Int)) := by
  rw [mulS_eq, Int.toNat_natCast, Nat.mul_one]
  unfold iv
  rw [List.getElem?_map, h]
  rfl
theorem elemsQ_end (T : List UInt8) (te : Nat) (L : List Nat) {i : Nat} (h : L.length ≤ i) (sg : Segm) (f : Flt) : elemsQ T te (L.drop i) i sg f = (sg, f) := by rw [List.drop_eq_nil_of_le h]; rfl
theorem partsQ_end (T : List UInt8) (last : Nat) (L : List Nat) {k : Nat} (h : L.length ≤ k) (el : Elem) (f : Flt) : partsQ T last (L.drop k) k el f = (el, f) := by rw [List.drop_eq_nil_of_le h]; rfl
def lastOf (L : List Nat) (i te : Nat) : Nat := match L[i + 1]? with | some q => q - 1 | none => te
theorem elemsQ_step {T : List UInt8} {te : Nat} {L : List Nat} {i p : Nat} (h : L[i]? = some p) (sg : Segm) (f : Flt) : elemsQ T te (L.drop i) i sg f = elemsQ T te (L.drop (i + 1)) (i + 1) (sg ++ [(elemQ T p (lastOf L i te) (if i = 30 then worseF f ⟨(p : Int) - 1, 1, 5⟩ else f)).1]) (elemQ T p (lastOf L i te) (if i = 30 then worseF f ⟨(p : Int) - 1, 1, 5⟩ else f)).2 := by
  rw [drop_at h, elemsQ_cons, behind_at]
  rfl
theorem partsQ_step {T : List UInt8} {last : Nat} {L : List Nat} {k p : Nat} (h : L[k]? = some p) (el : Elem) (f : Flt) : partsQ T last (L.drop k) k el f = partsQ T last (L.drop (k + 1)) (k + 1) (el ++ [ba (compQ (lastOf L k last - p) (T.drop p) p [] flt0).1]) (worseF (if k = 10 then worseF f ⟨(p : Int) - 1, 1, 5⟩ else f) (compQ (lastOf L k last - p) (T.drop p) p [] flt0).2) := by
  rw [drop_at h, partsQ_cons, behind_at]
  rfl
theorem last_some {L : List Nat} {i te q : Nat} (h : L[i + 1]? = some q) : lastOf L i te = q - 1 := by unfold lastOf; rw [h]
theorem last_none {L : List Nat} {i te : Nat} (h : L.length ≤ i + 1) : lastOf L i te = te := by unfold lastOf; rw [List.getElem?_eq_none h]
set_option maxRecDepth 100000 in
set_option maxHeartbeats 16000000 in
theorem segment_any (s : ByteArray) (j te : Nat) (hto : te ≤ s.size) (hj : j ≤ te) (hs : s.size ≤ 100000) (w : World) :
    Calls Tryz.prog 62 #[.string s, .int .i64 j, .int .i64 te] w (GivesR 22 (fun v => .tuple #[v, fV (segQ s.data.toList j te).2]) NE (segQ s.data.toList j te).1 w) := by
  refine calls_sat (cx := Tryz.cx 109 [6, 8, 18, 26] [] [30, 44, 65, 79] w) (Tryz.ok ..) Tryz.func62 rfl [.v (.string s), .v (.int .i64 j), .v (.int .i64 te)] rfl (by show 3 ≤ 109; omega) [] (holds_nil (Nat.le_refl _)) ?_
  have hsz : s.size = s.data.toList.length := rfl
  generalize hR : segQ s.data.toList j te = R
  unfold segQ at hR
  obtain ⟨L, hLe⟩ : ∃ L, L = j :: cutQ 43 (te - j) (s.data.toList.drop j) j := ⟨_, rfl⟩
  have hInc := cutQ_inc 43 _ (s.data.toList.drop j) (Nat.le_refl _) (te - j) j
  rw [show j + (te - j) = te by omega] at hInc
  have hLat : ∀ (i q : Nat), L[i]? = some q → j + i ≤ q ∧ q ≤ te ∧ ∀ q', L[i + 1]? = some q' → q < q' := by
    rw [hLe]
    exact fun i q h => hInc.at_ i q h
  have hLlen : L.length ≤ 100001 := by
    have := cutQ_len 43 _ (s.data.toList.drop j) (Nat.le_refl _) (te - j) j
    rw [List.length_drop] at this
    rw [hLe, List.length_cons]
    omega
  rw [← hLe] at hR
  repeat' ((conv => whnf); first | refine walk (Tryz.ok ..) ?_ | fail)
  (conv => whnf)
  intro g7 hg7
  repeat' ((conv => whnf); first | refine walk (Tryz.ok ..) ?_ | fail)
  (conv => whnf)
  intro g9 hg9
  repeat' ((conv => whnf); first | refine walk (Tryz.ok ..) ?_ | fail)
  (conv => whnf)
  refine called_row 22 (e := 3) (size := 1) (m := L.length) (xs := iv L) id (fun A cap => .o 22 A L.length cap) (fun _ _ => rfl) (fun w' hh => by rw [hLe]; exact cut_any s j te 43 hto hj hs w') ?_
  intro A22 c22
  repeat' ((conv => whnf); first | refine walk (Tryz.ok ..) ?_ | fail)
  refine sat_fuse 77 [] rfl fun w0 hw0 => ?_
  refine sat_loop (Tryz.ok ..) (α := Nat × Segm × Flt × Option (Nat × Nat) × Nat × List Value × World × List Nat) (fun t => ([(0, .yes, .v (.string s)), (2, .yes, .v (.int .i64 te)), (7, .yes, .p 7 g7 0 0), (8, .yes, .o 106 t.2.2.2.1 t.2.1.length t.2.2.2.2.1), (9, .yes, .p 9 g9 0 0), (10, .yes, .o 22 A22 L.length c22), (11, .yes, .v (.int .i64 t.1))], [(7, .blk g7 112 (fC flt0)), (9, .blk g9 112 (fC t.2.2.1)), (22, .row A22 3 1 L.length c22 (iv L)), (106, .row t.2.2.2.1 22 1 t.2.1.length t.2.2.2.2.1 t.2.2.2.2.2.1), (77, .own t.2.2.2.2.2.2.2 (Frz t.2.2.2.2.2.2.1 t.2.2.2.2.2.2.2))]))
    (fun t => t.1 ≤ L.length ∧ t.2.1.length = t.1 ∧ t.2.2.2.2.2.1.length = t.1 ∧ Got NE t.2.2.2.2.2.2.1 t.2.2.2.2.2.2.2 t.2.2.2.2.2.1 t.2.1 ∧ elemsQ s.data.toList te (L.drop t.1) t.1 t.2.1 t.2.2.1 = R) (fun t => L.length - t.1) (fun _ => rfl) ?_ ?_
  · refine ⟨(0, [], flt0, none, 0, [], w0, []), ⟨Nat.zero_le _, rfl, rfl, Got.nil, hR⟩, ?_, ?_, rfl⟩
    all_goals ((repeat' (first | exact trivial | exact rfl | refine And.intro ?_ ?_)) <;> (try (conv => whnf)) <;> (try simp only [SV.real, SV.r2, SV.r1]))
  rintro ⟨i, sg, f, A8, c8, xs8, w1, gs⟩ ⟨hi, hsl, hxl, hgot, hrun⟩
  dsimp only at hi hsl hxl hgot hrun ⊢
  by_cases hi1 : i < L.length
  case neg =>
    rw [elemsQ_end _ _ _ (by omega)] at hrun
    subst hrun
    repeat' ((conv => whnf); first | refine walk (Tryz.ok ..) ?_ | (refine Cnd.mk (fun h => ?_) (fun h => ?_) <;> (first | exact cndT h (by (try dsimp only); omega) | exact cndF h (by (try dsimp only); omega) | (exfalso; simp at h; omega) | simp at h | skip)) | fail)
    refine sat_draw (Tryz.ok ..) [1] [(9, .blk g9 112 (fC f))] (by kernel_rfl) (fun w hw => hw.sub ?_) ?_
    · ((repeat' (first | exact trivial | exact rfl | refine And.intro ?_ ?_)) <;> (try (conv => whnf)) <;> (try simp only [SV.real, SV.r2, SV.r1]))
    repeat' ((conv => whnf); first | refine walk (Tryz.ok ..) ?_ | refine kp ?_ ?_ | exact trivial | refine side2 ?_ | fail)
    exact done_nestR (mk := fun v => .tuple #[v, fV f]) ne_stays rfl rfl 106 77 (by decide) (A := A8) (cap := c8) (xs := xs8) (gs := gs) (w0 := w1) rfl rfl rfl hgot rfl
  obtain ⟨p, hp⟩ : ∃ p, L[i]? = some p := ⟨_, List.getElem?_eq_getElem hi1⟩
  obtain ⟨hp1, hp2, hp3⟩ := hLat i p hp
  rw [elemsQ_step hp] at hrun
  obtain ⟨f1, hf1⟩ : ∃ f1, f1 = if i = 30 then worseF f ⟨(p : Int) - 1, 1, 5⟩ else f := ⟨_, rfl⟩
  rw [← hf1] at hrun
  repeat' ((conv => whnf); first | refine walk (Tryz.ok ..) ?_ | (refine Cnd.mk (fun h => ?_) (fun h => ?_) <;> (first | exact cndT h (by (try dsimp only); omega) | exact cndF h (by (try dsimp only); omega) | (exfalso; simp at h; omega) | simp at h | skip)) | fail)
  refine sat_join0 (fun (_ : Unit) => ([(0, .yes, .v (.string s)), (2, .yes, .v (.int .i64 te)), (7, .yes, .p 7 g7 0 0), (8, .yes, .o 106 A8 sg.length c8), (9, .yes, .p 9 g9 0 0), (10, .yes, .o 22 A22 L.length c22), (11, .yes, .v (.int .i64 i))], [(7, .blk g7 112 (fC flt0)), (9, .blk g9 112 (fC f1)), (22, .row A22 3 1 L.length c22 (iv L)), (106, .row A8 22 1 sg.length c8 xs8), (77, .own gs (Frz w1 gs))])) (fun _ => True) (fun _ => rfl) ?_ ?_
  · by_cases h30 : i = 30
    · rw [if_pos h30] at hf1
      refine sat_cnd true (congrArg (fun b => SV.v (Value.bool b)) (show ((i : Int) == 30) = true by rw [h30]; rfl)) ⟨fun _ => ?_, fun h => (by cases h)⟩
      subst hf1
      repeat' ((conv => whnf); first | refine walk (Tryz.ok ..) ?_ | fail)
      refine sat_draw (Tryz.ok ..) [0] [(22, .row A22 3 1 L.length c22 (iv L))] (by kernel_rfl) (fun w hw => hw.sub ?_) ?_
      · ((repeat' (first | exact trivial | exact rfl | refine And.intro ?_ ?_)) <;> (try (conv => whnf)) <;> (try simp only [SV.real, SV.r2, SV.r1]))
      repeat' ((conv => whnf); first | refine kp ?_ ?_ | exact trivial | refine side2 ?_ | refine sideL2 ?_ | refine xi _ (iv_at hp) ?_ | fail)
      (conv => whnf)
      refine called_pure (.a (fC (worseF f ⟨(p : Int) - 1, 1, 5⟩))) rfl (fun w' => worse_any f ⟨(p : Int) - 1, 1, 5⟩ w') ?_
      repeat' ((conv => whnf); first | refine kp ?_ ?_ | exact trivial | refine side2 ?_ | fail)
      exact ⟨(), trivial, by ((repeat' (first | exact trivial | exact rfl | refine And.intro ?_ ?_)) <;> (try (conv => whnf)) <;> (try simp only [SV.real, SV.r2, SV.r1])), by ((repeat' (first | exact trivial | exact rfl | refine And.intro ?_ ?_)) <;> (try (conv => whnf)) <;> (try simp only [SV.real, SV.r2, SV.r1])), rfl⟩
    · rw [if_neg h30] at hf1
      subst hf1
      refine sat_cnd false (congrArg (fun b => SV.v (Value.bool b)) (show ((i : Int) == 30) = false from beq_false_of_ne (by omega))) ⟨fun h => (by cases h), fun _ => ?_⟩
      repeat' ((conv => whnf); first | refine walk (Tryz.ok ..) ?_ | fail)
      exact ⟨(), trivial, by ((repeat' (first | exact trivial | exact rfl | refine And.intro ?_ ?_)) <;> (try (conv => whnf)) <;> (try simp only [SV.real, SV.r2, SV.r1])), by ((repeat' (first | exact trivial | exact rfl | refine And.intro ?_ ?_)) <;> (try (conv => whnf)) <;> (try simp only [SV.real, SV.r2, SV.r1])), rfl⟩
  rintro - -
  repeat' ((conv => whnf); first | refine walk (Tryz.ok ..) ?_ | refine sideL2 ?_ | fail)
  obtain ⟨last, hlast⟩ : ∃ x, x = lastOf L i te := ⟨_, rfl⟩
  rw [← hlast] at hrun
  refine sat_join0 (fun (_ : Unit) => ([(0, .yes, .v (.string s)), (2, .yes, .v (.int .i64 te)), (7, .yes, .p 7 g7 0 0), (8, .yes, .o 106 A8 sg.length c8), (9, .yes, .p 9 g9 0 0), (10, .yes, .o 22 A22 L.length c22), (11, .yes, .v (.int .i64 i)), (12, .yes, .v (.int .i64 last))], [(7, .blk g7 112 (fC flt0)), (9, .blk g9 112 (fC f1)), (22, .row A22 3 1 L.length c22 (iv L)), (106, .row A8 22 1 sg.length c8 xs8), (77, .own gs (Frz w1 gs))])) (fun _ => p ≤ last ∧ last ≤ te) (fun _ => rfl) ?_ ?_
  · by_cases hn : i + 1 < L.length
    · obtain ⟨q, hq⟩ : ∃ q, L[i + 1]? = some q := ⟨_, List.getElem?_eq_getElem hn⟩
      obtain ⟨hq1, hq2, -⟩ := hLat (i + 1) q hq
      have hpq := hp3 q hq
      rw [last_some hq] at hlast
      subst hlast
      have hcast : ((q - 1 : Nat) : Int) = (q : Int) - 1 := by omega
      have hiv : (iv L)[mulS ((i : Int) + 1).toNat 1]? = some (.int .i64 (q : Int)) := by rw [show (i : Int) + 1 = ((i + 1 : Nat) : Int) from rfl]; exact iv_at hq
      rw [hcast]
      refine sat_cnd true (congrArg (fun b => SV.v (Value.bool b)) (decide_eq_true (by omega))) ⟨fun _ => ?_, fun h => (by cases h)⟩
      repeat' ((conv => whnf); first | refine walk (Tryz.ok ..) ?_ | refine side2 ?_ | refine sideL2 ?_ | refine xi _ hiv ?_ | fail)
      exact ⟨(), ⟨by omega, by omega⟩, by ((repeat' (first | exact trivial | exact rfl | refine And.intro ?_ ?_)) <;> (try (conv => whnf)) <;> (try simp only [SV.real, SV.r2, SV.r1])), by ((repeat' (first | exact trivial | exact rfl | refine And.intro ?_ ?_)) <;> (try (conv => whnf)) <;> (try simp only [SV.real, SV.r2, SV.r1])), rfl⟩
    · rw [last_none (by omega)] at hlast
      subst hlast
      refine sat_cnd false (congrArg (fun b => SV.v (Value.bool b)) (decide_eq_false (by omega))) ⟨fun h => (by cases h), fun _ => ?_⟩
      repeat' ((conv => whnf); first | refine walk (Tryz.ok ..) ?_ | fail)
      exact ⟨(), ⟨by omega, Nat.le_refl _⟩, by ((repeat' (first | exact trivial | exact rfl | refine And.intro ?_ ?_)) <;> (try (conv => whnf)) <;> (try simp only [SV.real, SV.r2, SV.r1])), by ((repeat' (first | exact trivial | exact rfl | refine And.intro ?_ ?_)) <;> (try (conv => whnf)) <;> (try simp only [SV.real, SV.r2, SV.r1])), rfl⟩
  rintro - ⟨hla, hlb⟩
  obtain ⟨M, hMe⟩ : ∃ M, M = p :: cutQ 58 (last - p) (s.data.toList.drop p) p := ⟨_, rfl⟩
  have hIncM := cutQ_inc 58 _ (s.data.toList.drop p) (Nat.le_refl _) (last - p) p
  rw [show p + (last - p) = last by omega] at hIncM
  have hMat : ∀ (i q : Nat), M[i]? = some q → p + i ≤ q ∧ q ≤ last ∧ ∀ q', M[i + 1]? = some q' → q < q' := by
    rw [hMe]
    exact fun i q h => hIncM.at_ i q h
  have hMlen : M.length ≤ 100001 := by
    have := cutQ_len 58 _ (s.data.toList.drop p) (Nat.le_refl _) (last - p) p
    rw [List.length_drop] at this
    rw [hMe, List.length_cons]
    omega
  repeat' ((conv => whnf); first | refine walk (Tryz.ok ..) ?_ | refine side2 ?_ | refine xi _ (iv_at hp) ?_ | fail)
  (conv => whnf)
  refine called_row 57 (e := 3) (size := 1) (m := M.length) (xs := iv M) id (fun A cap => .o 57 A M.length cap) (fun _ _ => rfl) (fun w' hh => by rw [hMe]; exact cut_any s p last 58 (by omega) hla hs w') ?_
  intro A57 c57
  repeat' ((conv => whnf); first | refine walk (Tryz.ok ..) ?_ | fail)
  refine sat_loop (Tryz.ok ..) (α := Nat × Elem × Flt × Option (Nat × Nat) × Nat) (fun t => ([(0, .yes, .v (.string s)), (2, .yes, .v (.int .i64 te)), (7, .yes, .p 7 g7 0 0), (8, .yes, .o 106 A8 sg.length c8), (9, .yes, .p 9 g9 0 0), (10, .yes, .o 22 A22 L.length c22), (11, .yes, .v (.int .i64 i)), (12, .yes, .v (.int .i64 last)), (13, .yes, .o 102 t.2.2.2.1 t.2.1.length t.2.2.2.2), (14, .yes, .o 57 A57 M.length c57), (15, .yes, .v (.int .i64 t.1))], [(7, .blk g7 112 (fC flt0)), (9, .blk g9 112 (fC t.2.2.1)), (22, .row A22 3 1 L.length c22 (iv L)), (57, .row A57 3 1 M.length c57 (iv M)), (102, .row t.2.2.2.1 9 1 t.2.1.length t.2.2.2.2 (t.2.1.map Value.string)), (106, .row A8 22 1 sg.length c8 xs8), (77, .own gs (Frz w1 gs))]))
    (fun t => t.1 ≤ M.length ∧ t.2.1.length = t.1 ∧ partsQ s.data.toList last (M.drop t.1) t.1 t.2.1 t.2.2.1 = elemQ s.data.toList p last f1) (fun t => M.length - t.1) (fun _ => rfl) ?_ ?_
  · refine ⟨(0, [], f1, none, 0), ⟨Nat.zero_le _, rfl, by unfold elemQ; rw [← hMe]; rfl⟩, ?_, ?_, rfl⟩
    all_goals ((repeat' (first | exact trivial | exact rfl | refine And.intro ?_ ?_)) <;> (try (conv => whnf)) <;> (try simp only [SV.real, SV.r2, SV.r1]))
  rintro ⟨k, el, f2, A13, c13⟩ ⟨hk, hel, hpr⟩
  dsimp only at hk hel hpr ⊢
  by_cases hk1 : k < M.length
  case neg =>
    rw [partsQ_end _ _ _ (by omega)] at hpr
    rw [← hpr] at hrun
    repeat' ((conv => whnf); first | refine walk (Tryz.ok ..) ?_ | (refine Cnd.mk (fun h => ?_) (fun h => ?_) <;> (first | exact cndT h (by (try dsimp only); omega) | exact cndF h (by (try dsimp only); omega) | (exfalso; simp at h; omega) | simp at h | skip)) | fail)
    (conv => whnf)
    intro g105 hg105
    repeat' ((conv => whnf); first | refine side2 ?_ | refine Or.inr ?_ | fail)
    (conv => whnf)
    intro A106 c106
    repeat' ((conv => whnf); first | refine walk (Tryz.ok ..) ?_ | fail)
    refine sat_fuse 77 [77, 102] rfl fun w4 hw4 => ?_
    have hgot' := (hgot.fuse ne_stays [77, 102] 77 hw4 rfl rfl).ext (by rw [hxl, hsl]) (nest_fuse [77, 102] 102 hw4 rfl rfl (got_strs el))
    refine sat_ops (Tryz.ok ..) ?_
    repeat' ((conv => whnf); first | refine sideL2 ?_ | fail)
    refine ⟨(i + 1, sg ++ [el], f2, A106, c106, _, w4, _), ⟨⟨hi1, by rw [List.length_append, hsl]; rfl, ?_, hgot', hrun⟩, by show L.length - (i + 1) < L.length - i; omega⟩, ?_, ?_, rfl⟩
    · show (xs8 ++ [_]).length = i + 1
      rw [List.length_append, hxl]
      rfl
    · ((repeat' (first | exact trivial | exact rfl | refine And.intro ?_ ?_)) <;> (try (conv => whnf)) <;> (try simp only [SV.real, SV.r2, SV.r1]))
      exact congrArg (fun n => Value.slice (adr A106) n c106) (by rw [List.length_append]; rfl)
    · ((repeat' (first | exact trivial | exact rfl | refine And.intro ?_ ?_)) <;> (try (conv => whnf)) <;> (try simp only [SV.real, SV.r2, SV.r1]))
      rw [List.length_append]
      rfl
  obtain ⟨m, hm⟩ : ∃ m, M[k]? = some m := ⟨_, List.getElem?_eq_getElem hk1⟩
  obtain ⟨hm1, hm2, hm3⟩ := hMat k m hm
  rw [partsQ_step hm] at hpr
  obtain ⟨f3, hf3⟩ : ∃ f3, f3 = if k = 10 then worseF f2 ⟨(m : Int) - 1, 1, 5⟩ else f2 := ⟨_, rfl⟩
  rw [← hf3] at hpr
  repeat' ((conv => whnf); first | refine walk (Tryz.ok ..) ?_ | (refine Cnd.mk (fun h => ?_) (fun h => ?_) <;> (first | exact cndT h (by (try dsimp only); omega) | exact cndF h (by (try dsimp only); omega) | (exfalso; simp at h; omega) | simp at h | skip)) | fail)
  refine sat_join0 (fun (_ : Unit) => ([(0, .yes, .v (.string s)), (2, .yes, .v (.int .i64 te)), (7, .yes, .p 7 g7 0 0), (8, .yes, .o 106 A8 sg.length c8), (9, .yes, .p 9 g9 0 0), (10, .yes, .o 22 A22 L.length c22), (11, .yes, .v (.int .i64 i)), (12, .yes, .v (.int .i64 last)), (13, .yes, .o 102 A13 el.length c13), (14, .yes, .o 57 A57 M.length c57), (15, .yes, .v (.int .i64 k))], [(7, .blk g7 112 (fC flt0)), (9, .blk g9 112 (fC f3)), (22, .row A22 3 1 L.length c22 (iv L)), (57, .row A57 3 1 M.length c57 (iv M)), (102, .row A13 9 1 el.length c13 (el.map Value.string)), (106, .row A8 22 1 sg.length c8 xs8), (77, .own gs (Frz w1 gs))])) (fun _ => True) (fun _ => rfl) ?_ ?_
  · by_cases h10 : k = 10
    · rw [if_pos h10] at hf3
      refine sat_cnd true (congrArg (fun b => SV.v (Value.bool b)) (show ((k : Int) == 10) = true by rw [h10]; rfl)) ⟨fun _ => ?_, fun h => (by cases h)⟩
      subst hf3
      repeat' ((conv => whnf); first | refine walk (Tryz.ok ..) ?_ | fail)
      refine sat_draw (Tryz.ok ..) [0] [(57, .row A57 3 1 M.length c57 (iv M))] (by kernel_rfl) (fun w hw => hw.sub ?_) ?_
      · ((repeat' (first | exact trivial | exact rfl | refine And.intro ?_ ?_)) <;> (try (conv => whnf)) <;> (try simp only [SV.real, SV.r2, SV.r1]))
      repeat' ((conv => whnf); first | refine kp ?_ ?_ | exact trivial | refine side2 ?_ | refine sideL2 ?_ | refine xi _ (iv_at hm) ?_ | fail)
      (conv => whnf)
      refine called_pure (.a (fC (worseF f2 ⟨(m : Int) - 1, 1, 5⟩))) rfl (fun w' => worse_any f2 ⟨(m : Int) - 1, 1, 5⟩ w') ?_
      repeat' ((conv => whnf); first | refine kp ?_ ?_ | exact trivial | refine side2 ?_ | fail)
      exact ⟨(), trivial, by ((repeat' (first | exact trivial | exact rfl | refine And.intro ?_ ?_)) <;> (try (conv => whnf)) <;> (try simp only [SV.real, SV.r2, SV.r1])), by ((repeat' (first | exact trivial | exact rfl | refine And.intro ?_ ?_)) <;> (try (conv => whnf)) <;> (try simp only [SV.real, SV.r2, SV.r1])), rfl⟩
    · rw [if_neg h10] at hf3
      subst hf3
      refine sat_cnd false (congrArg (fun b => SV.v (Value.bool b)) (show ((k : Int) == 10) = false from beq_false_of_ne (by omega))) ⟨fun h => (by cases h), fun _ => ?_⟩
      repeat' ((conv => whnf); first | refine walk (Tryz.ok ..) ?_ | fail)
      exact ⟨(), trivial, by ((repeat' (first | exact trivial | exact rfl | refine And.intro ?_ ?_)) <;> (try (conv => whnf)) <;> (try simp only [SV.real, SV.r2, SV.r1])), by ((repeat' (first | exact trivial | exact rfl | refine And.intro ?_ ?_)) <;> (try (conv => whnf)) <;> (try simp only [SV.real, SV.r2, SV.r1])), rfl⟩
  rintro - -
  repeat' ((conv => whnf); first | refine walk (Tryz.ok ..) ?_ | refine sideL2 ?_ | fail)
  obtain ⟨be, hbe⟩ : ∃ x, x = lastOf M k last := ⟨_, rfl⟩
  rw [← hbe] at hpr
  refine sat_join0 (fun (_ : Unit) => ([(0, .yes, .v (.string s)), (2, .yes, .v (.int .i64 te)), (7, .yes, .p 7 g7 0 0), (8, .yes, .o 106 A8 sg.length c8), (9, .yes, .p 9 g9 0 0), (10, .yes, .o 22 A22 L.length c22), (11, .yes, .v (.int .i64 i)), (12, .yes, .v (.int .i64 last)), (13, .yes, .o 102 A13 el.length c13), (14, .yes, .o 57 A57 M.length c57), (15, .yes, .v (.int .i64 k)), (16, .yes, .v (.int .i64 be))], [(7, .blk g7 112 (fC flt0)), (9, .blk g9 112 (fC f3)), (22, .row A22 3 1 L.length c22 (iv L)), (57, .row A57 3 1 M.length c57 (iv M)), (102, .row A13 9 1 el.length c13 (el.map Value.string)), (106, .row A8 22 1 sg.length c8 xs8), (77, .own gs (Frz w1 gs))])) (fun _ => m ≤ be ∧ be ≤ last) (fun _ => rfl) ?_ ?_
  · by_cases hn : k + 1 < M.length
    · obtain ⟨q, hq⟩ : ∃ q, M[k + 1]? = some q := ⟨_, List.getElem?_eq_getElem hn⟩
      obtain ⟨hq1, hq2, -⟩ := hMat (k + 1) q hq
      have hpq := hm3 q hq
      rw [last_some hq] at hbe
      subst hbe
      have hcast : ((q - 1 : Nat) : Int) = (q : Int) - 1 := by omega
      have hiv : (iv M)[mulS ((k : Int) + 1).toNat 1]? = some (.int .i64 (q : Int)) := by rw [show (k : Int) + 1 = ((k + 1 : Nat) : Int) from rfl]; exact iv_at hq
      rw [hcast]
      refine sat_cnd true (congrArg (fun b => SV.v (Value.bool b)) (decide_eq_true (by omega))) ⟨fun _ => ?_, fun h => (by cases h)⟩
      repeat' ((conv => whnf); first | refine walk (Tryz.ok ..) ?_ | refine side2 ?_ | refine sideL2 ?_ | refine xi _ hiv ?_ | fail)
      exact ⟨(), ⟨by omega, by omega⟩, by ((repeat' (first | exact trivial | exact rfl | refine And.intro ?_ ?_)) <;> (try (conv => whnf)) <;> (try simp only [SV.real, SV.r2, SV.r1])), by ((repeat' (first | exact trivial | exact rfl | refine And.intro ?_ ?_)) <;> (try (conv => whnf)) <;> (try simp only [SV.real, SV.r2, SV.r1])), rfl⟩
    · rw [last_none (by omega)] at hbe
      subst hbe
      refine sat_cnd false (congrArg (fun b => SV.v (Value.bool b)) (decide_eq_false (by omega))) ⟨fun h => (by cases h), fun _ => ?_⟩
      repeat' ((conv => whnf); first | refine walk (Tryz.ok ..) ?_ | fail)
      exact ⟨(), ⟨by omega, Nat.le_refl _⟩, by ((repeat' (first | exact trivial | exact rfl | refine And.intro ?_ ?_)) <;> (try (conv => whnf)) <;> (try simp only [SV.real, SV.r2, SV.r1])), by ((repeat' (first | exact trivial | exact rfl | refine And.intro ?_ ?_)) <;> (try (conv => whnf)) <;> (try simp only [SV.real, SV.r2, SV.r1])), rfl⟩
  rintro - ⟨hba, hbb⟩
  obtain ⟨C, hC⟩ : ∃ C, C = compQ (be - m) (s.data.toList.drop m) m [] flt0 := ⟨_, rfl⟩
  rw [← hC] at hpr
  repeat' ((conv => whnf); first | refine walk (Tryz.ok ..) ?_ | refine side2 ?_ | refine xi _ (iv_at hm) ?_ | fail)
  (conv => whnf)
  refine called_pure (.t [.v (.string (ba C.1)), .a (fC C.2)]) rfl (fun w' => by rw [hC]; exact component_any s m be (by omega) hba hs w') ?_
  skip
  (conv => whnf)
  intro g18 hg18
  repeat' ((conv => whnf); first | refine walk (Tryz.ok ..) ?_ | refine side2 ?_ | fail)
  (conv => whnf)
  refine called_pure (.a (fC (worseF f3 C.2))) rfl (fun w' => worse_any f3 C.2 w') ?_
  repeat' ((conv => whnf); first | refine walk (Tryz.ok ..) ?_ | refine side2 ?_ | fail)
  (conv => whnf)
  intro g101 hg101
  repeat' ((conv => whnf); first | refine side2 ?_ | refine Or.inr ?_ | fail)
  (conv => whnf)
  intro A102 c102
  repeat' ((conv => whnf); first | refine walk (Tryz.ok ..) ?_ | refine sideL2 ?_ | fail)
  refine ⟨(k + 1, el ++ [ba C.1], worseF f3 C.2, A102, c102), ⟨⟨hk1, by rw [List.length_append, hel]; rfl, hpr⟩, by omega⟩, ?_, ?_, rfl⟩
  all_goals ((repeat' (first | exact trivial | exact rfl | refine And.intro ?_ ?_)) <;> (try (conv => whnf)) <;> (try simp only [SV.real, SV.r2, SV.r1]))
  · exact congrArg (fun n => Value.slice (adr A102) n c102) (by rw [List.length_append]; rfl)
  · rw [List.length_append]
    rfl
  · rw [List.map_append]
    rfl
end
section
open Go Sat Go.RowKit Go.PlainAid
set_option maxRecDepth 100000 in
set_option maxHeartbeats 16000000 in
theorem rRead_any (s : ByteArray) (a : Ans) (ha : readE s.data.toList = a) (w : World) :
    Calls Tryz.prog 31 #[.string s] w (Gives (fun v => .tuple #[v, .int .i64 a.2.1, .int .i64 a.2.2]) (fun w B v => NL w B v a.1) w) := by
  refine calls_sat (cx := Tryz.cx 77 [18] [] [] w) (Tryz.ok ..) Tryz.func31 rfl [.v (.string s)] rfl (by show 1 ≤ 77; omega) [] (holds_nil (Nat.le_refl _)) ?_
  have hsz : s.size = s.data.toList.length := rfl
  by_cases hbig : 65536 < s.size
  · have e1 : a = ([], 0, 3) := by rw [← ha]; unfold readE; rw [if_pos (by omega)]
    subst e1
    repeat' ((conv => whnf); first | refine walk (Tryz.ok ..) ?_ | (refine Cnd.mk (fun h => ?_) (fun h => ?_) <;> (first | exact cndT h (by (try dsimp only); omega) | exact cndF h (by (try dsimp only); omega) | (exfalso; simp at h; omega) | simp at h | skip)) | fail)
    exact done_fuse (v := .slice none 0 0) rfl rfl [] (fun w _ => nest_nil) rfl
  rw [readE] at ha
  rw [if_neg (by omega)] at ha
  repeat' ((conv => whnf); first | refine walk (Tryz.ok ..) ?_ | (refine Cnd.mk (fun h => ?_) (fun h => ?_) <;> (first | exact cndT h (by (try dsimp only); omega) | exact cndF h (by (try dsimp only); omega) | (exfalso; simp at h; omega) | simp at h | skip)) | fail)
  refine sat_fuse 77 [] rfl fun w0 hw0 => ?_
  refine sat_loop (Tryz.ok ..) (α := Nat × List Segm × Rd × Option (Nat × Nat) × Nat × List Value × World × List Nat) (fun t => ([(0, .yes, .v (.string s)), (5, .yes, .o 74 t.2.2.2.1 t.2.1.length t.2.2.2.2.1), (6, .yes, .v (.int .i64 t.1))], [(74, .row t.2.2.2.1 30 1 t.2.1.length t.2.2.2.2.1 t.2.2.2.2.2.1), (77, .own t.2.2.2.2.2.2.2 (Frz t.2.2.2.2.2.2.1 t.2.2.2.2.2.2.2))]))
    (fun t => t.1 ≤ s.size ∧ (t.2.2.1.mode = 0 ∧ t.2.2.1.out = t.2.1) ∧ (t.2.1.length ≤ 5000 ∧ t.2.2.2.2.2.1.length = t.2.1.length) ∧ Got NS t.2.2.2.2.2.2.1 t.2.2.2.2.2.2.2 t.2.2.2.2.2.1 t.2.1 ∧ runE (s.data.toList.drop t.1) t.1 t.2.2.1 = a) (fun t => s.size - t.1) (fun _ => rfl) ?_ ?_
  · refine ⟨(0, [], rd0, none, 0, [], w0, []), ⟨Nat.zero_le _, ⟨rfl, rfl⟩, ⟨Nat.zero_le _, rfl⟩, Got.nil, ha⟩, ?_, ?_, rfl⟩
    all_goals ((repeat' (first | exact trivial | exact rfl | refine And.intro ?_ ?_)) <;> (try (conv => whnf)) <;> (try simp only [SV.real, SV.r2, SV.r1]))
  rintro ⟨k0, o, r, A5, c5, xs5, w1, gs⟩ ⟨hk0, ⟨hm, ho⟩, ⟨hol, hxl⟩, hgot, hrun0⟩
  dsimp only at hk0 hm ho hol hxl hgot hrun0 ⊢
  repeat' ((conv => whnf); first | refine walk (Tryz.ok ..) ?_ | fail)
  refine sat_loop (Tryz.ok ..) (α := Nat) (fun k => ([(0, .yes, .v (.string s)), (5, .yes, .o 74 A5 o.length c5), (6, .yes, .v (.int .i64 k))], [(74, .row A5 30 1 o.length c5 xs5), (77, .own gs (Frz w1 gs))]))
    (fun k => k0 ≤ k ∧ k ≤ s.size ∧ runE (s.data.toList.drop k) k r = a) (fun k => s.size - k) (fun _ => rfl) ?_ ?_
  · refine ⟨k0, ⟨Nat.le_refl _, hk0, hrun0⟩, ?_, ?_, rfl⟩
    all_goals ((repeat' (first | exact trivial | exact rfl | refine And.intro ?_ ?_)) <;> (try (conv => whnf)) <;> (try simp only [SV.real, SV.r2, SV.r1]))
  rintro k ⟨hkk, hk, hrun⟩
  by_cases hk1 : k < s.size
  case neg =>
    rw [end_step hm (by omega), ho] at hrun
    subst hrun
    repeat' ((conv => whnf); first | refine walk (Tryz.ok ..) ?_ | (refine Cnd.mk (fun h => ?_) (fun h => ?_) <;> (first | exact cndT h (by (try dsimp only); omega) | exact cndF h (by (try dsimp only); omega) | (exfalso; simp at h; omega) | simp at h | skip)) | refine side2 ?_ | fail)
    exact done_fuse (v := .slice (adr A5) o.length c5) rfl rfl [77, 74] (fun w hw => nest_fuse [77, 74] 74 hw rfl rfl (hgot.fuse ns_stays [77, 74] 77 hw rfl rfl)) rfl
  obtain ⟨c, hc⟩ : ∃ c, s.data.toList[k]? = some c := ⟨_, List.getElem?_eq_getElem hk1⟩
  have hbt : bt s (k : Int).toNat = (c.toNat : Int) := bt_at hc
  have hbt2 : bt s k = (c.toNat : Int) := bt_at hc
  by_cases hb : c.toNat = 10 ∨ c.toNat = 13 ∨ c.toNat = 32
  · rw [blank_step hm hc hb] at hrun
    repeat' ((conv => whnf); first | refine walk (Tryz.ok ..) ?_ | (refine Cnd.mk (fun h => ?_) (fun h => ?_) <;> (first | exact cndT h (by (try dsimp only); omega) | exact cndF h (by (try dsimp only); omega) | (exfalso; simp at h; omega) | simp at h | skip)) | refine side2 ?_ | refine sideL2 ?_ | fail)
    refine ⟨k + 1, ⟨⟨by omega, hk1, hrun⟩, by omega⟩, ?_, ?_, rfl⟩
    all_goals ((repeat' (first | exact trivial | exact rfl | refine And.intro ?_ ?_)) <;> (try (conv => whnf)) <;> (try simp only [SV.real, SV.r2, SV.r1]))
  have hb2 : c.toNat ≠ 10 ∧ c.toNat ≠ 13 ∧ c.toNat ≠ 32 := by omega
  repeat' ((conv => whnf); first | refine walk (Tryz.ok ..) ?_ | (refine Cnd.mk (fun h => ?_) (fun h => ?_) <;> (first | exact cndT h (by (try dsimp only); omega) | exact cndF h (by (try dsimp only); omega) | (exfalso; simp at h; omega) | simp at h | skip)) | refine side2 ?_ | fail)
  · rw [many_step hm (by rw [ho]; omega) hc hb2] at hrun
    subst hrun
    exact done_fuse (v := .slice none 0 0) rfl rfl [] (fun w _ => nest_nil) rfl
  obtain ⟨⟨hle, hlt⟩, hbad, hok⟩ := seg_step hm (by rw [ho]; omega) hc hb2
  rw [hrun] at hbad hok
  obtain ⟨te, hte⟩ : ∃ te, te = k + endQ (s.data.toList.drop k) := ⟨_, rfl⟩
  rw [← hte] at hle hlt hbad hok
  obtain ⟨S, hS⟩ : ∃ S, S = segQ s.data.toList k te := ⟨_, rfl⟩
  have hR1 : (segR s.data.toList k te).1 = S.1 := by rw [hS]; rfl
  have hR2 : (segR s.data.toList k te).2 = if te = s.data.toList.length then worseF S.2 ⟨te, 5, 42⟩ else S.2 := by rw [hS]; rfl
  rw [hR1, hR2] at hok
  rw [hR2] at hbad
  obtain ⟨F, hF⟩ : ∃ F, F = if te = s.data.toList.length then worseF S.2 ⟨te, 5, 42⟩ else S.2 := ⟨_, rfl⟩
  rw [← hF] at hok hbad
  (conv => whnf)
  skip
  (conv => whnf)
  refine called_pure (.v (.int .i64 (te : Int))) rfl (fun w' => by rw [hte]; exact end_any s k hk (by omega) w') ?_
  repeat' ((conv => whnf); first | refine walk (Tryz.ok ..) ?_ | fail)
  (conv => whnf)
  refine called_nestR 901 902 (mk := fun v => .tuple #[v, fV S.2]) (R := NE) (l := S.1) (T := 22) (fun A cap => .t [.o 901 A S.1.length cap, .a (fC S.2)]) (fun _ _ => rfl) (fun w' hh => by rw [hS]; exact segment_any s k te (by omega) hle (by omega) w') ?_
  intro w2 A2 c2 xs2 gs2 hx2 hg2
  skip
  (conv => whnf)
  intro g9 hg9
  repeat' ((conv => whnf); first | refine walk (Tryz.ok ..) ?_ | (refine Cnd.mk (fun h => ?_) (fun h => ?_) <;> (first | exact cndT h (by (try dsimp only); omega) | exact cndF h (by (try dsimp only); omega) | (exfalso; simp at h; omega) | simp at h | skip)) | refine side2 ?_ | refine sideL2 ?_ | refine xi _ (And.intro rfl rfl) ?_ | fail)
  · have e1 : F = worseF S.2 ⟨te, 5, 42⟩ := by rw [hF, if_pos (by omega)]
    (conv => whnf)
    refine called_pure (.a (fC (worseF S.2 ⟨(te : Int), 5, 42⟩))) rfl (fun w' => worse_any S.2 ⟨(te : Int), 5, 42⟩ w') ?_
    rw [← e1]
    repeat' ((conv => whnf); first | refine walk (Tryz.ok ..) ?_ | (refine Cnd.mk (fun h => ?_) (fun h => ?_) <;> (first | exact cndT h (by (try dsimp only); omega) | exact cndF h (by (try dsimp only); omega) | (exfalso; simp at h; omega) | simp at h | skip)) | refine side2 ?_ | refine sideL2 ?_ | refine xi _ (And.intro rfl rfl) ?_ | fail)
    obtain rfl := hbad (by assumption)
    exact done_fuse (v := .slice none 0 0) rfl rfl [] (fun w _ => nest_nil) rfl
  · have e1 : F = S.2 := by rw [hF, if_neg (by omega)]
    rw [e1] at hbad
    obtain rfl := hbad (by assumption)
    exact done_fuse (v := .slice none 0 0) rfl rfl [] (fun w _ => nest_nil) rfl
  have e1 : F = S.2 := by rw [hF, if_neg (by omega)]
  rw [e1] at hok
  obtain ⟨hlt2, r', hm', ho', hrun'⟩ := hok (by assumption)
  skip
  (conv => whnf)
  intro g73 hg73
  repeat' ((conv => whnf); first | refine side2 ?_ | refine Or.inr ?_ | fail)
  (conv => whnf)
  intro A74 c74
  repeat' ((conv => whnf); first | refine walk (Tryz.ok ..) ?_ | fail)
  refine sat_fuse 77 [77, 901, 902] rfl fun w4 hw4 => ?_
  have hgot' := (hgot.fuse ns_stays [77, 901, 902] 77 hw4 rfl rfl).ext hxl (nest_fuse [77, 901, 902] 901 hw4 rfl rfl (hg2.fuse ne_stays [77, 901, 902] 902 hw4 rfl rfl))
  refine sat_ops (Tryz.ok ..) ?_
  repeat' ((conv => whnf); first | refine sideL2 ?_ | fail)
  refine ⟨(te + 1, o ++ [S.1], r', A74, c74, _, w4, _), ⟨⟨by omega, ⟨hm', by rw [ho', ho]⟩, ⟨by show (o ++ [S.1]).length ≤ 5000; rw [List.length_append, List.length_singleton]; omega, ?_⟩, hgot', hrun'.symm⟩, by show s.size - (te + 1) < s.size - k0; omega⟩, ?_, ?_, rfl⟩
  · show (xs5 ++ [_]).length = (o ++ [S.1]).length
    rw [List.length_append, List.length_append, hxl]
    rfl
  · ((repeat' (first | exact trivial | exact rfl | refine And.intro ?_ ?_)) <;> (try (conv => whnf)) <;> (try simp only [SV.real, SV.r2, SV.r1]))
    exact congrArg (fun n => Value.slice (adr A74) n c74) (by rw [List.length_append]; rfl)
  · ((repeat' (first | exact trivial | exact rfl | refine And.intro ?_ ?_)) <;> (try (conv => whnf)) <;> (try simp only [SV.real, SV.r2, SV.r1]))
    rw [List.length_append]
    rfl
end
end Go.Proofs.YtdohcglpcgahaaaGreatDoor
