/-
  What the reference makes of a segment, and that it is what the machine makes of it. No program in sight.
-/
import Derived.Test.YtdejcgmaphmjbaaDoorRT
set_option linter.unusedSimpArgs false
set_option linter.unusedVariables false
namespace Go.Proofs.YtdejcgmaphmjbaaDoor
open Go Sat Go.RowKit Go.PlainAid
structure Flt where
  at_ : Int
  rank : Int
  e : Int
def flt0 : Flt := ⟨0, 0, 0⟩
def worseC (a b : Flt) : Prop := a.e = 0 ∨ (b.e ≠ 0 ∧ (b.at_ < a.at_ ∨ (b.at_ = a.at_ ∧ b.rank < a.rank)))
instance (a b : Flt) : Decidable (worseC a b) := inferInstanceAs (Decidable (_ ∨ _))
def worseF (a b : Flt) : Flt := if worseC a b then b else a
theorem worse0 {a b : Flt} (h : a.e = 0) : worseF a b = b := if_pos (.inl h)
theorem worse1 {a b : Flt} (h : a.e ≠ 0) (hb : b.e = 0 ∨ a.at_ < b.at_ ∨ (a.at_ = b.at_ ∧ a.rank ≤ b.rank)) : worseF a b = a := by
  unfold worseF
  refine if_neg ?_
  unfold worseC
  omega
/-- where a cut's parts begin, behind the first one -/
def cutQ (by_ : UInt8) : Nat → List UInt8 → Nat → List Nat
  | _, [], _ => []
  | n, c :: l, i => if n = 0 then [] else if c = 63 then (match l with
    | [] => []
    | _ :: l' => cutQ by_ (n - 2) l' (i + 2)) else if c = by_ then (i + 1) :: cutQ by_ (n - 1) l (i + 1) else cutQ by_ (n - 1) l (i + 1)
/-- a component's text and first fault: n bytes of a list from place i on -/
def compQ : Nat → List UInt8 → Nat → List UInt8 → Flt → List UInt8 × Flt
  | _, [], _, out, f => (out, f)
  | n, c :: l, i, out, f => if n = 0 then (out, f) else if c = 63 then (match l with
    | [] => (out, worseF f ⟨i, 3, 41⟩)
    | d :: l' => if ¬ (svc (d.toNat : Int) ∨ d = 32) then compQ (n - 2) l' (i + 2) out (worseF f ⟨i, 3, 41⟩) else compQ (n - 2) l' (i + 2) (out ++ [d]) (if out.length = 100 then worseF f ⟨i, 4, 3⟩ else f))
    else compQ (n - 1) l (i + 1) (out ++ [c]) (if out.length = 100 then worseF (if badB c = true then worseF f ⟨i, 2, 40⟩ else f) ⟨i, 4, 3⟩ else (if badB c = true then worseF f ⟨i, 2, 40⟩ else f))
def behindQ (ps : List Nat) (last : Nat) : Nat := match ps with
  | [] => last
  | q :: _ => q - 1
def partsQ (T : List UInt8) (last : Nat) : List Nat → Nat → Elem → Flt → Elem × Flt
  | [], _, el, f => (el, f)
  | p :: ps, k, el, f => partsQ T last ps (k + 1) (el ++ [ba (compQ (behindQ ps last - p) (T.drop p) p [] flt0).1]) (worseF (if k = 10 then worseF f ⟨(p : Int) - 1, 1, 5⟩ else f) (compQ (behindQ ps last - p) (T.drop p) p [] flt0).2)
def elemQ (T : List UInt8) (p last : Nat) (f : Flt) : Elem × Flt := partsQ T last (p :: cutQ 58 (last - p) (T.drop p) p) 0 [] f
def elemsQ (T : List UInt8) (to : Nat) : List Nat → Nat → Segm → Flt → Segm × Flt
  | [], _, sg, f => (sg, f)
  | p :: ps, i, sg, f => elemsQ T to ps (i + 1) (sg ++ [(elemQ T p (behindQ ps to) (if i = 30 then worseF f ⟨(p : Int) - 1, 1, 5⟩ else f)).1]) (elemQ T p (behindQ ps to) (if i = 30 then worseF f ⟨(p : Int) - 1, 1, 5⟩ else f)).2
def segQ (T : List UInt8) (from_ to : Nat) : Segm × Flt := elemsQ T to (from_ :: cutQ 43 (to - from_) (T.drop from_) from_) 0 [] flt0
theorem cutQ_zero (c : UInt8) (l : List UInt8) (i : Nat) : cutQ c 0 l i = [] := by
  cases l with
  | nil => unfold cutQ; rfl
  | cons b l => unfold cutQ; rw [if_pos rfl]
theorem cutQ_b (c : UInt8) {d : UInt8} (hd : d ≠ 63) (n : Nat) (l : List UInt8) (i : Nat) : cutQ c (1 + n) (d :: l) i = if d = c then (i + 1) :: cutQ c n l (i + 1) else cutQ c n l (i + 1) := by
  conv => lhs; unfold cutQ
  rw [if_neg (by omega), if_neg hd, Nat.add_sub_cancel_left]
theorem cutQ_e (c d : UInt8) (n : Nat) (l : List UInt8) (i : Nat) : cutQ c (2 + n) (63 :: d :: l) i = cutQ c n l (i + 2) := by
  conv => lhs; unfold cutQ
  rw [if_neg (by omega), if_pos rfl]
  show cutQ c (2 + n - 2) l (i + 2) = _
  rw [Nat.add_sub_cancel_left]
theorem cutQ_w (c : UInt8) (l : List UInt8) (i : Nat) : cutQ c 1 (63 :: l) i = [] := by
  unfold cutQ
  rw [if_neg (by omega), if_pos rfl]
  cases l with
  | nil => rfl
  | cons b l => exact cutQ_zero c l _
theorem compQ_zero (l : List UInt8) (i : Nat) (out : List UInt8) (f : Flt) : compQ 0 l i out f = (out, f) := by
  cases l with
  | nil => unfold compQ; rfl
  | cons b l => unfold compQ; rw [if_pos rfl]
theorem compQ_b {c : UInt8} (hd : c ≠ 63) (n : Nat) (l : List UInt8) (i : Nat) (out : List UInt8) (f : Flt) : compQ (1 + n) (c :: l) i out f = compQ n l (i + 1) (out ++ [c]) (if out.length = 100 then worseF (if badB c = true then worseF f ⟨i, 2, 40⟩ else f) ⟨i, 4, 3⟩ else (if badB c = true then worseF f ⟨i, 2, 40⟩ else f)) := by
  conv => lhs; unfold compQ
  rw [if_neg (by omega), if_neg hd, Nat.add_sub_cancel_left]
theorem compQ_e (d : UInt8) (n : Nat) (l : List UInt8) (i : Nat) (out : List UInt8) (f : Flt) : compQ (2 + n) (63 :: d :: l) i out f = if ¬ (svc (d.toNat : Int) ∨ d = 32) then compQ n l (i + 2) out (worseF f ⟨i, 3, 41⟩) else compQ n l (i + 2) (out ++ [d]) (if out.length = 100 then worseF f ⟨i, 4, 3⟩ else f) := by
  conv => lhs; unfold compQ
  rw [if_neg (by omega), if_pos rfl]
  show (if ¬ (svc (d.toNat : Int) ∨ d = 32) then compQ (2 + n - 2) l (i + 2) out (worseF f ⟨i, 3, 41⟩) else compQ (2 + n - 2) l (i + 2) (out ++ [d]) (if out.length = 100 then worseF f ⟨i, 4, 3⟩ else f)) = _
  rw [Nat.add_sub_cancel_left]
theorem compQ_w (n i : Nat) (out : List UInt8) (f : Flt) : compQ (n + 1) [63] i out f = (out, worseF f ⟨i, 3, 41⟩) := by
  unfold compQ
  rw [if_neg (by omega), if_pos rfl]
/-! tokens -/
def starts {α : Type} (f : α → List Tok) : Nat → List α → List Nat
  | _, [] => []
  | i, p :: ps => i :: starts f (i + tlen (f p) + 1) ps
theorem cut_toks (c : UInt8) (hc : c ≠ 63) (rest : List UInt8) : ∀ (l : List Tok) (i : Nat) (e : Bool), Fit e l → i :: cutQ c (tlen l) (tb l ++ rest) i = starts id i (splitT c l)
  | [], i, e, _ => by
    rw [show tlen [] = 0 from rfl, cutQ_zero]
    rfl
  | .b d :: l, i, e, h => by
    have ih := cut_toks c hc rest l (i + 1) e h.2.2
    obtain ⟨q, qs, hq⟩ := split_cons c l
    rw [tb_cons, show (Tok.b d).bytes = [d] from rfl, List.singleton_append, List.cons_append, tlen_cons, show (Tok.b d).len = 1 from rfl, split_b, hq]
    rw [hq] at ih
    rw [cutQ_b c h.2.1]
    unfold starts at ih
    by_cases hd : d = c
    · rw [if_pos hd, if_pos hd, ih]
      rfl
    · rw [if_neg hd, if_neg hd]
      rw [(List.cons.inj ih).2]
      show i :: starts id (i + 1 + tlen q + 1) qs = i :: starts id (i + tlen (Tok.b d :: q) + 1) qs
      rw [tlen_cons, show (Tok.b d).len = 1 from rfl, ← Nat.add_assoc]
  | .e d :: l, i, e, h => by
    have ih := cut_toks c hc rest l (i + 2) e h
    obtain ⟨q, qs, hq⟩ := split_cons c l
    rw [tb_cons, show (Tok.e d).bytes = [63, d] from rfl, List.cons_append, List.cons_append, tlen_cons, show (Tok.e d).len = 2 from rfl, split_o c _ (fun d h => by cases h), hq]
    rw [hq] at ih
    show i :: cutQ c (2 + tlen l) (63 :: d :: (tb l ++ rest)) i = _
    rw [cutQ_e]
    unfold starts at ih
    rw [(List.cons.inj ih).2]
    show i :: starts id (i + 2 + tlen q + 1) qs = i :: starts id (i + tlen (Tok.e d :: q) + 1) qs
    rw [tlen_cons, show (Tok.e d).len = 2 from rfl, ← Nat.add_assoc]
  | .w :: l, i, e, h => by
    obtain ⟨rfl, he⟩ := h
    show i :: cutQ c 1 (63 :: rest) i = _
    rw [cutQ_w]
    rfl
theorem comp_toks (rest : List UInt8) (e : Bool) (he : e = true → rest = []) : ∀ (p : List Tok) (i : Nat) (out : List UInt8) (f : Flt), Fit e p →
    (f.e ≠ 0 → f.at_ < i → (compQ (tlen p) (tb p ++ rest) i out f).2 = f) ∧
    (f.e = 0 → out.length ≤ 100 → ((compF p i out.length = none ∧ (compQ (tlen p) (tb p ++ rest) i out f).2.e = 0 ∧ (compQ (tlen p) (tb p ++ rest) i out f).1 = out ++ cb p) ∨ ∃ x, compF p i out.length = some x ∧ (compQ (tlen p) (tb p ++ rest) i out f).2.e ≠ 0 ∧ (compQ (tlen p) (tb p ++ rest) i out f).2.e = x.2 ∧ (compQ (tlen p) (tb p ++ rest) i out f).2.at_ = x.1 ∧ (i : Int) ≤ x.1 ∧ x.1 < (i + tlen p : Nat)))
  | [], i, out, f, _ => by
    have e1 : compQ (tlen []) (tb [] ++ rest) i out f = (out, f) := compQ_zero _ _ _ _
    rw [e1]
    exact ⟨fun _ _ => rfl, fun h _ => .inl ⟨rfl, h, by simp [cb]⟩⟩
  | .b c :: p, i, out, f, h => by
    obtain ⟨ih1, ih2⟩ := comp_toks rest e he p (i + 1) (out ++ [c]) (if out.length = 100 then worseF (if badB c = true then worseF f ⟨i, 2, 40⟩ else f) ⟨i, 4, 3⟩ else (if badB c = true then worseF f ⟨i, 2, 40⟩ else f)) h.2.2
    have e1 : compQ (tlen (.b c :: p)) (tb (.b c :: p) ++ rest) i out f = compQ (tlen p) (tb p ++ rest) (i + 1) (out ++ [c]) (if out.length = 100 then worseF (if badB c = true then worseF f ⟨i, 2, 40⟩ else f) ⟨i, 4, 3⟩ else (if badB c = true then worseF f ⟨i, 2, 40⟩ else f)) := by
      rw [tb_cons, show (Tok.b c).bytes = [c] from rfl, List.singleton_append, List.cons_append, tlen_cons, show (Tok.b c).len = 1 from rfl]
      exact compQ_b h.2.1 _ _ _ _ _
    rw [e1]
    generalize hg : (if out.length = 100 then worseF (if badB c = true then worseF f ⟨i, 2, 40⟩ else f) ⟨i, 4, 3⟩ else (if badB c = true then worseF f ⟨i, 2, 40⟩ else f)) = g at ih1 ih2
    rw [tlen_cons, show (Tok.b c).len = 1 from rfl]
    refine ⟨fun h1 h2 => ?_, fun h1 h2 => ?_⟩
    · have e2 : (if badB c = true then worseF f ⟨i, 2, 40⟩ else f) = f := by
        split
        · exact worse1 h1 (.inr (.inl h2))
        · rfl
      rw [e2, worse1 h1 (.inr (.inl h2)), ite_self] at hg
      subst hg
      exact ih1 h1 (by omega)
    · unfold compF
      by_cases hb : badB c = true
      · rw [if_pos hb, worse0 h1, worse1 (a := ⟨i, 2, 40⟩) (b := ⟨i, 4, 3⟩) (by show (40 : Int) ≠ 0; decide) (.inr (.inr ⟨rfl, by show (2 : Int) ≤ 4; decide⟩)), ite_self] at hg
        subst hg
        rw [if_pos hb, ih1 (by show (40 : Int) ≠ 0; decide) (by show (i : Int) < _; omega)]
        exact .inr ⟨_, rfl, by show (40 : Int) ≠ 0; decide, rfl, rfl, Int.le_refl _, by show (i : Int) < _; omega⟩
      · rw [if_neg hb] at hg
        rw [if_neg hb]
        by_cases hn : out.length = 100
        · rw [if_pos hn, worse0 h1] at hg
          subst hg
          rw [if_pos hn, ih1 (by show (3 : Int) ≠ 0; decide) (by show (i : Int) < _; omega)]
          exact .inr ⟨_, rfl, by show (3 : Int) ≠ 0; decide, rfl, rfl, Int.le_refl _, by show (i : Int) < _; omega⟩
        · rw [if_neg hn] at hg
          subst hg
          rw [if_neg hn]
          have h3 := ih2 h1 (by rw [List.length_append, List.length_singleton]; omega)
          rw [List.length_append, List.length_singleton] at h3
          rcases h3 with ⟨k1, k2, k3⟩ | ⟨x, k1, k2, k3, k4, k5, k6⟩
          · exact .inl ⟨k1, k2, by rw [k3]; simp [cb]⟩
          · exact .inr ⟨x, k1, k2, k3, k4, by omega, by omega⟩
  | .e c :: p, i, out, f, h => by
    have e1 : compQ (tlen (.e c :: p)) (tb (.e c :: p) ++ rest) i out f = if ¬ (svc (c.toNat : Int) ∨ c = 32) then compQ (tlen p) (tb p ++ rest) (i + 2) out (worseF f ⟨i, 3, 41⟩) else compQ (tlen p) (tb p ++ rest) (i + 2) (out ++ [c]) (if out.length = 100 then worseF f ⟨i, 4, 3⟩ else f) := by
      rw [tb_cons, tlen_cons]
      exact compQ_e _ _ _ _ _ _
    rw [e1]
    rw [tlen_cons, show (Tok.e c).len = 2 from rfl]
    unfold compF
    by_cases hs : ¬ (svc (c.toNat : Int) ∨ c = 32)
    · rw [if_pos hs, if_pos hs]
      obtain ⟨ih1, ih2⟩ := comp_toks rest e he p (i + 2) out (worseF f ⟨i, 3, 41⟩) h
      refine ⟨fun h1 h2 => ?_, fun h1 h2 => ?_⟩
      · rw [worse1 h1 (.inr (.inl h2))] at ih1 ⊢
        exact ih1 h1 (by omega)
      · rw [worse0 h1] at ih1 ⊢
        rw [ih1 (by show (41 : Int) ≠ 0; decide) (by show (i : Int) < _; omega)]
        exact .inr ⟨_, rfl, by show (41 : Int) ≠ 0; decide, rfl, rfl, Int.le_refl _, by show (i : Int) < _; omega⟩
    · rw [if_neg hs, if_neg hs]
      obtain ⟨ih1, ih2⟩ := comp_toks rest e he p (i + 2) (out ++ [c]) (if out.length = 100 then worseF f ⟨i, 4, 3⟩ else f) h
      refine ⟨fun h1 h2 => ?_, fun h1 h2 => ?_⟩
      · rw [worse1 h1 (.inr (.inl h2)), ite_self] at ih1 ⊢
        exact ih1 h1 (by omega)
      · by_cases hn : out.length = 100
        · rw [if_pos hn, worse0 h1] at ih1 ⊢
          rw [if_pos hn, ih1 (by show (3 : Int) ≠ 0; decide) (by show (i : Int) < _; omega)]
          exact .inr ⟨_, rfl, by show (3 : Int) ≠ 0; decide, rfl, rfl, Int.le_refl _, by show (i : Int) < _; omega⟩
        · rw [if_neg hn] at ih2 ⊢
          rw [if_neg hn]
          have h3 := ih2 h1 (by rw [List.length_append, List.length_singleton]; omega)
          rw [List.length_append, List.length_singleton] at h3
          rcases h3 with ⟨k1, k2, k3⟩ | ⟨x, k1, k2, k3, k4, k5, k6⟩
          · exact .inl ⟨k1, k2, by rw [k3]; simp [cb]⟩
          · exact .inr ⟨x, k1, k2, k3, k4, by omega, by omega⟩
  | .w :: p, i, out, f, h => by
    obtain ⟨rfl, h⟩ := h
    obtain rfl := he h
    have e1 : compQ (tlen [.w]) (tb [.w] ++ []) i out f = (out, worseF f ⟨i, 3, 41⟩) := compQ_w 0 i out f
    rw [e1]
    refine ⟨fun h1 h2 => worse1 h1 (.inr (.inl h2)), fun h1 h2 => ?_⟩
    rw [worse0 h1]
    exact .inr ⟨_, rfl, by show (41 : Int) ≠ 0; decide, rfl, rfl, Int.le_refl _, by show (i : Int) < (i + 1 : Nat); omega⟩
theorem drop_piece {α : Type} (c : UInt8) (f : α → List Tok) {T rest : List UInt8} {i : Nat} {p q : α} {ps : List α} (h : T.drop i = tb (joinT c f (p :: q :: ps)) ++ rest) : T.drop i = tb (f p) ++ (c :: (tb (joinT c f (q :: ps)) ++ rest)) ∧ T.drop (i + tlen (f p) + 1) = tb (joinT c f (q :: ps)) ++ rest ∧ tlen (joinT c f (p :: q :: ps)) = tlen (f p) + 1 + tlen (joinT c f (q :: ps)) := by
  have ej : joinT c f (p :: q :: ps) = f p ++ (.b c :: joinT c f (q :: ps)) := by simp [joinT]
  have h1 : T.drop i = tb (f p) ++ (c :: (tb (joinT c f (q :: ps)) ++ rest)) := by
    rw [h, ej, tb_app, tb_cons, show (Tok.b c).bytes = [c] from rfl, List.append_assoc, List.singleton_append, List.cons_append]
  refine ⟨h1, ?_, ?_⟩
  · rw [Nat.add_assoc, ← List.drop_drop, h1, ← tb_len, ← List.drop_drop, List.drop_left]
    rfl
  · rw [ej, tlen_app, tlen_cons, show (Tok.b c).len = 1 from rfl]
    omega
theorem join_one {α : Type} (c : UInt8) (f : α → List Tok) (p : α) : joinT c f [p] = f p := by simp [joinT]
theorem partsQ_cons (T : List UInt8) (last p : Nat) (ps : List Nat) (k : Nat) (el : Elem) (f : Flt) : partsQ T last (p :: ps) k el f = partsQ T last ps (k + 1) (el ++ [ba (compQ (behindQ ps last - p) (T.drop p) p [] flt0).1]) (worseF (if k = 10 then worseF f ⟨(p : Int) - 1, 1, 5⟩ else f) (compQ (behindQ ps last - p) (T.drop p) p [] flt0).2) := rfl
/-- one component among a cut's parts -/
theorem part_step {e : Bool} {p : List Tok} {rest' : List UInt8} {i k : Nat} {f : Flt} (he : e = true → rest' = []) (hf : Fit e p) :
    (f.e ≠ 0 → f.at_ < i → (k = 10 → f.at_ < (i : Int) - 1) → worseF (if k = 10 then worseF f ⟨(i : Int) - 1, 1, 5⟩ else f) (compQ (tlen p) (tb p ++ rest') i [] flt0).2 = f) ∧
    (f.e = 0 → ((((if k = 10 then some ((i : Int) - 1, 5) else none : Flt1).or (compF p i 0)) = none ∧ (worseF (if k = 10 then worseF f ⟨(i : Int) - 1, 1, 5⟩ else f) (compQ (tlen p) (tb p ++ rest') i [] flt0).2).e = 0 ∧ (compQ (tlen p) (tb p ++ rest') i [] flt0).1 = cb p) ∨
      ∃ x : Int × Int, ((if k = 10 then some ((i : Int) - 1, 5) else none : Flt1).or (compF p i 0)) = some x ∧ (worseF (if k = 10 then worseF f ⟨(i : Int) - 1, 1, 5⟩ else f) (compQ (tlen p) (tb p ++ rest') i [] flt0).2).e ≠ 0 ∧ (worseF (if k = 10 then worseF f ⟨(i : Int) - 1, 1, 5⟩ else f) (compQ (tlen p) (tb p ++ rest') i [] flt0).2).e = x.2 ∧ (worseF (if k = 10 then worseF f ⟨(i : Int) - 1, 1, 5⟩ else f) (compQ (tlen p) (tb p ++ rest') i [] flt0).2).at_ = x.1 ∧ ((i : Int) - 1 ≤ x.1 ∧ (k ≠ 10 → (i : Int) ≤ x.1) ∧ x.1 < (i + tlen p : Nat)) ∧ x.1 < (i + tlen p : Nat))) := by
  obtain ⟨-, h2⟩ := comp_toks rest' e he p i [] flt0 hf
  have h3 := h2 rfl (by simp)
  rw [List.length_nil] at h3
  generalize compQ (tlen p) (tb p ++ rest') i [] flt0 = C at h3
  have hlow : C.2.e = 0 ∨ (i : Int) ≤ C.2.at_ := by
    rcases h3 with h3 | ⟨x, h3⟩
    · exact .inl h3.2.1
    · exact .inr (by omega)
  refine ⟨fun h0 ha hk => ?_, fun h0 => ?_⟩
  · have e1 : (if k = 10 then worseF f ⟨(i : Int) - 1, 1, 5⟩ else f) = f := by
      split
      · exact worse1 h0 (.inr (.inl (hk (by assumption))))
      · rfl
    rw [e1]
    refine worse1 h0 ?_
    rcases hlow with h | h
    · exact .inl h
    · exact .inr (.inl (by omega))
  · by_cases hk : k = 10
    · rw [if_pos hk, if_pos hk, worse0 h0]
      right
      rw [worse1 (a := ⟨(i : Int) - 1, 1, 5⟩) (b := C.2) (by show (5 : Int) ≠ 0; decide) (by
        rcases hlow with h | h
        · exact .inl h
        · exact .inr (.inl (by show (i : Int) - 1 < _; omega)))]
      exact ⟨_, rfl, by show (5 : Int) ≠ 0; decide, rfl, rfl, ⟨Int.le_refl _, fun h => absurd hk h, by show (i : Int) - 1 < _; omega⟩, by show (i : Int) - 1 < _; omega⟩
    · rw [if_neg hk, if_neg hk, worse0 h0, Option.none_or]
      rcases h3 with ⟨k1, k2, k3⟩ | ⟨x, k1, k2, k3, k4, k5, k6⟩
      · exact .inl ⟨k1, k2, by rw [k3]; rfl⟩
      · exact .inr ⟨x, k1, k2, k3, k4, ⟨by omega, fun _ => by omega, k6⟩, k6⟩
theorem parts_toks (T rest : List UInt8) (e : Bool) (he : e = true → rest = []) (last : Nat) : ∀ (ps : List (List Tok)) (p : List Tok) (i k : Nat) (el : Elem) (f : Flt), FitP e (p :: ps) → T.drop i = tb (joinT 58 id (p :: ps)) ++ rest → last = i + tlen (joinT 58 id (p :: ps)) →
    (f.e ≠ 0 → f.at_ < i → (k = 10 → f.at_ < (i : Int) - 1) → (partsQ T last (starts id i (p :: ps)) k el f).2 = f) ∧
    (f.e = 0 → ((partsF (p :: ps) i k = none ∧ (partsQ T last (starts id i (p :: ps)) k el f).2.e = 0 ∧ (partsQ T last (starts id i (p :: ps)) k el f).1 = el ++ elOf (p :: ps)) ∨
      ∃ x, partsF (p :: ps) i k = some x ∧ (partsQ T last (starts id i (p :: ps)) k el f).2.e ≠ 0 ∧ (partsQ T last (starts id i (p :: ps)) k el f).2.e = x.2 ∧ (partsQ T last (starts id i (p :: ps)) k el f).2.at_ = x.1 ∧ (i : Int) - 1 ≤ x.1 ∧ (k ≠ 10 → (i : Int) ≤ x.1) ∧ x.1 < last))
  | [], p, i, k, el, f, hf, hT, hl => by
    rw [join_one] at hT hl
    obtain ⟨h1, h2⟩ := part_step (k := k) (i := i) (f := f) he hf
    have e1 : partsQ T last (starts id i [p]) k el f = (el ++ [ba (compQ (tlen p) (tb p ++ rest) i [] flt0).1], worseF (if k = 10 then worseF f ⟨(i : Int) - 1, 1, 5⟩ else f) (compQ (tlen p) (tb p ++ rest) i [] flt0).2) := by
      show partsQ T last [i] k el f = _
      rw [partsQ_cons, hT, show behindQ [] last - i = tlen p from by show last - i = _; rw [hl]; exact Nat.add_sub_cancel_left ..]
      rfl
    rw [e1]
    refine ⟨h1, fun h0 => ?_⟩
    have e2 : partsF [p] i k = ((if k = 10 then some ((i : Int) - 1, 5) else none : Flt1).or (compF p i 0)) := by
      show (_ : Flt1).or none = _
      rw [Option.or_none]
    rw [e2]
    rcases h2 h0 with ⟨k1, k2, k3⟩ | ⟨x, k1, k2, k3, k4, ⟨k5, k6, k7⟩, k8⟩
    · exact .inl ⟨k1, k2, by rw [k3]; rfl⟩
    · exact .inr ⟨x, k1, k2, k3, k4, k5, k6, by rw [hl]; exact k8⟩
  | q :: ps, p, i, k, el, f, hf, hT, hl => by
    obtain ⟨g1, g2, g3⟩ := drop_piece 58 id hT
    rw [show id p = p from rfl] at g1 g2 g3
    obtain ⟨h1, h2⟩ := part_step (e := false) (rest' := 58 :: (tb (joinT 58 id (q :: ps)) ++ rest)) (k := k) (i := i) (f := f) (fun h => by cases h) hf.1
    have e1 : partsQ T last (starts id i (p :: q :: ps)) k el f = partsQ T last (starts id (i + tlen p + 1) (q :: ps)) (k + 1) (el ++ [ba (compQ (tlen p) (tb p ++ (58 :: (tb (joinT 58 id (q :: ps)) ++ rest))) i [] flt0).1]) (worseF (if k = 10 then worseF f ⟨(i : Int) - 1, 1, 5⟩ else f) (compQ (tlen p) (tb p ++ (58 :: (tb (joinT 58 id (q :: ps)) ++ rest))) i [] flt0).2) := by
      show partsQ T last (i :: starts id (i + tlen p + 1) (q :: ps)) k el f = _
      rw [partsQ_cons, g1, show behindQ (starts id (i + tlen p + 1) (q :: ps)) last - i = tlen p from by
        show i + tlen p + 1 - 1 - i = _
        omega]
    rw [e1]
    generalize (compQ (tlen p) (tb p ++ (58 :: (tb (joinT 58 id (q :: ps)) ++ rest))) i [] flt0) = C at h1 h2
    generalize hg : worseF (if k = 10 then worseF f ⟨(i : Int) - 1, 1, 5⟩ else f) C.2 = g at h1 h2
    obtain ⟨i1, i2⟩ := parts_toks T rest e he last ps q (i + tlen p + 1) (k + 1) (el ++ [ba C.1]) g hf.2 g2 (by rw [hl, g3]; omega)
    refine ⟨fun h0 ha hk => ?_, fun h0 => ?_⟩
    · have h3 := h1 h0 ha hk
      rw [h3] at i1 ⊢
      exact i1 h0 (by omega) (fun _ => by omega)
    · show (((if k = 10 then some ((i : Int) - 1, 5) else none : Flt1).or (compF p i 0)).or (partsF (q :: ps) (i + tlen p + 1) (k + 1)) = none ∧ _ ∧ _) ∨ ∃ x, ((if k = 10 then some ((i : Int) - 1, 5) else none : Flt1).or (compF p i 0)).or (partsF (q :: ps) (i + tlen p + 1) (k + 1)) = some x ∧ _ ∧ _ ∧ _ ∧ _ ∧ _ ∧ _
      rcases h2 h0 with ⟨k1, k2, k3⟩ | ⟨x, k1, k2, k3, k4, ⟨k5, k6, k7⟩, k8⟩
      · rw [k1, Option.none_or]
        rcases i2 k2 with ⟨j1, j2, j3⟩ | ⟨x, j1, j2, j3, j4, j5, j6, j7⟩
        · exact .inl ⟨j1, j2, by rw [j3, k3]; simp [elOf]⟩
        · exact .inr ⟨x, j1, j2, j3, j4, by omega, fun _ => by omega, j7⟩
      · rw [k1]
        right
        rw [i1 k2 (by omega) (fun _ => by omega)]
        exact ⟨x, rfl, k2, k3, k4, k5, k6, by rw [hl, g3]; omega⟩
theorem elem_toks {T rest : List UInt8} {e : Bool} (he : e = true → rest = []) {q : El} {i : Nat} {f : Flt} (hq : q ≠ []) (hs : splitT 58 (elT q) = q) (hf : FitP e q) (hft : Fit e (elT q)) (hT : T.drop i = tb (elT q) ++ rest) :
    (f.e ≠ 0 → f.at_ < i → (elemQ T i (i + tlen (elT q)) f).2 = f) ∧
    (f.e = 0 → ((partsF q i 0 = none ∧ (elemQ T i (i + tlen (elT q)) f).2.e = 0 ∧ (elemQ T i (i + tlen (elT q)) f).1 = elOf q) ∨
      ∃ x, partsF q i 0 = some x ∧ (elemQ T i (i + tlen (elT q)) f).2.e ≠ 0 ∧ (elemQ T i (i + tlen (elT q)) f).2.e = x.2 ∧ (elemQ T i (i + tlen (elT q)) f).2.at_ = x.1 ∧ (i : Int) ≤ x.1 ∧ x.1 < (i + tlen (elT q) : Nat))) := by
  cases q with
  | nil => exact absurd rfl hq
  | cons p ps =>
    have h1 := parts_toks T rest e he (i + tlen (elT (p :: ps))) ps p i 0 [] f hf hT rfl
    have e1 : elemQ T i (i + tlen (elT (p :: ps))) f = partsQ T (i + tlen (elT (p :: ps))) (starts id i (p :: ps)) 0 [] f := by
      unfold elemQ
      rw [Nat.add_sub_cancel_left, hT, cut_toks 58 (by decide) rest _ i e hft, hs]
    rw [e1]
    refine ⟨fun h0 ha => h1.1 h0 ha (fun h => by cases h), fun h0 => ?_⟩
    rcases h1.2 h0 with h2 | ⟨x, k1, k2, k3, k4, k5, k6, k7⟩
    · exact .inl h2
    · exact .inr ⟨x, k1, k2, k3, k4, k6 (by decide), k7⟩
theorem elemsQ_cons (T : List UInt8) (to p : Nat) (ps : List Nat) (i : Nat) (sg : Segm) (f : Flt) : elemsQ T to (p :: ps) i sg f = elemsQ T to ps (i + 1) (sg ++ [(elemQ T p (behindQ ps to) (if i = 30 then worseF f ⟨(p : Int) - 1, 1, 5⟩ else f)).1]) (elemQ T p (behindQ ps to) (if i = 30 then worseF f ⟨(p : Int) - 1, 1, 5⟩ else f)).2 := rfl
/-- one element among a segment's -/
theorem el_step {T rest' : List UInt8} {e : Bool} (he : e = true → rest' = []) {q : El} {i k : Nat} {f : Flt} (hq : q ≠ []) (hs : splitT 58 (elT q) = q) (hf : FitP e q) (hft : Fit e (elT q)) (hT : T.drop i = tb (elT q) ++ rest') :
    (f.e ≠ 0 → f.at_ < i → (k = 30 → f.at_ < (i : Int) - 1) → (elemQ T i (i + tlen (elT q)) (if k = 30 then worseF f ⟨(i : Int) - 1, 1, 5⟩ else f)).2 = f) ∧
    (f.e = 0 → ((((if k = 30 then some ((i : Int) - 1, 5) else none : Flt1).or (partsF q i 0)) = none ∧ (elemQ T i (i + tlen (elT q)) (if k = 30 then worseF f ⟨(i : Int) - 1, 1, 5⟩ else f)).2.e = 0 ∧ (elemQ T i (i + tlen (elT q)) (if k = 30 then worseF f ⟨(i : Int) - 1, 1, 5⟩ else f)).1 = elOf q) ∨
      ∃ x : Int × Int, ((if k = 30 then some ((i : Int) - 1, 5) else none : Flt1).or (partsF q i 0)) = some x ∧ (elemQ T i (i + tlen (elT q)) (if k = 30 then worseF f ⟨(i : Int) - 1, 1, 5⟩ else f)).2.e ≠ 0 ∧ (elemQ T i (i + tlen (elT q)) (if k = 30 then worseF f ⟨(i : Int) - 1, 1, 5⟩ else f)).2.e = x.2 ∧ (elemQ T i (i + tlen (elT q)) (if k = 30 then worseF f ⟨(i : Int) - 1, 1, 5⟩ else f)).2.at_ = x.1 ∧ x.1 < (i + tlen (elT q) : Nat))) := by
  refine ⟨fun h0 ha hk => ?_, fun h0 => ?_⟩
  · have e1 : (if k = 30 then worseF f ⟨(i : Int) - 1, 1, 5⟩ else f) = f := by
      split
      · exact worse1 h0 (.inr (.inl (hk (by assumption))))
      · rfl
    rw [e1]
    exact (elem_toks he hq hs hf hft hT).1 h0 ha
  · by_cases hk : k = 30
    · rw [if_pos hk, if_pos hk, worse0 h0]
      right
      rw [(elem_toks (f := ⟨(i : Int) - 1, 1, 5⟩) he hq hs hf hft hT).1 (by show (5 : Int) ≠ 0; decide) (by show (i : Int) - 1 < _; omega)]
      exact ⟨_, rfl, by show (5 : Int) ≠ 0; decide, rfl, rfl, by show (i : Int) - 1 < _; omega⟩
    · rw [if_neg hk, if_neg hk, Option.none_or]
      rcases (elem_toks he hq hs hf hft hT).2 h0 with h2 | ⟨x, k1, k2, k3, k4, k5, k6⟩
      · exact .inl h2
      · exact .inr ⟨x, k1, k2, k3, k4, k6⟩
def Good (e : Bool) (q : El) : Prop := q ≠ [] ∧ splitT 58 (elT q) = q
theorem elems_toks (T rest : List UInt8) (e : Bool) (he : e = true → rest = []) (to : Nat) : ∀ (ps : List (List Tok)) (p : List Tok) (i k : Nat) (sg : Segm) (f : Flt), FitP e (p :: ps) → T.drop i = tb (joinT 43 id (p :: ps)) ++ rest → to = i + tlen (joinT 43 id (p :: ps)) →
    (f.e ≠ 0 → f.at_ < i → (k = 30 → f.at_ < (i : Int) - 1) → (elemsQ T to (starts id i (p :: ps)) k sg f).2 = f) ∧
    (f.e = 0 → ((elemsF ((p :: ps).map (splitT 58)) i k = none ∧ (elemsQ T to (starts id i (p :: ps)) k sg f).2.e = 0 ∧ (elemsQ T to (starts id i (p :: ps)) k sg f).1 = sg ++ ((p :: ps).map (splitT 58)).map elOf) ∨
      ∃ x, elemsF ((p :: ps).map (splitT 58)) i k = some x ∧ (elemsQ T to (starts id i (p :: ps)) k sg f).2.e ≠ 0 ∧ (elemsQ T to (starts id i (p :: ps)) k sg f).2.e = x.2 ∧ (elemsQ T to (starts id i (p :: ps)) k sg f).2.at_ = x.1 ∧ x.1 < to))
  | [], p, i, k, sg, f, hf, hT, hl => by
    rw [join_one, show id p = p from rfl] at hT hl
    have hE := elT_split p
    have hne : splitT 58 p ≠ [] := by obtain ⟨a, as, h⟩ := split_cons 58 p; rw [h]; simp
    obtain ⟨h1, h2⟩ := el_step (T := T) (k := k) (i := i) (f := f) he (q := splitT 58 p) hne (by rw [hE]) (split_fit 58 p hf) (by rw [hE]; exact hf) (by rw [hE]; exact hT)
    rw [hE] at h1 h2
    have e1 : elemsQ T to (starts id i [p]) k sg f = (sg ++ [(elemQ T i (i + tlen p) (if k = 30 then worseF f ⟨(i : Int) - 1, 1, 5⟩ else f)).1], (elemQ T i (i + tlen p) (if k = 30 then worseF f ⟨(i : Int) - 1, 1, 5⟩ else f)).2) := by
      show elemsQ T to [i] k sg f = _
      rw [elemsQ_cons, show behindQ [] to = i + tlen p from hl]
      rfl
    rw [e1]
    refine ⟨h1, fun h0 => ?_⟩
    have e2 : elemsF ([p].map (splitT 58)) i k = ((if k = 30 then some ((i : Int) - 1, 5) else none : Flt1).or (partsF (splitT 58 p) i 0)) := by
      show (_ : Flt1).or none = _
      rw [Option.or_none]
    rw [e2]
    rcases h2 h0 with ⟨k1, k2, k3⟩ | ⟨x, k1, k2, k3, k4, k8⟩
    · exact .inl ⟨k1, k2, by rw [k3]; rfl⟩
    · exact .inr ⟨x, k1, k2, k3, k4, by rw [hl]; exact k8⟩
  | q :: ps, p, i, k, sg, f, hf, hT, hl => by
    obtain ⟨g1, g2, g3⟩ := drop_piece 43 id hT
    rw [show id p = p from rfl] at g1 g2 g3
    have hE := elT_split p
    have hne : splitT 58 p ≠ [] := by obtain ⟨a, as, h⟩ := split_cons 58 p; rw [h]; simp
    obtain ⟨h1, h2⟩ := el_step (T := T) (e := false) (k := k) (i := i) (f := f) (rest' := 43 :: (tb (joinT 43 id (q :: ps)) ++ rest)) (fun h => by cases h) (q := splitT 58 p) hne (by rw [hE]) (split_fit 58 p hf.1) (by rw [hE]; exact hf.1) (by rw [hE]; exact g1)
    rw [hE] at h1 h2
    have e1 : elemsQ T to (starts id i (p :: q :: ps)) k sg f = elemsQ T to (starts id (i + tlen p + 1) (q :: ps)) (k + 1) (sg ++ [(elemQ T i (i + tlen p) (if k = 30 then worseF f ⟨(i : Int) - 1, 1, 5⟩ else f)).1]) (elemQ T i (i + tlen p) (if k = 30 then worseF f ⟨(i : Int) - 1, 1, 5⟩ else f)).2 := by
      show elemsQ T to (i :: starts id (i + tlen p + 1) (q :: ps)) k sg f = _
      rw [elemsQ_cons, show behindQ (starts id (i + tlen p + 1) (q :: ps)) to = i + tlen p from by
        show i + tlen p + 1 - 1 = _
        omega]
    rw [e1]
    generalize elemQ T i (i + tlen p) (if k = 30 then worseF f ⟨(i : Int) - 1, 1, 5⟩ else f) = C at h1 h2
    obtain ⟨i1, i2⟩ := elems_toks T rest e he to ps q (i + tlen p + 1) (k + 1) (sg ++ [C.1]) C.2 hf.2 g2 (by rw [hl, g3]; omega)
    refine ⟨fun h0 ha hk => ?_, fun h0 => ?_⟩
    · have h3 := h1 h0 ha hk
      rw [h3] at i1 ⊢
      exact i1 h0 (by omega) (fun _ => by omega)
    · have e2 : elemsF ((p :: q :: ps).map (splitT 58)) i k = ((if k = 30 then some ((i : Int) - 1, 5) else none : Flt1).or (partsF (splitT 58 p) i 0)).or (elemsF ((q :: ps).map (splitT 58)) (i + tlen p + 1) (k + 1)) := by
        show (((if k = 30 then some ((i : Int) - 1, 5) else none : Flt1).or (partsF (splitT 58 p) i 0)).or (elemsF ((q :: ps).map (splitT 58)) (i + tlen (elT (splitT 58 p)) + 1) (k + 1))) = _
        rw [hE]
      rw [e2]
      rcases h2 h0 with ⟨k1, k2, k3⟩ | ⟨x, k1, k2, k3, k4, k8⟩
      · rw [k1, Option.none_or]
        rcases i2 k2 with ⟨j1, j2, j3⟩ | ⟨x, j1, j2, j3, j4, j7⟩
        · exact .inl ⟨j1, j2, by rw [j3, k3]; simp⟩
        · exact .inr ⟨x, j1, j2, j3, j4, j7⟩
      · rw [k1]
        right
        rw [i1 k2 (by omega) (fun _ => by omega)]
        exact ⟨x, rfl, k2, k3, k4, by rw [hl, g3]; omega⟩
theorem seg_toks {T rest : List UInt8} {e : Bool} (he : e = true → rest = []) {ts : List Tok} {i : Nat} (hf : Fit e ts) (hT : T.drop i = tb ts ++ rest) :
    (elemsF (cutE ts) i 0 = none ∧ (segQ T i (i + tlen ts)).2.e = 0 ∧ (segQ T i (i + tlen ts)).1 = (cutE ts).map elOf) ∨
    ∃ x, elemsF (cutE ts) i 0 = some x ∧ (segQ T i (i + tlen ts)).2.e ≠ 0 ∧ (segQ T i (i + tlen ts)).2.e = x.2 ∧ (segQ T i (i + tlen ts)).2.at_ = x.1 ∧ x.1 < (i + tlen ts : Nat) := by
  have hj := split_join 43 ts
  have hs := split_fit 43 ts hf
  have e1 : segQ T i (i + tlen ts) = elemsQ T (i + tlen ts) (starts id i (splitT 43 ts)) 0 [] flt0 := by
    unfold segQ
    rw [Nat.add_sub_cancel_left, hT, cut_toks 43 (by decide) rest _ i e hf]
  rw [e1]
  unfold cutE
  obtain ⟨p, ps, hp⟩ := split_cons 43 ts
  rw [hp] at hj hs ⊢
  have := (elems_toks T rest e he (i + tlen ts) ps p i 0 [] flt0 hs (by rw [hj]; exact hT) (by rw [hj])).2 rfl
  simpa using this
/-- the reference's answer at one segment -/
def segR (T : List UInt8) (i to : Nat) : Segm × Flt := ((segQ T i to).1, if to = T.length then worseF (segQ T i to).2 ⟨to, 5, 42⟩ else (segQ T i to).2)
/-- one segment: the reference and the machine -/
structure SegStep (T : List UInt8) (i : Nat) (r : Rd) : Prop where
  le : i ≤ i + endQ (T.drop i) ∧ i + endQ (T.drop i) ≤ T.length
  bad : (segR T i (i + endQ (T.drop i))).2.e ≠ 0 → runE (T.drop i) i r = ([], (segR T i (i + endQ (T.drop i))).2.at_, (segR T i (i + endQ (T.drop i))).2.e)
  ok : (segR T i (i + endQ (T.drop i))).2.e = 0 → i + endQ (T.drop i) < T.length ∧ ∃ r', r'.mode = 0 ∧ r'.out = r.out ++ [(segR T i (i + endQ (T.drop i))).1] ∧ runE (T.drop i) i r = runE (T.drop (i + endQ (T.drop i) + 1)) (i + endQ (T.drop i) + 1) r'
theorem seg_step {T : List UInt8} {i : Nat} {r : Rd} (h0 : r.mode = 0) (hn : r.out.length < 5000) {c : UInt8} (hc : T[i]? = some c) (hb : c.toNat ≠ 10 ∧ c.toNat ≠ 13 ∧ c.toNat ≠ 32) : SegStep T i r := by
  obtain ⟨ts, rest, e, h1, h2, h3, h4⟩ := toks _ (T.drop i) (Nat.le_refl _)
  have hi : i < T.length := (List.getElem?_eq_some_iff.1 hc).1
  have hlen : (T.drop i).length = tlen ts + rest.length := by rw [h1, List.length_append, tb_len]
  rw [List.length_drop] at hlen
  have he : e = true → rest = [] := fun h => by
    rcases h4 with h4 | h4
    · exact h4.2
    · rw [h4.1] at h; cases h
  have hfirst : ∃ c l, tb ts ++ rest = c :: l ∧ c.toNat ≠ 10 ∧ c.toNat ≠ 13 ∧ c.toNat ≠ 32 := ⟨c, T.drop (i + 1), by rw [← h1]; exact drop_at hc, hb⟩
  have hm := run_segm (i := i) h0 hn h2 h4 hfirst
  rw [← h1] at hm
  have hs := seg_toks he h2 h1
  refine ⟨⟨Nat.le_add_right _ _, by rw [h3]; omega⟩, ?_, ?_⟩
  · intro hbad
    rw [h3] at hbad ⊢
    unfold segR at hbad ⊢
    dsimp only at hbad ⊢
    rcases hs with ⟨k1, k2, k3⟩ | ⟨x, k1, k2, k3, k4, k5⟩
    · by_cases ht : i + tlen ts = T.length
      · rw [if_pos ht, worse0 k2]
        rcases hm with ⟨x, m1, _⟩ | ⟨_, ⟨m1, m2⟩ | ⟨l, r', m1, _⟩⟩
        · rw [k1] at m1; cases m1
        · exact m2
        · rw [m1, List.length_cons] at hlen; omega
      · rw [if_neg ht] at hbad
        exact absurd k2 hbad
    · have e2 : (if i + tlen ts = T.length then worseF (segQ T i (i + tlen ts)).2 ⟨((i + tlen ts : Nat) : Int), 5, 42⟩ else (segQ T i (i + tlen ts)).2) = (segQ T i (i + tlen ts)).2 := by
        split
        · exact worse1 k2 (.inr (.inl (by rw [k4]; exact k5)))
        · rfl
      rw [e2, k3, k4]
      rcases hm with ⟨y, m1, m2⟩ | ⟨m1, _⟩
      · rw [k1] at m1; cases m1; exact m2
      · rw [k1] at m1; cases m1
  · intro hok
    rw [h3] at hok ⊢
    unfold segR at hok ⊢
    dsimp only at hok ⊢
    rcases hs with ⟨k1, k2, k3⟩ | ⟨x, k1, k2, k3, k4, k5⟩
    · by_cases ht : i + tlen ts = T.length
      · rw [if_pos ht, worse0 k2] at hok
        cases hok
      · rcases hm with ⟨x, m1, _⟩ | ⟨_, ⟨m1, m2⟩ | ⟨l, r', m1, m2, m3, m4⟩⟩
        · rw [k1] at m1; cases m1
        · rw [m1, List.length_nil] at hlen; omega
        · refine ⟨by omega, r', m2, by rw [m3, k3], ?_⟩
          rw [m4]
          congr 1
          rw [Nat.add_assoc, ← List.drop_drop, h1, m1, ← tb_len, ← List.drop_drop, List.drop_left]
          rfl
    · have e2 : (if i + tlen ts = T.length then worseF (segQ T i (i + tlen ts)).2 ⟨((i + tlen ts : Nat) : Int), 5, 42⟩ else (segQ T i (i + tlen ts)).2) = (segQ T i (i + tlen ts)).2 := by
        split
        · exact worse1 k2 (.inr (.inl (by rw [k4]; exact k5)))
        · rfl
      rw [e2] at hok
      exact absurd hok k2
/-- a blank between segments -/
theorem blank_step {T : List UInt8} {i : Nat} {r : Rd} (h0 : r.mode = 0) {c : UInt8} (hc : T[i]? = some c) (hb : c.toNat = 10 ∨ c.toNat = 13 ∨ c.toNat = 32) : runE (T.drop i) i r = runE (T.drop (i + 1)) (i + 1) r := by
  rw [drop_at hc, run_cons]
  have : stepE r i c.toNat = .ok r := by
    unfold stepE btwE
    rw [if_pos h0, if_pos (by omega)]
  rw [this]
theorem end_step {T : List UInt8} {i : Nat} {r : Rd} (h0 : r.mode = 0) (hi : T.length ≤ i) : runE (T.drop i) i r = (r.out, 0, 0) := by
  rw [List.drop_eq_nil_of_le hi]
  show finE r _ = _
  unfold finE
  rw [if_neg (by omega), if_neg (by omega)]
theorem many_step {T : List UInt8} {i : Nat} {r : Rd} (h0 : r.mode = 0) (hn : r.out.length = 5000) {c : UInt8} (hc : T[i]? = some c) (hb : c.toNat ≠ 10 ∧ c.toNat ≠ 13 ∧ c.toNat ≠ 32) : runE (T.drop i) i r = ([], (i : Int), 5) := by
  rw [drop_at hc, run_cons]
  have : stepE r i c.toNat = .error ((i : Int), 5) := by
    unfold stepE btwE
    rw [if_pos h0, if_neg (by omega), if_pos hn]
  rw [this]
end Go.Proofs.YtdejcgmaphmjbaaDoor
