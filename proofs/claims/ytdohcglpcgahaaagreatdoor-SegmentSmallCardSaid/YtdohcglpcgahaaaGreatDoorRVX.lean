/-
  A segment's bytes as tokens: what the machine makes of them, and its first fault. No program in sight. What the reference makes of a segment, and that it is what the machine makes of it. No program in sight.
-/
import Derived.Test.YtdohcglpcgahaaaGreatDoorRPX
set_option linter.unusedSimpArgs false
set_option linter.unusedVariables false
namespace Go.Proofs.YtdohcglpcgahaaaGreatDoor
section
open Go Sat Go.RowKit Go.PlainAid
/-- a byte by itself, a released byte, a ? at a text's end -/
inductive Tok where
  | b (c : UInt8)
  | e (c : UInt8)
  | w
def Tok.bytes : Tok → List UInt8
  | .b c => [c]
  | .e c => [63, c]
  | .w => [63]
def Tok.len : Tok → Nat
  | .e _ => 2
  | _ => 1
theorem Tok.bytes_len (t : Tok) : t.bytes.length = t.len := by cases t <;> rfl
def tb (l : List Tok) : List UInt8 := l.flatMap Tok.bytes
def tlen : List Tok → Nat
  | [] => 0
  | t :: l => t.len + tlen l
theorem tb_len (l : List Tok) : (tb l).length = tlen l := by
  induction l with
  | nil => rfl
  | cons t l ih =>
    unfold tb at ih ⊢
    rw [List.flatMap_cons, List.length_append, ih, Tok.bytes_len]
    rfl
theorem tlen_cons (t : Tok) (l : List Tok) : tlen (t :: l) = t.len + tlen l := rfl
theorem tlen_app (l m : List Tok) : tlen (l ++ m) = tlen l + tlen m := by
  induction l with
  | nil => simp [tlen]
  | cons t l ih => rw [List.cons_append, tlen_cons, tlen_cons, ih]; omega
theorem tb_cons (t : Tok) (l : List Tok) : tb (t :: l) = t.bytes ++ tb l := List.flatMap_cons
theorem tb_app (l m : List Tok) : tb (l ++ m) = tb l ++ tb m := List.flatMap_append
/-- tokens of a segment's inside: no ' and no ? by itself; a ? at the end only where the text ends -/
def Fit (e : Bool) : List Tok → Prop
  | [] => True
  | .b c :: l => c ≠ 39 ∧ c ≠ 63 ∧ Fit e l
  | .e _ :: l => Fit e l
  | .w :: l => l = [] ∧ e = true
/-- where a segment's end is, counted from here -/
def endQ : List UInt8 → Nat
  | [] => 0
  | c :: l => if c = 39 then 0 else if c = 63 then (match l with
    | [] => 1
    | _ :: l' => 2 + endQ l') else 1 + endQ l
theorem toks : ∀ (n : Nat) (l : List UInt8), l.length ≤ n → ∃ (ts : List Tok) (rest : List UInt8) (e : Bool), l = tb ts ++ rest ∧ Fit e ts ∧ endQ l = tlen ts ∧ (e = true ∧ rest = [] ∨ e = false ∧ ∃ r, rest = 39 :: r)
  | 0, l, h => by
    obtain rfl : l = [] := List.eq_nil_of_length_eq_zero (by omega)
    exact ⟨[], [], true, rfl, trivial, rfl, .inl ⟨rfl, rfl⟩⟩
  | n + 1, [], h => ⟨[], [], true, rfl, trivial, rfl, .inl ⟨rfl, rfl⟩⟩
  | n + 1, c :: l, h => by
    rw [List.length_cons] at h
    by_cases h1 : c = 39
    · exact ⟨[], c :: l, false, rfl, trivial, by unfold endQ; rw [if_pos h1]; rfl, .inr ⟨rfl, l, by rw [h1]⟩⟩
    by_cases h2 : c = 63
    · cases l with
      | nil => exact ⟨[.w], [], true, by rw [h2]; rfl, ⟨rfl, rfl⟩, by rw [h2]; rfl, .inl ⟨rfl, rfl⟩⟩
      | cons d l' =>
        rw [List.length_cons] at h
        obtain ⟨ts, rest, e, e1, e2, e3, e4⟩ := toks n l' (by omega)
        exact ⟨.e d :: ts, rest, e, by rw [h2, tb_cons, e1]; rfl, e2, by unfold endQ; rw [if_neg h1, if_pos h2]; show 2 + endQ l' = 2 + tlen ts; rw [e3], e4⟩
    · obtain ⟨ts, rest, e, e1, e2, e3, e4⟩ := toks n l (by omega)
      exact ⟨.b c :: ts, rest, e, by rw [tb_cons, e1]; rfl, ⟨h1, h2, e2⟩, by unfold endQ; rw [if_neg h1, if_neg h2, e3]; rfl, e4⟩
/-! components -/
abbrev Flt1 := Option (Int × Int)
def Plain (by_ : UInt8 → Prop) (p : List Tok) : Prop := ∀ c, Tok.b c ∈ p → ¬ by_ c
/-- the first fault of a component's tokens from a place on, n bytes being there -/
def compF : List Tok → Nat → Nat → Flt1
  | [], _, _ => none
  | .b c :: p, i, n => if badB c = true then some ((i : Int), 40) else if n = 100 then some ((i : Int), 3) else compF p (i + 1) (n + 1)
  | .e c :: p, i, n => if ¬ (svc (c.toNat : Int) ∨ c = 32) then some ((i : Int), 41) else if n = 100 then some ((i : Int), 3) else compF p (i + 2) (n + 1)
  | .w :: _, i, _ => some ((i : Int), 41)
/-- a component's text -/
def cb : List Tok → List UInt8
  | [] => []
  | .b c :: p => c :: cb p
  | .e c :: p => c :: cb p
  | .w :: p => cb p
def after (f : Flt1) (x : Ans) : Ans := match f with
  | some e => ([], e.1, e.2)
  | none => x
theorem run_cons (b : UInt8) (l : List UInt8) (i : Nat) (r : Rd) : runE (b :: l) i r = match stepE r i b.toNat with
    | .error e => ([], e.1, e.2)
    | .ok r' => runE l (i + 1) r' := rfl
theorem run_comp {o : List Segm} {sg : Segm} {el : Elem} (rest : List UInt8) (e : Bool) (he : e = true → rest = []) : ∀ (p : List Tok) (i : Nat) (pc : List UInt8) (r : Rd), At r o sg el pc → Fit e p → Plain (fun c => c = 43 ∨ c = 58) p → pc.length ≤ 100 →
    (∃ r', At r' o sg el (pc ++ cb p) ∧ compF p i pc.length = none ∧ (pc ++ cb p).length ≤ 100 ∧ runE (tb p ++ rest) i r = runE rest (i + tlen p) r') ∨ (∃ e, compF p i pc.length = some e ∧ runE (tb p ++ rest) i r = ([], e.1, e.2))
  | [], i, pc, r, h, _, _, hl => .inl ⟨r, by rw [show cb [] = [] from rfl, List.append_nil]; exact h, rfl, by rw [show cb [] = [] from rfl, List.append_nil]; exact hl, rfl⟩
  | .b c :: p, i, pc, r, h, hf, hp, hl => by
    obtain ⟨h1, h2, h3⟩ := hf
    have h4 := hp c List.mem_cons_self
    have hp' : Plain (fun c => c = 43 ∨ c = 58) p := fun d hd => hp d (List.mem_cons_of_mem _ hd)
    have n39 : c.toNat ≠ 39 := fun e => h1 (UInt8.toNat_inj.1 e)
    have n63 : c.toNat ≠ 63 := fun e => h2 (UInt8.toNat_inj.1 e)
    have n43 : c.toNat ≠ 43 := fun e => h4 (.inl (UInt8.toNat_inj.1 e))
    have n58 : c.toNat ≠ 58 := fun e => h4 (.inr (UInt8.toNat_inj.1 e))
    rw [tb_cons, show (Tok.b c).bytes = [c] from rfl, List.singleton_append, List.cons_append, run_cons, step1 h.mode]
    unfold compF
    by_cases hb : badB c = true
    · right
      rw [if_pos hb]
      have h5 : (c.toNat : Int) < 32 ∨ 126 < (c.toNat : Int) := by
        unfold badB at hb
        have := of_decide_eq_true hb
        omega
      refine ⟨_, rfl, ?_⟩
      unfold insE
      rw [if_neg (by omega), if_neg (by omega), if_neg (by omega), if_neg (by omega), if_neg (by omega), if_pos h5]
    have hb' := badB_no (by simpa using hb : badB c = false)
    rw [if_neg hb, ins_keep (by omega) (by omega) (by unfold svc; omega)]
    by_cases hn : pc.length = 100
    · right
      rw [if_pos hn]
      refine ⟨_, rfl, ?_⟩
      unfold keepE
      rw [h.pc, if_pos hn]
    · rw [if_neg hn, keep_ok (by rw [h.pc]; omega)]
      dsimp only
      have := run_comp (o := o) (sg := sg) (el := el) rest e he p (i + 1) (pc ++ [c]) { r with pc := r.pc ++ [c], mode := 1 } ⟨rfl, h.out, h.seg, h.el, by show r.pc ++ [c] = _; rw [h.pc]⟩ h3 hp' (by rw [List.length_append, List.length_singleton]; omega)
      rw [List.length_append, List.length_singleton, List.append_assoc, List.singleton_append, show i + 1 + tlen p = i + tlen (Tok.b c :: p) from by rw [tlen_cons, show (Tok.b c).len = 1 from rfl]; omega] at this
      exact this
  | .e c :: p, i, pc, r, h, hf, hp, hl => by
    have hp' : Plain (fun c => c = 43 ∨ c = 58) p := fun d hd => hp d (List.mem_cons_of_mem _ hd)
    rw [tb_cons, show (Tok.e c).bytes = [63, c] from rfl, List.cons_append, List.cons_append, run_cons, step1 h.mode, show (((63 : UInt8).toNat : Nat) : Int) = 63 from rfl, ins_rel]
    dsimp only
    rw [show ([c] ++ tb p ++ rest) = c :: (tb p ++ rest) from rfl, run_cons, step2 rfl]
    unfold compF
    by_cases hs : ¬ (svc (c.toNat : Int) ∨ c = 32)
    · right
      rw [if_pos hs]
      refine ⟨_, rfl, ?_⟩
      have h5 : (c.toNat : Int) ≠ 32 ∧ ¬ svc (c.toNat : Int) := ⟨fun e => hs (.inr (UInt8.toNat_inj.1 (by rw [show (32 : UInt8).toNat = 32 from rfl]; omega))), fun e => hs (.inl e)⟩
      unfold relE
      rw [if_pos h5]
    have h5 : ¬ ((c.toNat : Int) ≠ 32 ∧ ¬ svc (c.toNat : Int)) := by
      rintro ⟨e1, e2⟩
      rcases Classical.not_not.1 hs with h5 | h5
      · exact e2 h5
      · exact e1 (by rw [h5]; rfl)
    unfold relE
    rw [if_neg hs, if_neg h5]
    by_cases hn : pc.length = 100
    · right
      rw [if_pos hn]
      refine ⟨_, rfl, ?_⟩
      unfold keepE
      rw [if_pos (by show r.pc.length = 100; rw [h.pc]; exact hn)]
    · rw [if_neg hn, keep_ok (by show r.pc.length < 100; rw [h.pc]; omega)]
      dsimp only
      have := run_comp (o := o) (sg := sg) (el := el) rest e he p (i + 2) (pc ++ [c]) { r with pc := r.pc ++ [c], mode := 1, mark := (i : Int) } ⟨rfl, h.out, h.seg, h.el, by show r.pc ++ [c] = _; rw [h.pc]⟩ hf hp' (by rw [List.length_append, List.length_singleton]; omega)
      rw [List.length_append, List.length_singleton, List.append_assoc, List.singleton_append, show i + 2 + tlen p = i + tlen (Tok.e c :: p) from by rw [tlen_cons, show (Tok.e c).len = 2 from rfl]; omega] at this
      exact this
  | .w :: p, i, pc, r, h, hf, hp, hl => by
    obtain ⟨rfl, hf⟩ := hf
    obtain rfl := he hf
    right
    refine ⟨_, rfl, ?_⟩
    rw [List.append_nil, tb_cons, show (Tok.w).bytes = [63] from rfl, show [63] ++ tb [] = 63 :: [] from rfl, run_cons, step1 h.mode, show (((63 : UInt8).toNat : Nat) : Int) = 63 from rfl, ins_rel]
    rfl
/-! elements -/
def joinT {α : Type} (c : UInt8) (f : α → List Tok) : List α → List Tok
  | [] => []
  | x :: l => f x ++ l.flatMap fun y => .b c :: f y
def partsF : List (List Tok) → Nat → Nat → Flt1
  | [], _, _ => none
  | p :: ps, i, k => ((if k = 10 then some ((i : Int) - 1, 5) else none : Flt1).or (compF p i 0)).or (partsF ps (i + tlen p + 1) (k + 1))
/-- the pieces of a cut; a ? at the end only in the last one -/
def FitP (e : Bool) : List (List Tok) → Prop
  | [] => True
  | [p] => Fit e p
  | p :: q :: ps => Fit false p ∧ FitP e (q :: ps)
abbrev PlainC : List Tok → Prop := Plain fun c => c = 43 ∨ c = 58
theorem run_parts {o : List Segm} {sg : Segm} (rest : List UInt8) (e : Bool) (he : e = true → rest = []) : ∀ (ps : List (List Tok)) (p : List Tok) (i : Nat) (el : Elem) (r : Rd), At r o sg el [] → el.length ≤ 9 → (∀ q ∈ p :: ps, PlainC q) → FitP e (p :: ps) →
    (∃ r' el' pc', At r' o sg el' pc' ∧ el' ++ [ba pc'] = el ++ (p :: ps).map (fun p => ba (cb p)) ∧ (el'.length ≤ 9 ∧ pc'.length ≤ 100) ∧ partsF (p :: ps) i el.length = none ∧ runE (tb (joinT 58 id (p :: ps)) ++ rest) i r = runE rest (i + tlen (joinT 58 id (p :: ps))) r') ∨ (∃ x, partsF (p :: ps) i el.length = some x ∧ runE (tb (joinT 58 id (p :: ps)) ++ rest) i r = ([], x.1, x.2))
  | [], p, i, el, r, h, hl, hp, hx => by
    have h1 := run_comp rest e he p i [] r h hx (hp p List.mem_cons_self) (by simp)
    rw [show joinT 58 id [p] = p from by simp [joinT]]
    unfold partsF partsF
    rw [if_neg (by omega)]
    rcases h1 with ⟨r', h2, h3, h4, h5⟩ | ⟨x, h3, h5⟩
    · left
      refine ⟨r', el, cb p, by simpa using h2, by simp, ⟨hl, by simpa using h4⟩, ?_, h5⟩
      show ((none : Flt1).or (compF p i 0)).or none = none
      rw [show compF p i 0 = none from h3]
      rfl
    · right
      refine ⟨x, ?_, h5⟩
      show ((none : Flt1).or (compF p i 0)).or none = some x
      rw [show compF p i 0 = some x from h3]
      rfl
  | q :: ps, p, i, el, r, h, hl, hp, hx => by
    have ej : joinT 58 id (p :: q :: ps) = p ++ (.b 58 :: joinT 58 id (q :: ps)) := by simp [joinT]
    have h1 := run_comp (58 :: (tb (joinT 58 id (q :: ps)) ++ rest)) false (fun h => by cases h) p i [] r h hx.1 (hp p List.mem_cons_self) (by simp)
    rw [ej, tb_app, tb_cons, show (Tok.b 58).bytes = [58] from rfl, List.append_assoc, List.singleton_append, List.cons_append, tlen_app]
    unfold partsF
    rw [if_neg (by omega)]
    rcases h1 with ⟨r', h2, h3, h4, h5⟩ | ⟨x, h3, h5⟩
    · rw [h5, run_cons, step1 h2.mode, show (((58 : UInt8).toNat : Nat) : Int) = 58 from rfl, show compF p i 0 = none from h3]
      show (∃ r' el' pc', _ ∧ _ ∧ _ ∧ partsF (q :: ps) (i + tlen p + 1) (el.length + 1) = none ∧ _) ∨ (∃ x, partsF (q :: ps) (i + tlen p + 1) (el.length + 1) = some x ∧ _)
      by_cases h9 : el.length = 9
      · right
        refine ⟨(((i + tlen p : Nat) : Int), 5), ?_, ?_⟩
        · unfold partsF
          rw [if_pos (by omega)]
          show some _ = some _
          congr 2
          omega
        · unfold insE
          rw [if_neg (by omega), if_neg (by omega), if_pos ⟨rfl, by rw [h2.el]; exact h9⟩]
      · have hi : insE r' ((i + tlen p : Nat) : Int) 58 = .ok { r' with el := r'.el ++ [ba r'.pc], pc := [], mode := 1 } := by
          unfold insE
          rw [if_neg (by omega), if_neg (by omega), if_neg (by rw [h2.el]; omega), if_neg (by omega), if_pos rfl]
        rw [hi]
        dsimp only
        have h6 := run_parts (o := o) (sg := sg) rest e he ps q (i + tlen p + 1) (el ++ [ba (cb p)]) { r' with el := r'.el ++ [ba r'.pc], pc := [], mode := 1 } ⟨rfl, h2.out, h2.seg, by show r'.el ++ [ba r'.pc] = _; rw [h2.el, h2.pc]; rfl, rfl⟩ (by rw [List.length_append, List.length_singleton]; omega) (fun x hx => hp x (List.mem_cons_of_mem _ hx)) hx.2
        rw [List.length_append, List.length_singleton] at h6
        rw [show i + (tlen p + tlen (Tok.b 58 :: joinT 58 id (q :: ps))) = i + tlen p + 1 + tlen (joinT 58 id (q :: ps)) from by
          show i + (tlen p + (1 + tlen (joinT 58 id (q :: ps)))) = _
          omega]
        rcases h6 with ⟨r2, el2, pc2, k1, k2, k3, k4, k5⟩ | h6
        · left
          exact ⟨r2, el2, pc2, k1, by rw [k2]; simp, k3, k4, k5⟩
        · exact .inr h6
    · right
      refine ⟨x, ?_, h5⟩
      show ((none : Flt1).or (compF p i 0)).or _ = some x
      rw [show compF p i 0 = some x from h3]
      rfl
/-! segments -/
abbrev El := List (List Tok)
def elT (e : El) : List Tok := joinT 58 id e
def sgT (es : List El) : List Tok := joinT 43 elT es
def elemsF : List El → Nat → Nat → Flt1
  | [], _, _ => none
  | e :: es, i, k => ((if k = 30 then some ((i : Int) - 1, 5) else none : Flt1).or (partsF e i 0)).or (elemsF es (i + tlen (elT e) + 1) (k + 1))
def FitE (e : Bool) : List El → Prop
  | [] => True
  | [p] => FitP e p
  | p :: q :: ps => FitP false p ∧ FitE e (q :: ps)
def elOf (e : El) : Elem := e.map fun p => ba (cb p)
theorem run_elems {o : List Segm} (rest : List UInt8) (e : Bool) (he : e = true → rest = []) : ∀ (ps : List El) (p : El) (i : Nat) (sg : Segm) (r : Rd), At r o sg [] [] → sg.length ≤ 29 → (∀ q ∈ p :: ps, q ≠ [] ∧ ∀ x ∈ q, PlainC x) → FitE e (p :: ps) →
    (∃ r' sg' el' pc', At r' o sg' el' pc' ∧ sg' ++ [el' ++ [ba pc']] = sg ++ (p :: ps).map elOf ∧ elemsF (p :: ps) i sg.length = none ∧ runE (tb (sgT (p :: ps)) ++ rest) i r = runE rest (i + tlen (sgT (p :: ps))) r') ∨ (∃ x, elemsF (p :: ps) i sg.length = some x ∧ runE (tb (sgT (p :: ps)) ++ rest) i r = ([], x.1, x.2))
  | [], p, i, sg, r, h, hl, hp, hx => by
    obtain ⟨hn, hpl⟩ := hp p List.mem_cons_self
    cases p with
    | nil => exact absurd rfl hn
    | cons p1 p2 =>
      have h1 := run_parts (o := o) (sg := sg) rest e he p2 p1 i [] r h (by simp) hpl hx
      rw [show sgT [p1 :: p2] = joinT 58 id (p1 :: p2) from by simp [sgT, joinT, elT]]
      unfold elemsF elemsF
      rw [if_neg (by omega), Option.none_or]
      rcases h1 with ⟨r', el', pc', h2, h3, h4, h5, h6⟩ | ⟨x, h3, h5⟩
      · left
        refine ⟨r', sg, el', pc', h2, by rw [h3]; rfl, ?_, h6⟩
        rw [show partsF (p1 :: p2) i 0 = none from h5]
        rfl
      · right
        refine ⟨x, ?_, h5⟩
        rw [show partsF (p1 :: p2) i 0 = some x from h3]
        rfl
  | q :: ps, p, i, sg, r, h, hl, hp, hx => by
    obtain ⟨hn, hpl⟩ := hp p List.mem_cons_self
    cases p with
    | nil => exact absurd rfl hn
    | cons p1 p2 =>
      have ej : sgT ((p1 :: p2) :: q :: ps) = elT (p1 :: p2) ++ (.b 43 :: sgT (q :: ps)) := by simp [sgT, joinT]
      have h1 := run_parts (o := o) (sg := sg) (43 :: (tb (sgT (q :: ps)) ++ rest)) false (fun h => by cases h) p2 p1 i [] r h (by simp) hpl hx.1
      rw [ej, tb_app, tb_cons, show (Tok.b 43).bytes = [43] from rfl, List.append_assoc, List.singleton_append, List.cons_append, tlen_app]
      unfold elemsF
      rw [if_neg (by omega), Option.none_or]
      rcases h1 with ⟨r', el', pc', h2, h3, ⟨h4, h4'⟩, h5, h6⟩ | ⟨x, h3, h5⟩
      · rw [show runE (tb (elT (p1 :: p2)) ++ 43 :: (tb (sgT (q :: ps)) ++ rest)) i r = _ from h6, run_cons, step1 h2.mode, show (((43 : UInt8).toNat : Nat) : Int) = 43 from rfl, show partsF (p1 :: p2) i 0 = none from h5, Option.none_or]
        by_cases h9 : sg.length = 29
        · right
          refine ⟨(((i + tlen (elT (p1 :: p2)) : Nat) : Int), 5), ?_, ?_⟩
          · unfold elemsF
            rw [if_pos (by omega)]
            show some _ = some _
            congr 2
            omega
          · unfold insE
            rw [if_neg (by omega), if_pos ⟨rfl, by rw [h2.seg]; exact h9⟩]
            rfl
        · have hi : insE r' ((i + tlen (elT (p1 :: p2)) : Nat) : Int) 43 = .ok { r' with seg := r'.seg ++ [r'.el ++ [ba r'.pc]], el := [], pc := [], mode := 1 } := by
            unfold insE
            rw [if_neg (by omega), if_neg (by rw [h2.seg]; omega), if_neg (by omega), if_pos rfl]
          have h7 := run_elems (o := o) rest e he ps q (i + tlen (elT (p1 :: p2)) + 1) (sg ++ [elOf (p1 :: p2)]) { r' with seg := r'.seg ++ [r'.el ++ [ba r'.pc]], el := [], pc := [], mode := 1 } ⟨rfl, h2.out, by show r'.seg ++ [r'.el ++ [ba r'.pc]] = _; rw [h2.seg, h2.el, h2.pc, h3]; rfl, rfl, rfl⟩ (by rw [List.length_append, List.length_singleton]; omega) (fun x hx => hp x (List.mem_cons_of_mem _ hx)) hx.2
          rw [List.length_append, List.length_singleton] at h7
          rw [show insE r' ((i + tlen (joinT 58 id (p1 :: p2)) : Nat) : Int) 43 = _ from hi]
          dsimp only
          rw [show i + (tlen (elT (p1 :: p2)) + tlen (Tok.b 43 :: sgT (q :: ps))) = i + tlen (elT (p1 :: p2)) + 1 + tlen (sgT (q :: ps)) from by
            rw [tlen_cons, show (Tok.b 43).len = 1 from rfl]
            omega]
          rcases h7 with ⟨r2, sg2, el2, pc2, k1, k2, k3, k4⟩ | h7
          · left
            exact ⟨r2, sg2, el2, pc2, k1, by rw [k2]; simp, k3, k4⟩
          · exact .inr h7
      · right
        refine ⟨x, ?_, h5⟩
        rw [show partsF (p1 :: p2) i 0 = some x from h3]
        rfl
/-! splitting -/
def splitT (c : UInt8) : List Tok → List (List Tok)
  | [] => [[]]
  | .b d :: l => if d = c then [] :: splitT c l else (match splitT c l with
    | [] => [[.b d]]
    | p :: ps => (.b d :: p) :: ps)
  | t :: l => (match splitT c l with
    | [] => [[t]]
    | p :: ps => (t :: p) :: ps)
theorem split_cons (c : UInt8) (l : List Tok) : ∃ p ps, splitT c l = p :: ps := by
  cases l with
  | nil => exact ⟨_, _, rfl⟩
  | cons t l =>
    cases t <;> unfold splitT <;> (try split) <;> (try (split <;> exact ⟨_, _, rfl⟩)) <;> exact ⟨_, _, rfl⟩
theorem split_b (c d : UInt8) (l : List Tok) : splitT c (.b d :: l) = if d = c then [] :: splitT c l else ((.b d :: (splitT c l).headD []) :: (splitT c l).tail) := by
  obtain ⟨p, ps, h⟩ := split_cons c l
  show (if d = c then [] :: splitT c l else (match splitT c l with
    | [] => [[.b d]]
    | p :: ps => (.b d :: p) :: ps)) = _
  rw [h]
  rfl
theorem split_o (c : UInt8) (t : Tok) (ht : ∀ d, t ≠ .b d) (l : List Tok) : splitT c (t :: l) = ((t :: (splitT c l).headD []) :: (splitT c l).tail) := by
  obtain ⟨p, ps, h⟩ := split_cons c l
  cases t with
  | b d => exact absurd rfl (ht d)
  | e d =>
    show (match splitT c l with
    | [] => [[Tok.e d]]
    | p :: ps => (.e d :: p) :: ps) = _
    rw [h]; rfl
  | w =>
    show (match splitT c l with
    | [] => [[Tok.w]]
    | p :: ps => (.w :: p) :: ps) = _
    rw [h]; rfl
theorem split_join (c : UInt8) : ∀ l : List Tok, joinT c id (splitT c l) = l
  | [] => rfl
  | t :: l => by
    have ih := split_join c l
    obtain ⟨p, ps, h⟩ := split_cons c l
    rw [h] at ih
    cases t with
    | b d =>
      rw [split_b, h]
      by_cases hd : d = c
      · rw [if_pos hd, hd]
        rw [← ih]
        simp [joinT]
      · rw [if_neg hd]
        rw [← ih]
        simp [joinT]
    | e d =>
      rw [split_o c _ (fun d h => by cases h), h, ← ih]
      simp [joinT]
    | w =>
      rw [split_o c _ (fun d h => by cases h), h, ← ih]
      simp [joinT]
theorem split_plain (c : UInt8) : ∀ l : List Tok, ∀ p ∈ splitT c l, (∀ d, Tok.b d ∈ p → d ≠ c ∧ Tok.b d ∈ l)
  | [], p, hp, d, hd => by
    rw [show splitT c [] = [[]] from rfl, List.mem_singleton] at hp
    subst hp
    cases hd
  | t :: l, p, hp, d, hd => by
    have ih := split_plain c l
    obtain ⟨q, qs, h⟩ := split_cons c l
    have go : p ∈ ((t :: q) :: qs) → (t = .b d → d ≠ c) → d ≠ c ∧ Tok.b d ∈ t :: l := by
      intro hp ht
      rcases List.mem_cons.1 hp with rfl | hp
      · rcases List.mem_cons.1 hd with hd | hd
        · exact ⟨ht hd.symm, by rw [hd]; exact List.mem_cons_self⟩
        · have := ih q (by rw [h]; exact List.mem_cons_self) d hd
          exact ⟨this.1, List.mem_cons_of_mem _ this.2⟩
      · have := ih p (by rw [h]; exact List.mem_cons_of_mem _ hp) d hd
        exact ⟨this.1, List.mem_cons_of_mem _ this.2⟩
    cases t with
    | b x =>
      rw [split_b, h] at hp
      by_cases hx : x = c
      · rw [if_pos hx] at hp
        rcases List.mem_cons.1 hp with rfl | hp
        · cases hd
        · have := ih p (by rw [h]; exact hp) d hd
          exact ⟨this.1, List.mem_cons_of_mem _ this.2⟩
      · rw [if_neg hx] at hp
        exact go hp (fun e => by cases e; exact hx)
    | e x =>
      rw [split_o c _ (fun d h => by cases h), h] at hp
      exact go hp (fun e => by cases e)
    | w =>
      rw [split_o c _ (fun d h => by cases h), h] at hp
      exact go hp (fun e => by cases e)
theorem split_fit (c : UInt8) {e : Bool} : ∀ l : List Tok, Fit e l → FitP e (splitT c l)
  | [], h => trivial
  | .b d :: l, h => by
    have ih := split_fit c l h.2.2
    obtain ⟨q, qs, hq⟩ := split_cons c l
    rw [split_b, hq]
    rw [hq] at ih
    by_cases hd : d = c
    · rw [if_pos hd]
      exact ⟨trivial, ih⟩
    · rw [if_neg hd]
      cases qs with
      | nil => exact ⟨h.1, h.2.1, ih⟩
      | cons x xs => exact ⟨⟨h.1, h.2.1, ih.1⟩, ih.2⟩
  | .e d :: l, h => by
    have ih := split_fit c l h
    obtain ⟨q, qs, hq⟩ := split_cons c l
    rw [split_o c _ (fun d h => by cases h), hq]
    rw [hq] at ih
    cases qs with
    | nil => exact ih
    | cons x xs => exact ⟨ih.1, ih.2⟩
  | .w :: l, h => by
    obtain ⟨rfl, h⟩ := h
    exact ⟨rfl, h⟩
/-- a segment's tokens as elements and components -/
def cutE (l : List Tok) : List El := (splitT 43 l).map (splitT 58)
theorem elT_split (l : List Tok) : elT (splitT 58 l) = l := split_join 58 l
theorem cutE_join (l : List Tok) : sgT (cutE l) = l := by
  have h := split_join 43 l
  unfold cutE sgT
  obtain ⟨p, ps, hp⟩ := split_cons 43 l
  rw [hp] at h ⊢
  rw [← h]
  simp only [joinT, List.map_cons, elT_split, id, List.flatMap_map]
theorem cutE_fit {e : Bool} {l : List Tok} (h : Fit e l) : FitE e (cutE l) := by
  have h1 := split_fit 43 l h
  unfold cutE
  generalize splitT 43 l = L at h1
  induction L with
  | nil => trivial
  | cons p L ih =>
    cases L with
    | nil => exact split_fit 58 p h1
    | cons q L => exact ⟨split_fit 58 p h1.1, ih h1.2⟩
theorem cutE_plain (l : List Tok) : ∀ q ∈ cutE l, q ≠ [] ∧ ∀ x ∈ q, PlainC x := by
  intro q hq
  obtain ⟨p, hp, rfl⟩ := List.mem_map.1 hq
  obtain ⟨a, as, ha⟩ := split_cons 58 p
  refine ⟨by rw [ha]; simp, fun x hx d hd hc => ?_⟩
  have h1 := split_plain 58 p x hx d hd
  have h2 := split_plain 43 l p hp d h1.2
  rcases hc with hc | hc
  · exact h2.1 hc
  · exact h1.1 hc
theorem cutE_cons (l : List Tok) : ∃ p ps, cutE l = p :: ps := by
  obtain ⟨p, ps, h⟩ := split_cons 43 l
  exact ⟨_, _, by unfold cutE; rw [h]; rfl⟩
/-- a segment from its first byte on -/
theorem run_segm {rest : List UInt8} {e : Bool} {ts : List Tok} {r : Rd} {i : Nat} (h0 : r.mode = 0) (hn : r.out.length < 5000) (hf : Fit e ts) (he : e = true ∧ rest = [] ∨ e = false ∧ ∃ l, rest = 39 :: l) (hb : ∃ c l, tb ts ++ rest = c :: l ∧ c.toNat ≠ 10 ∧ c.toNat ≠ 13 ∧ c.toNat ≠ 32) :
    (∃ x, elemsF (cutE ts) i 0 = some x ∧ runE (tb ts ++ rest) i r = ([], x.1, x.2)) ∨ (elemsF (cutE ts) i 0 = none ∧ ((rest = [] ∧ runE (tb ts ++ rest) i r = ([], ((i + tlen ts : Nat) : Int), 42)) ∨ ∃ l r', rest = 39 :: l ∧ r'.mode = 0 ∧ r'.out = r.out ++ [(cutE ts).map elOf] ∧ runE (tb ts ++ rest) i r = runE l (i + tlen ts + 1) r')) := by
  obtain ⟨c, l, hc, hb⟩ := hb
  have hfr : runE (tb ts ++ rest) i r = runE (tb ts ++ rest) i { r with seg := [], el := [], pc := [], mode := 1 } := by
    rw [hc, run_cons, run_cons, btw_fresh h0 hn (by omega)]
  rw [hfr]
  obtain ⟨p, ps, hp⟩ := cutE_cons ts
  have h1 := run_elems (o := r.out) rest e (fun h => by rcases he with he | he; exact he.2; rw [he.1] at h; cases h) ps p i [] { r with seg := [], el := [], pc := [], mode := 1 } ⟨rfl, rfl, rfl, rfl, rfl⟩ (by simp) (by rw [← hp]; exact cutE_plain ts) (by rw [← hp]; exact cutE_fit hf)
  rw [← hp, cutE_join, List.length_nil] at h1
  rcases h1 with ⟨r', sg', el', pc', k1, k2, k3, k4⟩ | h1
  · right
    refine ⟨k3, ?_⟩
    rcases he with ⟨rfl, rfl⟩ | ⟨rfl, l, rfl⟩
    · left
      refine ⟨rfl, ?_⟩
      rw [k4]
      show finE r' _ = _
      unfold finE
      rw [if_neg (by rw [k1.mode]; omega), if_pos k1.mode]
    · right
      obtain ⟨r2, h4, h5, h6⟩ := goes_end k1 (i + tlen ts)
      refine ⟨l, r2, rfl, h5, by rw [h6, k2]; rfl, ?_⟩
      rw [k4, show 39 :: l = [39] ++ l from rfl, runE_append, h4]
      rfl
  · exact .inl h1
end
section
open Go Sat Go.RowKit Go.PlainAid
structure Flt where
  at_ : Int
  rank : Int
  e : Int
def flt0 : Flt := ⟨0, 0, 0⟩
def worseC (a b : Flt) : Prop := a.e = 0 ∨ (b.e ≠ 0 ∧ (b.at_ < a.at_ ∨ (b.at_ = a.at_ ∧ b.rank < a.rank)))
instance (a b : Flt) : Decidable (worseC a b) := inferInstanceAs (Decidable (_ ∨ _))
def worseF (a b : Flt) : Flt := if worseC a b then b else a
theorem worse0 {a b : Flt} (h : a.e = 0) : worseF a b = b := if_pos (.inl h)
theorem worse1 {a b : Flt} (h : a.e ≠ 0) (hb : b.e = 0 ∨ a.at_ < b.at_ ∨ (a.at_ = b.at_ ∧ a.rank ≤ b.rank)) : worseF a b = a := by
  unfold worseF
  refine if_neg ?_
  unfold worseC
  omega
/-- where a cut's parts begin, behind the first one -/
def cutQ (by_ : UInt8) : Nat → List UInt8 → Nat → List Nat
  | _, [], _ => []
  | n, c :: l, i => if n = 0 then [] else if c = 63 then (match l with
    | [] => []
    | _ :: l' => cutQ by_ (n - 2) l' (i + 2)) else if c = by_ then (i + 1) :: cutQ by_ (n - 1) l (i + 1) else cutQ by_ (n - 1) l (i + 1)
/-- a component's text and first fault: n bytes of a list from place i on -/
def compQ : Nat → List UInt8 → Nat → List UInt8 → Flt → List UInt8 × Flt
  | _, [], _, out, f => (out, f)
  | n, c :: l, i, out, f => if n = 0 then (out, f) else if c = 63 then (match l with
    | [] => (out, worseF f ⟨i, 3, 41⟩)
    | d :: l' => if ¬ (svc (d.toNat : Int) ∨ d = 32) then compQ (n - 2) l' (i + 2) out (worseF f ⟨i, 3, 41⟩) else compQ (n - 2) l' (i + 2) (out ++ [d]) (if out.length = 100 then worseF f ⟨i, 4, 3⟩ else f))
    else compQ (n - 1) l (i + 1) (out ++ [c]) (if out.length = 100 then worseF (if badB c = true then worseF f ⟨i, 2, 40⟩ else f) ⟨i, 4, 3⟩ else (if badB c = true then worseF f ⟨i, 2, 40⟩ else f))
def behindQ (ps : List Nat) (last : Nat) : Nat := match ps with
  | [] => last
  | q :: _ => q - 1
def partsQ (T : List UInt8) (last : Nat) : List Nat → Nat → Elem → Flt → Elem × Flt
  | [], _, el, f => (el, f)
  | p :: ps, k, el, f => partsQ T last ps (k + 1) (el ++ [ba (compQ (behindQ ps last - p) (T.drop p) p [] flt0).1]) (worseF (if k = 10 then worseF f ⟨(p : Int) - 1, 1, 5⟩ else f) (compQ (behindQ ps last - p) (T.drop p) p [] flt0).2)
def elemQ (T : List UInt8) (p last : Nat) (f : Flt) : Elem × Flt := partsQ T last (p :: cutQ 58 (last - p) (T.drop p) p) 0 [] f
def elemsQ (T : List UInt8) (to : Nat) : List Nat → Nat → Segm → Flt → Segm × Flt
  | [], _, sg, f => (sg, f)
  | p :: ps, i, sg, f => elemsQ T to ps (i + 1) (sg ++ [(elemQ T p (behindQ ps to) (if i = 30 then worseF f ⟨(p : Int) - 1, 1, 5⟩ else f)).1]) (elemQ T p (behindQ ps to) (if i = 30 then worseF f ⟨(p : Int) - 1, 1, 5⟩ else f)).2
def segQ (T : List UInt8) (from_ to : Nat) : Segm × Flt := elemsQ T to (from_ :: cutQ 43 (to - from_) (T.drop from_) from_) 0 [] flt0
theorem cutQ_zero (c : UInt8) (l : List UInt8) (i : Nat) : cutQ c 0 l i = [] := by
  cases l with
  | nil => unfold cutQ; rfl
  | cons b l => unfold cutQ; rw [if_pos rfl]
theorem cutQ_b (c : UInt8) {d : UInt8} (hd : d ≠ 63) (n : Nat) (l : List UInt8) (i : Nat) : cutQ c (1 + n) (d :: l) i = if d = c then (i + 1) :: cutQ c n l (i + 1) else cutQ c n l (i + 1) := by
  conv => lhs; unfold cutQ
  rw [if_neg (by omega), if_neg hd, Nat.add_sub_cancel_left]
theorem cutQ_e (c d : UInt8) (n : Nat) (l : List UInt8) (i : Nat) : cutQ c (2 + n) (63 :: d :: l) i = cutQ c n l (i + 2) := by
  conv => lhs; unfold cutQ
  rw [if_neg (by omega), if_pos rfl]
  show cutQ c (2 + n - 2) l (i + 2) = _
  rw [Nat.add_sub_cancel_left]
theorem cutQ_w (c : UInt8) (l : List UInt8) (i : Nat) : cutQ c 1 (63 :: l) i = [] := by
  unfold cutQ
  rw [if_neg (by omega), if_pos rfl]
  cases l with
  | nil => rfl
  | cons b l => exact cutQ_zero c l _
theorem compQ_zero (l : List UInt8) (i : Nat) (out : List UInt8) (f : Flt) : compQ 0 l i out f = (out, f) := by
  cases l with
  | nil => unfold compQ; rfl
  | cons b l => unfold compQ; rw [if_pos rfl]
theorem compQ_b {c : UInt8} (hd : c ≠ 63) (n : Nat) (l : List UInt8) (i : Nat) (out : List UInt8) (f : Flt) : compQ (1 + n) (c :: l) i out f = compQ n l (i + 1) (out ++ [c]) (if out.length = 100 then worseF (if badB c = true then worseF f ⟨i, 2, 40⟩ else f) ⟨i, 4, 3⟩ else (if badB c = true then worseF f ⟨i, 2, 40⟩ else f)) := by
  conv => lhs; unfold compQ
  rw [if_neg (by omega), if_neg hd, Nat.add_sub_cancel_left]
theorem compQ_e (d : UInt8) (n : Nat) (l : List UInt8) (i : Nat) (out : List UInt8) (f : Flt) : compQ (2 + n) (63 :: d :: l) i out f = if ¬ (svc (d.toNat : Int) ∨ d = 32) then compQ n l (i + 2) out (worseF f ⟨i, 3, 41⟩) else compQ n l (i + 2) (out ++ [d]) (if out.length = 100 then worseF f ⟨i, 4, 3⟩ else f) := by
  conv => lhs; unfold compQ
  rw [if_neg (by omega), if_pos rfl]
  show (if ¬ (svc (d.toNat : Int) ∨ d = 32) then compQ (2 + n - 2) l (i + 2) out (worseF f ⟨i, 3, 41⟩) else compQ (2 + n - 2) l (i + 2) (out ++ [d]) (if out.length = 100 then worseF f ⟨i, 4, 3⟩ else f)) = _
  rw [Nat.add_sub_cancel_left]
theorem compQ_w (n i : Nat) (out : List UInt8) (f : Flt) : compQ (n + 1) [63] i out f = (out, worseF f ⟨i, 3, 41⟩) := by
  unfold compQ
  rw [if_neg (by omega), if_pos rfl]
/-! tokens -/
def starts {α : Type} (f : α → List Tok) : Nat → List α → List Nat
  | _, [] => []
  | i, p :: ps => i :: starts f (i + tlen (f p) + 1) ps
theorem cut_toks (c : UInt8) (hc : c ≠ 63) (rest : List UInt8) : ∀ (l : List Tok) (i : Nat) (e : Bool), Fit e l → i :: cutQ c (tlen l) (tb l ++ rest) i = starts id i (splitT c l)
  | [], i, e, _ => by
    rw [show tlen [] = 0 from rfl, cutQ_zero]
    rfl
  | .b d :: l, i, e, h => by
    have ih := cut_toks c hc rest l (i + 1) e h.2.2
    obtain ⟨q, qs, hq⟩ := split_cons c l
    rw [tb_cons, show (Tok.b d).bytes = [d] from rfl, List.singleton_append, List.cons_append, tlen_cons, show (Tok.b d).len = 1 from rfl, split_b, hq]
    rw [hq] at ih
    rw [cutQ_b c h.2.1]
    unfold starts at ih
    by_cases hd : d = c
    · rw [if_pos hd, if_pos hd, ih]
      rfl
    · rw [if_neg hd, if_neg hd]
      rw [(List.cons.inj ih).2]
      show i :: starts id (i + 1 + tlen q + 1) qs = i :: starts id (i + tlen (Tok.b d :: q) + 1) qs
      rw [tlen_cons, show (Tok.b d).len = 1 from rfl, ← Nat.add_assoc]
  | .e d :: l, i, e, h => by
    have ih := cut_toks c hc rest l (i + 2) e h
    obtain ⟨q, qs, hq⟩ := split_cons c l
    rw [tb_cons, show (Tok.e d).bytes = [63, d] from rfl, List.cons_append, List.cons_append, tlen_cons, show (Tok.e d).len = 2 from rfl, split_o c _ (fun d h => by cases h), hq]
    rw [hq] at ih
    show i :: cutQ c (2 + tlen l) (63 :: d :: (tb l ++ rest)) i = _
    rw [cutQ_e]
    unfold starts at ih
    rw [(List.cons.inj ih).2]
    show i :: starts id (i + 2 + tlen q + 1) qs = i :: starts id (i + tlen (Tok.e d :: q) + 1) qs
    rw [tlen_cons, show (Tok.e d).len = 2 from rfl, ← Nat.add_assoc]
  | .w :: l, i, e, h => by
    obtain ⟨rfl, he⟩ := h
    show i :: cutQ c 1 (63 :: rest) i = _
    rw [cutQ_w]
    rfl
theorem comp_toks (rest : List UInt8) (e : Bool) (he : e = true → rest = []) : ∀ (p : List Tok) (i : Nat) (out : List UInt8) (f : Flt), Fit e p →
    (f.e ≠ 0 → f.at_ < i → (compQ (tlen p) (tb p ++ rest) i out f).2 = f) ∧
    (f.e = 0 → out.length ≤ 100 → ((compF p i out.length = none ∧ (compQ (tlen p) (tb p ++ rest) i out f).2.e = 0 ∧ (compQ (tlen p) (tb p ++ rest) i out f).1 = out ++ cb p) ∨ ∃ x, compF p i out.length = some x ∧ (compQ (tlen p) (tb p ++ rest) i out f).2.e ≠ 0 ∧ (compQ (tlen p) (tb p ++ rest) i out f).2.e = x.2 ∧ (compQ (tlen p) (tb p ++ rest) i out f).2.at_ = x.1 ∧ (i : Int) ≤ x.1 ∧ x.1 < (i + tlen p : Nat)))
  | [], i, out, f, _ => by
    have e1 : compQ (tlen []) (tb [] ++ rest) i out f = (out, f) := compQ_zero _ _ _ _
    rw [e1]
    exact ⟨fun _ _ => rfl, fun h _ => .inl ⟨rfl, h, by simp [cb]⟩⟩
  | .b c :: p, i, out, f, h => by
    obtain ⟨ih1, ih2⟩ := comp_toks rest e he p (i + 1) (out ++ [c]) (if out.length = 100 then worseF (if badB c = true then worseF f ⟨i, 2, 40⟩ else f) ⟨i, 4, 3⟩ else (if badB c = true then worseF f ⟨i, 2, 40⟩ else f)) h.2.2
    have e1 : compQ (tlen (.b c :: p)) (tb (.b c :: p) ++ rest) i out f = compQ (tlen p) (tb p ++ rest) (i + 1) (out ++ [c]) (if out.length = 100 then worseF (if badB c = true then worseF f ⟨i, 2, 40⟩ else f) ⟨i, 4, 3⟩ else (if badB c = true then worseF f ⟨i, 2, 40⟩ else f)) := by
      rw [tb_cons, show (Tok.b c).bytes = [c] from rfl, List.singleton_append, List.cons_append, tlen_cons, show (Tok.b c).len = 1 from rfl]
      exact compQ_b h.2.1 _ _ _ _ _
    rw [e1]
    generalize hg : (if out.length = 100 then worseF (if badB c = true then worseF f ⟨i, 2, 40⟩ else f) ⟨i, 4, 3⟩ else (if badB c = true then worseF f ⟨i, 2, 40⟩ else f)) = g at ih1 ih2
    rw [tlen_cons, show (Tok.b c).len = 1 from rfl]
    refine ⟨fun h1 h2 => ?_, fun h1 h2 => ?_⟩
    · have e2 : (if badB c = true then worseF f ⟨i, 2, 40⟩ else f) = f := by
        split
        · exact worse1 h1 (.inr (.inl h2))
        · rfl
      rw [e2, worse1 h1 (.inr (.inl h2)), ite_self] at hg
      subst hg
      exact ih1 h1 (by omega)
    · unfold compF
      by_cases hb : badB c = true
      · rw [if_pos hb, worse0 h1, worse1 (a := ⟨i, 2, 40⟩) (b := ⟨i, 4, 3⟩) (by show (40 : Int) ≠ 0; decide) (.inr (.inr ⟨rfl, by show (2 : Int) ≤ 4; decide⟩)), ite_self] at hg
        subst hg
        rw [if_pos hb, ih1 (by show (40 : Int) ≠ 0; decide) (by show (i : Int) < _; omega)]
        exact .inr ⟨_, rfl, by show (40 : Int) ≠ 0; decide, rfl, rfl, Int.le_refl _, by show (i : Int) < _; omega⟩
      · rw [if_neg hb] at hg
        rw [if_neg hb]
        by_cases hn : out.length = 100
        · rw [if_pos hn, worse0 h1] at hg
          subst hg
          rw [if_pos hn, ih1 (by show (3 : Int) ≠ 0; decide) (by show (i : Int) < _; omega)]
          exact .inr ⟨_, rfl, by show (3 : Int) ≠ 0; decide, rfl, rfl, Int.le_refl _, by show (i : Int) < _; omega⟩
        · rw [if_neg hn] at hg
          subst hg
          rw [if_neg hn]
          have h3 := ih2 h1 (by rw [List.length_append, List.length_singleton]; omega)
          rw [List.length_append, List.length_singleton] at h3
          rcases h3 with ⟨k1, k2, k3⟩ | ⟨x, k1, k2, k3, k4, k5, k6⟩
          · exact .inl ⟨k1, k2, by rw [k3]; simp [cb]⟩
          · exact .inr ⟨x, k1, k2, k3, k4, by omega, by omega⟩
  | .e c :: p, i, out, f, h => by
    have e1 : compQ (tlen (.e c :: p)) (tb (.e c :: p) ++ rest) i out f = if ¬ (svc (c.toNat : Int) ∨ c = 32) then compQ (tlen p) (tb p ++ rest) (i + 2) out (worseF f ⟨i, 3, 41⟩) else compQ (tlen p) (tb p ++ rest) (i + 2) (out ++ [c]) (if out.length = 100 then worseF f ⟨i, 4, 3⟩ else f) := by
      rw [tb_cons, tlen_cons]
      exact compQ_e _ _ _ _ _ _
    rw [e1]
    rw [tlen_cons, show (Tok.e c).len = 2 from rfl]
    unfold compF
    by_cases hs : ¬ (svc (c.toNat : Int) ∨ c = 32)
    · rw [if_pos hs, if_pos hs]
      obtain ⟨ih1, ih2⟩ := comp_toks rest e he p (i + 2) out (worseF f ⟨i, 3, 41⟩) h
      refine ⟨fun h1 h2 => ?_, fun h1 h2 => ?_⟩
      · rw [worse1 h1 (.inr (.inl h2))] at ih1 ⊢
        exact ih1 h1 (by omega)
      · rw [worse0 h1] at ih1 ⊢
        rw [ih1 (by show (41 : Int) ≠ 0; decide) (by show (i : Int) < _; omega)]
        exact .inr ⟨_, rfl, by show (41 : Int) ≠ 0; decide, rfl, rfl, Int.le_refl _, by show (i : Int) < _; omega⟩
    · rw [if_neg hs, if_neg hs]
      obtain ⟨ih1, ih2⟩ := comp_toks rest e he p (i + 2) (out ++ [c]) (if out.length = 100 then worseF f ⟨i, 4, 3⟩ else f) h
      refine ⟨fun h1 h2 => ?_, fun h1 h2 => ?_⟩
      · rw [worse1 h1 (.inr (.inl h2)), ite_self] at ih1 ⊢
        exact ih1 h1 (by omega)
      · by_cases hn : out.length = 100
        · rw [if_pos hn, worse0 h1] at ih1 ⊢
          rw [if_pos hn, ih1 (by show (3 : Int) ≠ 0; decide) (by show (i : Int) < _; omega)]
          exact .inr ⟨_, rfl, by show (3 : Int) ≠ 0; decide, rfl, rfl, Int.le_refl _, by show (i : Int) < _; omega⟩
        · rw [if_neg hn] at ih2 ⊢
          rw [if_neg hn]
          have h3 := ih2 h1 (by rw [List.length_append, List.length_singleton]; omega)
          rw [List.length_append, List.length_singleton] at h3
          rcases h3 with ⟨k1, k2, k3⟩ | ⟨x, k1, k2, k3, k4, k5, k6⟩
          · exact .inl ⟨k1, k2, by rw [k3]; simp [cb]⟩
          · exact .inr ⟨x, k1, k2, k3, k4, by omega, by omega⟩
  | .w :: p, i, out, f, h => by
    obtain ⟨rfl, h⟩ := h
    obtain rfl := he h
    have e1 : compQ (tlen [.w]) (tb [.w] ++ []) i out f = (out, worseF f ⟨i, 3, 41⟩) := compQ_w 0 i out f
    rw [e1]
    refine ⟨fun h1 h2 => worse1 h1 (.inr (.inl h2)), fun h1 h2 => ?_⟩
    rw [worse0 h1]
    exact .inr ⟨_, rfl, by show (41 : Int) ≠ 0; decide, rfl, rfl, Int.le_refl _, by show (i : Int) < (i + 1 : Nat); omega⟩
theorem drop_piece {α : Type} (c : UInt8) (f : α → List Tok) {T rest : List UInt8} {i : Nat} {p q : α} {ps : List α} (h : T.drop i = tb (joinT c f (p :: q :: ps)) ++ rest) : T.drop i = tb (f p) ++ (c :: (tb (joinT c f (q :: ps)) ++ rest)) ∧ T.drop (i + tlen (f p) + 1) = tb (joinT c f (q :: ps)) ++ rest ∧ tlen (joinT c f (p :: q :: ps)) = tlen (f p) + 1 + tlen (joinT c f (q :: ps)) := by
  have ej : joinT c f (p :: q :: ps) = f p ++ (.b c :: joinT c f (q :: ps)) := by simp [joinT]
  have h1 : T.drop i = tb (f p) ++ (c :: (tb (joinT c f (q :: ps)) ++ rest)) := by
    rw [h, ej, tb_app, tb_cons, show (Tok.b c).bytes = [c] from rfl, List.append_assoc, List.singleton_append, List.cons_append]
  refine ⟨h1, ?_, ?_⟩
  · rw [Nat.add_assoc, ← List.drop_drop, h1, ← tb_len, ← List.drop_drop, List.drop_left]
    rfl
  · rw [ej, tlen_app, tlen_cons, show (Tok.b c).len = 1 from rfl]
    omega
theorem join_one {α : Type} (c : UInt8) (f : α → List Tok) (p : α) : joinT c f [p] = f p := by simp [joinT]
theorem partsQ_cons (T : List UInt8) (last p : Nat) (ps : List Nat) (k : Nat) (el : Elem) (f : Flt) : partsQ T last (p :: ps) k el f = partsQ T last ps (k + 1) (el ++ [ba (compQ (behindQ ps last - p) (T.drop p) p [] flt0).1]) (worseF (if k = 10 then worseF f ⟨(p : Int) - 1, 1, 5⟩ else f) (compQ (behindQ ps last - p) (T.drop p) p [] flt0).2) := rfl
/-- one component among a cut's parts -/
theorem part_step {e : Bool} {p : List Tok} {rest' : List UInt8} {i k : Nat} {f : Flt} (he : e = true → rest' = []) (hf : Fit e p) :
    (f.e ≠ 0 → f.at_ < i → (k = 10 → f.at_ < (i : Int) - 1) → worseF (if k = 10 then worseF f ⟨(i : Int) - 1, 1, 5⟩ else f) (compQ (tlen p) (tb p ++ rest') i [] flt0).2 = f) ∧
    (f.e = 0 → ((((if k = 10 then some ((i : Int) - 1, 5) else none : Flt1).or (compF p i 0)) = none ∧ (worseF (if k = 10 then worseF f ⟨(i : Int) - 1, 1, 5⟩ else f) (compQ (tlen p) (tb p ++ rest') i [] flt0).2).e = 0 ∧ (compQ (tlen p) (tb p ++ rest') i [] flt0).1 = cb p) ∨
      ∃ x : Int × Int, ((if k = 10 then some ((i : Int) - 1, 5) else none : Flt1).or (compF p i 0)) = some x ∧ (worseF (if k = 10 then worseF f ⟨(i : Int) - 1, 1, 5⟩ else f) (compQ (tlen p) (tb p ++ rest') i [] flt0).2).e ≠ 0 ∧ (worseF (if k = 10 then worseF f ⟨(i : Int) - 1, 1, 5⟩ else f) (compQ (tlen p) (tb p ++ rest') i [] flt0).2).e = x.2 ∧ (worseF (if k = 10 then worseF f ⟨(i : Int) - 1, 1, 5⟩ else f) (compQ (tlen p) (tb p ++ rest') i [] flt0).2).at_ = x.1 ∧ ((i : Int) - 1 ≤ x.1 ∧ (k ≠ 10 → (i : Int) ≤ x.1) ∧ x.1 < (i + tlen p : Nat)) ∧ x.1 < (i + tlen p : Nat))) := by
  obtain ⟨-, h2⟩ := comp_toks rest' e he p i [] flt0 hf
  have h3 := h2 rfl (by simp)
  rw [List.length_nil] at h3
  generalize compQ (tlen p) (tb p ++ rest') i [] flt0 = C at h3
  have hlow : C.2.e = 0 ∨ (i : Int) ≤ C.2.at_ := by
    rcases h3 with h3 | ⟨x, h3⟩
    · exact .inl h3.2.1
    · exact .inr (by omega)
  refine ⟨fun h0 ha hk => ?_, fun h0 => ?_⟩
  · have e1 : (if k = 10 then worseF f ⟨(i : Int) - 1, 1, 5⟩ else f) = f := by
      split
      · exact worse1 h0 (.inr (.inl (hk (by assumption))))
      · rfl
    rw [e1]
    refine worse1 h0 ?_
    rcases hlow with h | h
    · exact .inl h
    · exact .inr (.inl (by omega))
  · by_cases hk : k = 10
    · rw [if_pos hk, if_pos hk, worse0 h0]
      right
      rw [worse1 (a := ⟨(i : Int) - 1, 1, 5⟩) (b := C.2) (by show (5 : Int) ≠ 0; decide) (by
        rcases hlow with h | h
        · exact .inl h
        · exact .inr (.inl (by show (i : Int) - 1 < _; omega)))]
      exact ⟨_, rfl, by show (5 : Int) ≠ 0; decide, rfl, rfl, ⟨Int.le_refl _, fun h => absurd hk h, by show (i : Int) - 1 < _; omega⟩, by show (i : Int) - 1 < _; omega⟩
    · rw [if_neg hk, if_neg hk, worse0 h0, Option.none_or]
      rcases h3 with ⟨k1, k2, k3⟩ | ⟨x, k1, k2, k3, k4, k5, k6⟩
      · exact .inl ⟨k1, k2, by rw [k3]; rfl⟩
      · exact .inr ⟨x, k1, k2, k3, k4, ⟨by omega, fun _ => by omega, k6⟩, k6⟩
theorem parts_toks (T rest : List UInt8) (e : Bool) (he : e = true → rest = []) (last : Nat) : ∀ (ps : List (List Tok)) (p : List Tok) (i k : Nat) (el : Elem) (f : Flt), FitP e (p :: ps) → T.drop i = tb (joinT 58 id (p :: ps)) ++ rest → last = i + tlen (joinT 58 id (p :: ps)) →
    (f.e ≠ 0 → f.at_ < i → (k = 10 → f.at_ < (i : Int) - 1) → (partsQ T last (starts id i (p :: ps)) k el f).2 = f) ∧
    (f.e = 0 → ((partsF (p :: ps) i k = none ∧ (partsQ T last (starts id i (p :: ps)) k el f).2.e = 0 ∧ (partsQ T last (starts id i (p :: ps)) k el f).1 = el ++ elOf (p :: ps)) ∨
      ∃ x, partsF (p :: ps) i k = some x ∧ (partsQ T last (starts id i (p :: ps)) k el f).2.e ≠ 0 ∧ (partsQ T last (starts id i (p :: ps)) k el f).2.e = x.2 ∧ (partsQ T last (starts id i (p :: ps)) k el f).2.at_ = x.1 ∧ (i : Int) - 1 ≤ x.1 ∧ (k ≠ 10 → (i : Int) ≤ x.1) ∧ x.1 < last))
  | [], p, i, k, el, f, hf, hT, hl => by
    rw [join_one] at hT hl
    obtain ⟨h1, h2⟩ := part_step (k := k) (i := i) (f := f) he hf
    have e1 : partsQ T last (starts id i [p]) k el f = (el ++ [ba (compQ (tlen p) (tb p ++ rest) i [] flt0).1], worseF (if k = 10 then worseF f ⟨(i : Int) - 1, 1, 5⟩ else f) (compQ (tlen p) (tb p ++ rest) i [] flt0).2) := by
      show partsQ T last [i] k el f = _
      rw [partsQ_cons, hT, show behindQ [] last - i = tlen p from by show last - i = _; rw [hl]; exact Nat.add_sub_cancel_left ..]
      rfl
    rw [e1]
    refine ⟨h1, fun h0 => ?_⟩
    have e2 : partsF [p] i k = ((if k = 10 then some ((i : Int) - 1, 5) else none : Flt1).or (compF p i 0)) := by
      show (_ : Flt1).or none = _
      rw [Option.or_none]
    rw [e2]
    rcases h2 h0 with ⟨k1, k2, k3⟩ | ⟨x, k1, k2, k3, k4, ⟨k5, k6, k7⟩, k8⟩
    · exact .inl ⟨k1, k2, by rw [k3]; rfl⟩
    · exact .inr ⟨x, k1, k2, k3, k4, k5, k6, by rw [hl]; exact k8⟩
  | q :: ps, p, i, k, el, f, hf, hT, hl => by
    obtain ⟨g1, g2, g3⟩ := drop_piece 58 id hT
    rw [show id p = p from rfl] at g1 g2 g3
    obtain ⟨h1, h2⟩ := part_step (e := false) (rest' := 58 :: (tb (joinT 58 id (q :: ps)) ++ rest)) (k := k) (i := i) (f := f) (fun h => by cases h) hf.1
    have e1 : partsQ T last (starts id i (p :: q :: ps)) k el f = partsQ T last (starts id (i + tlen p + 1) (q :: ps)) (k + 1) (el ++ [ba (compQ (tlen p) (tb p ++ (58 :: (tb (joinT 58 id (q :: ps)) ++ rest))) i [] flt0).1]) (worseF (if k = 10 then worseF f ⟨(i : Int) - 1, 1, 5⟩ else f) (compQ (tlen p) (tb p ++ (58 :: (tb (joinT 58 id (q :: ps)) ++ rest))) i [] flt0).2) := by
      show partsQ T last (i :: starts id (i + tlen p + 1) (q :: ps)) k el f = _
      rw [partsQ_cons, g1, show behindQ (starts id (i + tlen p + 1) (q :: ps)) last - i = tlen p from by
        show i + tlen p + 1 - 1 - i = _
        omega]
    rw [e1]
    generalize (compQ (tlen p) (tb p ++ (58 :: (tb (joinT 58 id (q :: ps)) ++ rest))) i [] flt0) = C at h1 h2
    generalize hg : worseF (if k = 10 then worseF f ⟨(i : Int) - 1, 1, 5⟩ else f) C.2 = g at h1 h2
    obtain ⟨i1, i2⟩ := parts_toks T rest e he last ps q (i + tlen p + 1) (k + 1) (el ++ [ba C.1]) g hf.2 g2 (by rw [hl, g3]; omega)
    refine ⟨fun h0 ha hk => ?_, fun h0 => ?_⟩
    · have h3 := h1 h0 ha hk
      rw [h3] at i1 ⊢
      exact i1 h0 (by omega) (fun _ => by omega)
    · show (((if k = 10 then some ((i : Int) - 1, 5) else none : Flt1).or (compF p i 0)).or (partsF (q :: ps) (i + tlen p + 1) (k + 1)) = none ∧ _ ∧ _) ∨ ∃ x, ((if k = 10 then some ((i : Int) - 1, 5) else none : Flt1).or (compF p i 0)).or (partsF (q :: ps) (i + tlen p + 1) (k + 1)) = some x ∧ _ ∧ _ ∧ _ ∧ _ ∧ _ ∧ _
      rcases h2 h0 with ⟨k1, k2, k3⟩ | ⟨x, k1, k2, k3, k4, ⟨k5, k6, k7⟩, k8⟩
      · rw [k1, Option.none_or]
        rcases i2 k2 with ⟨j1, j2, j3⟩ | ⟨x, j1, j2, j3, j4, j5, j6, j7⟩
        · exact .inl ⟨j1, j2, by rw [j3, k3]; simp [elOf]⟩
        · exact .inr ⟨x, j1, j2, j3, j4, by omega, fun _ => by omega, j7⟩
      · rw [k1]
        right
        rw [i1 k2 (by omega) (fun _ => by omega)]
        exact ⟨x, rfl, k2, k3, k4, k5, k6, by rw [hl, g3]; omega⟩
theorem elem_toks {T rest : List UInt8} {e : Bool} (he : e = true → rest = []) {q : El} {i : Nat} {f : Flt} (hq : q ≠ []) (hs : splitT 58 (elT q) = q) (hf : FitP e q) (hft : Fit e (elT q)) (hT : T.drop i = tb (elT q) ++ rest) :
    (f.e ≠ 0 → f.at_ < i → (elemQ T i (i + tlen (elT q)) f).2 = f) ∧
    (f.e = 0 → ((partsF q i 0 = none ∧ (elemQ T i (i + tlen (elT q)) f).2.e = 0 ∧ (elemQ T i (i + tlen (elT q)) f).1 = elOf q) ∨
      ∃ x, partsF q i 0 = some x ∧ (elemQ T i (i + tlen (elT q)) f).2.e ≠ 0 ∧ (elemQ T i (i + tlen (elT q)) f).2.e = x.2 ∧ (elemQ T i (i + tlen (elT q)) f).2.at_ = x.1 ∧ (i : Int) ≤ x.1 ∧ x.1 < (i + tlen (elT q) : Nat))) := by
  cases q with
  | nil => exact absurd rfl hq
  | cons p ps =>
    have h1 := parts_toks T rest e he (i + tlen (elT (p :: ps))) ps p i 0 [] f hf hT rfl
    have e1 : elemQ T i (i + tlen (elT (p :: ps))) f = partsQ T (i + tlen (elT (p :: ps))) (starts id i (p :: ps)) 0 [] f := by
      unfold elemQ
      rw [Nat.add_sub_cancel_left, hT, cut_toks 58 (by decide) rest _ i e hft, hs]
    rw [e1]
    refine ⟨fun h0 ha => h1.1 h0 ha (fun h => by cases h), fun h0 => ?_⟩
    rcases h1.2 h0 with h2 | ⟨x, k1, k2, k3, k4, k5, k6, k7⟩
    · exact .inl h2
    · exact .inr ⟨x, k1, k2, k3, k4, k6 (by decide), k7⟩
theorem elemsQ_cons (T : List UInt8) (to p : Nat) (ps : List Nat) (i : Nat) (sg : Segm) (f : Flt) : elemsQ T to (p :: ps) i sg f = elemsQ T to ps (i + 1) (sg ++ [(elemQ T p (behindQ ps to) (if i = 30 then worseF f ⟨(p : Int) - 1, 1, 5⟩ else f)).1]) (elemQ T p (behindQ ps to) (if i = 30 then worseF f ⟨(p : Int) - 1, 1, 5⟩ else f)).2 := rfl
/-- one element among a segment's -/
theorem el_step {T rest' : List UInt8} {e : Bool} (he : e = true → rest' = []) {q : El} {i k : Nat} {f : Flt} (hq : q ≠ []) (hs : splitT 58 (elT q) = q) (hf : FitP e q) (hft : Fit e (elT q)) (hT : T.drop i = tb (elT q) ++ rest') :
    (f.e ≠ 0 → f.at_ < i → (k = 30 → f.at_ < (i : Int) - 1) → (elemQ T i (i + tlen (elT q)) (if k = 30 then worseF f ⟨(i : Int) - 1, 1, 5⟩ else f)).2 = f) ∧
    (f.e = 0 → ((((if k = 30 then some ((i : Int) - 1, 5) else none : Flt1).or (partsF q i 0)) = none ∧ (elemQ T i (i + tlen (elT q)) (if k = 30 then worseF f ⟨(i : Int) - 1, 1, 5⟩ else f)).2.e = 0 ∧ (elemQ T i (i + tlen (elT q)) (if k = 30 then worseF f ⟨(i : Int) - 1, 1, 5⟩ else f)).1 = elOf q) ∨
      ∃ x : Int × Int, ((if k = 30 then some ((i : Int) - 1, 5) else none : Flt1).or (partsF q i 0)) = some x ∧ (elemQ T i (i + tlen (elT q)) (if k = 30 then worseF f ⟨(i : Int) - 1, 1, 5⟩ else f)).2.e ≠ 0 ∧ (elemQ T i (i + tlen (elT q)) (if k = 30 then worseF f ⟨(i : Int) - 1, 1, 5⟩ else f)).2.e = x.2 ∧ (elemQ T i (i + tlen (elT q)) (if k = 30 then worseF f ⟨(i : Int) - 1, 1, 5⟩ else f)).2.at_ = x.1 ∧ x.1 < (i + tlen (elT q) : Nat))) := by
  refine ⟨fun h0 ha hk => ?_, fun h0 => ?_⟩
  · have e1 : (if k = 30 then worseF f ⟨(i : Int) - 1, 1, 5⟩ else f) = f := by
      split
      · exact worse1 h0 (.inr (.inl (hk (by assumption))))
      · rfl
    rw [e1]
    exact (elem_toks he hq hs hf hft hT).1 h0 ha
  · by_cases hk : k = 30
    · rw [if_pos hk, if_pos hk, worse0 h0]
      right
      rw [(elem_toks (f := ⟨(i : Int) - 1, 1, 5⟩) he hq hs hf hft hT).1 (by show (5 : Int) ≠ 0; decide) (by show (i : Int) - 1 < _; omega)]
      exact ⟨_, rfl, by show (5 : Int) ≠ 0; decide, rfl, rfl, by show (i : Int) - 1 < _; omega⟩
    · rw [if_neg hk, if_neg hk, Option.none_or]
      rcases (elem_toks he hq hs hf hft hT).2 h0 with h2 | ⟨x, k1, k2, k3, k4, k5, k6⟩
      · exact .inl h2
      · exact .inr ⟨x, k1, k2, k3, k4, k6⟩
theorem elems_toks (T rest : List UInt8) (e : Bool) (he : e = true → rest = []) (to : Nat) : ∀ (ps : List (List Tok)) (p : List Tok) (i k : Nat) (sg : Segm) (f : Flt), FitP e (p :: ps) → T.drop i = tb (joinT 43 id (p :: ps)) ++ rest → to = i + tlen (joinT 43 id (p :: ps)) →
    (f.e ≠ 0 → f.at_ < i → (k = 30 → f.at_ < (i : Int) - 1) → (elemsQ T to (starts id i (p :: ps)) k sg f).2 = f) ∧
    (f.e = 0 → ((elemsF ((p :: ps).map (splitT 58)) i k = none ∧ (elemsQ T to (starts id i (p :: ps)) k sg f).2.e = 0 ∧ (elemsQ T to (starts id i (p :: ps)) k sg f).1 = sg ++ ((p :: ps).map (splitT 58)).map elOf) ∨
      ∃ x, elemsF ((p :: ps).map (splitT 58)) i k = some x ∧ (elemsQ T to (starts id i (p :: ps)) k sg f).2.e ≠ 0 ∧ (elemsQ T to (starts id i (p :: ps)) k sg f).2.e = x.2 ∧ (elemsQ T to (starts id i (p :: ps)) k sg f).2.at_ = x.1 ∧ x.1 < to))
  | [], p, i, k, sg, f, hf, hT, hl => by
    rw [join_one, show id p = p from rfl] at hT hl
    have hE := elT_split p
    have hne : splitT 58 p ≠ [] := by obtain ⟨a, as, h⟩ := split_cons 58 p; rw [h]; simp
    obtain ⟨h1, h2⟩ := el_step (T := T) (k := k) (i := i) (f := f) he (q := splitT 58 p) hne (by rw [hE]) (split_fit 58 p hf) (by rw [hE]; exact hf) (by rw [hE]; exact hT)
    rw [hE] at h1 h2
    have e1 : elemsQ T to (starts id i [p]) k sg f = (sg ++ [(elemQ T i (i + tlen p) (if k = 30 then worseF f ⟨(i : Int) - 1, 1, 5⟩ else f)).1], (elemQ T i (i + tlen p) (if k = 30 then worseF f ⟨(i : Int) - 1, 1, 5⟩ else f)).2) := by
      show elemsQ T to [i] k sg f = _
      rw [elemsQ_cons, show behindQ [] to = i + tlen p from hl]
      rfl
    rw [e1]
    refine ⟨h1, fun h0 => ?_⟩
    have e2 : elemsF ([p].map (splitT 58)) i k = ((if k = 30 then some ((i : Int) - 1, 5) else none : Flt1).or (partsF (splitT 58 p) i 0)) := by
      show (_ : Flt1).or none = _
      rw [Option.or_none]
    rw [e2]
    rcases h2 h0 with ⟨k1, k2, k3⟩ | ⟨x, k1, k2, k3, k4, k8⟩
    · exact .inl ⟨k1, k2, by rw [k3]; rfl⟩
    · exact .inr ⟨x, k1, k2, k3, k4, by rw [hl]; exact k8⟩
  | q :: ps, p, i, k, sg, f, hf, hT, hl => by
    obtain ⟨g1, g2, g3⟩ := drop_piece 43 id hT
    rw [show id p = p from rfl] at g1 g2 g3
    have hE := elT_split p
    have hne : splitT 58 p ≠ [] := by obtain ⟨a, as, h⟩ := split_cons 58 p; rw [h]; simp
    obtain ⟨h1, h2⟩ := el_step (T := T) (e := false) (k := k) (i := i) (f := f) (rest' := 43 :: (tb (joinT 43 id (q :: ps)) ++ rest)) (fun h => by cases h) (q := splitT 58 p) hne (by rw [hE]) (split_fit 58 p hf.1) (by rw [hE]; exact hf.1) (by rw [hE]; exact g1)
    rw [hE] at h1 h2
    have e1 : elemsQ T to (starts id i (p :: q :: ps)) k sg f = elemsQ T to (starts id (i + tlen p + 1) (q :: ps)) (k + 1) (sg ++ [(elemQ T i (i + tlen p) (if k = 30 then worseF f ⟨(i : Int) - 1, 1, 5⟩ else f)).1]) (elemQ T i (i + tlen p) (if k = 30 then worseF f ⟨(i : Int) - 1, 1, 5⟩ else f)).2 := by
      show elemsQ T to (i :: starts id (i + tlen p + 1) (q :: ps)) k sg f = _
      rw [elemsQ_cons, show behindQ (starts id (i + tlen p + 1) (q :: ps)) to = i + tlen p from by
        show i + tlen p + 1 - 1 = _
        omega]
    rw [e1]
    generalize elemQ T i (i + tlen p) (if k = 30 then worseF f ⟨(i : Int) - 1, 1, 5⟩ else f) = C at h1 h2
    obtain ⟨i1, i2⟩ := elems_toks T rest e he to ps q (i + tlen p + 1) (k + 1) (sg ++ [C.1]) C.2 hf.2 g2 (by rw [hl, g3]; omega)
    refine ⟨fun h0 ha hk => ?_, fun h0 => ?_⟩
    · have h3 := h1 h0 ha hk
      rw [h3] at i1 ⊢
      exact i1 h0 (by omega) (fun _ => by omega)
    · have e2 : elemsF ((p :: q :: ps).map (splitT 58)) i k = ((if k = 30 then some ((i : Int) - 1, 5) else none : Flt1).or (partsF (splitT 58 p) i 0)).or (elemsF ((q :: ps).map (splitT 58)) (i + tlen p + 1) (k + 1)) := by
        show (((if k = 30 then some ((i : Int) - 1, 5) else none : Flt1).or (partsF (splitT 58 p) i 0)).or (elemsF ((q :: ps).map (splitT 58)) (i + tlen (elT (splitT 58 p)) + 1) (k + 1))) = _
        rw [hE]
      rw [e2]
      rcases h2 h0 with ⟨k1, k2, k3⟩ | ⟨x, k1, k2, k3, k4, k8⟩
      · rw [k1, Option.none_or]
        rcases i2 k2 with ⟨j1, j2, j3⟩ | ⟨x, j1, j2, j3, j4, j7⟩
        · exact .inl ⟨j1, j2, by rw [j3, k3]; simp⟩
        · exact .inr ⟨x, j1, j2, j3, j4, j7⟩
      · rw [k1]
        right
        rw [i1 k2 (by omega) (fun _ => by omega)]
        exact ⟨x, rfl, k2, k3, k4, by rw [hl, g3]; omega⟩
theorem seg_toks {T rest : List UInt8} {e : Bool} (he : e = true → rest = []) {ts : List Tok} {i : Nat} (hf : Fit e ts) (hT : T.drop i = tb ts ++ rest) :
    (elemsF (cutE ts) i 0 = none ∧ (segQ T i (i + tlen ts)).2.e = 0 ∧ (segQ T i (i + tlen ts)).1 = (cutE ts).map elOf) ∨
    ∃ x, elemsF (cutE ts) i 0 = some x ∧ (segQ T i (i + tlen ts)).2.e ≠ 0 ∧ (segQ T i (i + tlen ts)).2.e = x.2 ∧ (segQ T i (i + tlen ts)).2.at_ = x.1 ∧ x.1 < (i + tlen ts : Nat) := by
  have hj := split_join 43 ts
  have hs := split_fit 43 ts hf
  have e1 : segQ T i (i + tlen ts) = elemsQ T (i + tlen ts) (starts id i (splitT 43 ts)) 0 [] flt0 := by
    unfold segQ
    rw [Nat.add_sub_cancel_left, hT, cut_toks 43 (by decide) rest _ i e hf]
  rw [e1]
  unfold cutE
  obtain ⟨p, ps, hp⟩ := split_cons 43 ts
  rw [hp] at hj hs ⊢
  have := (elems_toks T rest e he (i + tlen ts) ps p i 0 [] flt0 hs (by rw [hj]; exact hT) (by rw [hj])).2 rfl
  simpa using this
/-- the reference's answer at one segment -/
def segR (T : List UInt8) (i to : Nat) : Segm × Flt := ((segQ T i to).1, if to = T.length then worseF (segQ T i to).2 ⟨to, 5, 42⟩ else (segQ T i to).2)
/-- one segment: the reference and the machine -/
structure SegStep (T : List UInt8) (i : Nat) (r : Rd) : Prop where
  le : i ≤ i + endQ (T.drop i) ∧ i + endQ (T.drop i) ≤ T.length
  bad : (segR T i (i + endQ (T.drop i))).2.e ≠ 0 → runE (T.drop i) i r = ([], (segR T i (i + endQ (T.drop i))).2.at_, (segR T i (i + endQ (T.drop i))).2.e)
  ok : (segR T i (i + endQ (T.drop i))).2.e = 0 → i + endQ (T.drop i) < T.length ∧ ∃ r', r'.mode = 0 ∧ r'.out = r.out ++ [(segR T i (i + endQ (T.drop i))).1] ∧ runE (T.drop i) i r = runE (T.drop (i + endQ (T.drop i) + 1)) (i + endQ (T.drop i) + 1) r'
theorem seg_step {T : List UInt8} {i : Nat} {r : Rd} (h0 : r.mode = 0) (hn : r.out.length < 5000) {c : UInt8} (hc : T[i]? = some c) (hb : c.toNat ≠ 10 ∧ c.toNat ≠ 13 ∧ c.toNat ≠ 32) : SegStep T i r := by
  obtain ⟨ts, rest, e, h1, h2, h3, h4⟩ := toks _ (T.drop i) (Nat.le_refl _)
  have hi : i < T.length := (List.getElem?_eq_some_iff.1 hc).1
  have hlen : (T.drop i).length = tlen ts + rest.length := by rw [h1, List.length_append, tb_len]
  rw [List.length_drop] at hlen
  have he : e = true → rest = [] := fun h => by
    rcases h4 with h4 | h4
    · exact h4.2
    · rw [h4.1] at h; cases h
  have hfirst : ∃ c l, tb ts ++ rest = c :: l ∧ c.toNat ≠ 10 ∧ c.toNat ≠ 13 ∧ c.toNat ≠ 32 := ⟨c, T.drop (i + 1), by rw [← h1]; exact drop_at hc, hb⟩
  have hm := run_segm (i := i) h0 hn h2 h4 hfirst
  rw [← h1] at hm
  have hs := seg_toks he h2 h1
  refine ⟨⟨Nat.le_add_right _ _, by rw [h3]; omega⟩, ?_, ?_⟩
  · intro hbad
    rw [h3] at hbad ⊢
    unfold segR at hbad ⊢
    dsimp only at hbad ⊢
    rcases hs with ⟨k1, k2, k3⟩ | ⟨x, k1, k2, k3, k4, k5⟩
    · by_cases ht : i + tlen ts = T.length
      · rw [if_pos ht, worse0 k2]
        rcases hm with ⟨x, m1, _⟩ | ⟨_, ⟨m1, m2⟩ | ⟨l, r', m1, _⟩⟩
        · rw [k1] at m1; cases m1
        · exact m2
        · rw [m1, List.length_cons] at hlen; omega
      · rw [if_neg ht] at hbad
        exact absurd k2 hbad
    · have e2 : (if i + tlen ts = T.length then worseF (segQ T i (i + tlen ts)).2 ⟨((i + tlen ts : Nat) : Int), 5, 42⟩ else (segQ T i (i + tlen ts)).2) = (segQ T i (i + tlen ts)).2 := by
        split
        · exact worse1 k2 (.inr (.inl (by rw [k4]; exact k5)))
        · rfl
      rw [e2, k3, k4]
      rcases hm with ⟨y, m1, m2⟩ | ⟨m1, _⟩
      · rw [k1] at m1; cases m1; exact m2
      · rw [k1] at m1; cases m1
  · intro hok
    rw [h3] at hok ⊢
    unfold segR at hok ⊢
    dsimp only at hok ⊢
    rcases hs with ⟨k1, k2, k3⟩ | ⟨x, k1, k2, k3, k4, k5⟩
    · by_cases ht : i + tlen ts = T.length
      · rw [if_pos ht, worse0 k2] at hok
        cases hok
      · rcases hm with ⟨x, m1, _⟩ | ⟨_, ⟨m1, m2⟩ | ⟨l, r', m1, m2, m3, m4⟩⟩
        · rw [k1] at m1; cases m1
        · rw [m1, List.length_nil] at hlen; omega
        · refine ⟨by omega, r', m2, by rw [m3, k3], ?_⟩
          rw [m4]
          congr 1
          rw [Nat.add_assoc, ← List.drop_drop, h1, m1, ← tb_len, ← List.drop_drop, List.drop_left]
          rfl
    · have e2 : (if i + tlen ts = T.length then worseF (segQ T i (i + tlen ts)).2 ⟨((i + tlen ts : Nat) : Int), 5, 42⟩ else (segQ T i (i + tlen ts)).2) = (segQ T i (i + tlen ts)).2 := by
        split
        · exact worse1 k2 (.inr (.inl (by rw [k4]; exact k5)))
        · rfl
      rw [e2] at hok
      exact absurd hok k2
/-- a blank between segments -/
theorem blank_step {T : List UInt8} {i : Nat} {r : Rd} (h0 : r.mode = 0) {c : UInt8} (hc : T[i]? = some c) (hb : c.toNat = 10 ∨ c.toNat = 13 ∨ c.toNat = 32) : runE (T.drop i) i r = runE (T.drop (i + 1)) (i + 1) r := by
  rw [drop_at hc, run_cons]
  have : stepE r i c.toNat = .ok r := by
    unfold stepE btwE
    rw [if_pos h0, if_pos (by omega)]
  rw [this]
theorem end_step {T : List UInt8} {i : Nat} {r : Rd} (h0 : r.mode = 0) (hi : T.length ≤ i) : runE (T.drop i) i r = (r.out, 0, 0) := by
  rw [List.drop_eq_nil_of_le hi]
  show finE r _ = _
  unfold finE
  rw [if_neg (by omega), if_neg (by omega)]
theorem many_step {T : List UInt8} {i : Nat} {r : Rd} (h0 : r.mode = 0) (hn : r.out.length = 5000) {c : UInt8} (hc : T[i]? = some c) (hb : c.toNat ≠ 10 ∧ c.toNat ≠ 13 ∧ c.toNat ≠ 32) : runE (T.drop i) i r = ([], (i : Int), 5) := by
  rw [drop_at hc, run_cons]
  have : stepE r i c.toNat = .error ((i : Int), 5) := by
    unfold stepE btwE
    rw [if_pos h0, if_neg (by omega), if_pos hn]
  rw [this]
end
end Go.Proofs.YtdohcglpcgahaaaGreatDoor
