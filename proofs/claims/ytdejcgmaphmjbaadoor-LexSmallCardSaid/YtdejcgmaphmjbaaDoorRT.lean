/-
  A segment's bytes as tokens: what the machine makes of them, and its first fault. No program in sight.
-/
import Derived.Test.YtdejcgmaphmjbaaDoorRA
set_option linter.unusedSimpArgs false
set_option linter.unusedVariables false
namespace Go.Proofs.YtdejcgmaphmjbaaDoor
open Go Sat Go.RowKit Go.PlainAid
/-- a byte by itself, a released byte, a ? at a text's end -/
inductive Tok where
  | b (c : UInt8)
  | e (c : UInt8)
  | w
def Tok.bytes : Tok → List UInt8
  | .b c => [c]
  | .e c => [63, c]
  | .w => [63]
def Tok.len : Tok → Nat
  | .e _ => 2
  | _ => 1
theorem Tok.bytes_len (t : Tok) : t.bytes.length = t.len := by cases t <;> rfl
def tb (l : List Tok) : List UInt8 := l.flatMap Tok.bytes
def tlen : List Tok → Nat
  | [] => 0
  | t :: l => t.len + tlen l
theorem tb_len (l : List Tok) : (tb l).length = tlen l := by
  induction l with
  | nil => rfl
  | cons t l ih =>
    unfold tb at ih ⊢
    rw [List.flatMap_cons, List.length_append, ih, Tok.bytes_len]
    rfl
theorem tlen_cons (t : Tok) (l : List Tok) : tlen (t :: l) = t.len + tlen l := rfl
theorem tlen_app (l m : List Tok) : tlen (l ++ m) = tlen l + tlen m := by
  induction l with
  | nil => simp [tlen]
  | cons t l ih => rw [List.cons_append, tlen_cons, tlen_cons, ih]; omega
theorem tb_cons (t : Tok) (l : List Tok) : tb (t :: l) = t.bytes ++ tb l := List.flatMap_cons
theorem tb_app (l m : List Tok) : tb (l ++ m) = tb l ++ tb m := List.flatMap_append
/-- tokens of a segment's inside: no ' and no ? by itself; a ? at the end only where the text ends -/
def Fit (e : Bool) : List Tok → Prop
  | [] => True
  | .b c :: l => c ≠ 39 ∧ c ≠ 63 ∧ Fit e l
  | .e _ :: l => Fit e l
  | .w :: l => l = [] ∧ e = true
/-- where a segment's end is, counted from here -/
def endQ : List UInt8 → Nat
  | [] => 0
  | c :: l => if c = 39 then 0 else if c = 63 then (match l with
    | [] => 1
    | _ :: l' => 2 + endQ l') else 1 + endQ l
theorem toks : ∀ (n : Nat) (l : List UInt8), l.length ≤ n → ∃ (ts : List Tok) (rest : List UInt8) (e : Bool), l = tb ts ++ rest ∧ Fit e ts ∧ endQ l = tlen ts ∧ (e = true ∧ rest = [] ∨ e = false ∧ ∃ r, rest = 39 :: r)
  | 0, l, h => by
    obtain rfl : l = [] := List.eq_nil_of_length_eq_zero (by omega)
    exact ⟨[], [], true, rfl, trivial, rfl, .inl ⟨rfl, rfl⟩⟩
  | n + 1, [], h => ⟨[], [], true, rfl, trivial, rfl, .inl ⟨rfl, rfl⟩⟩
  | n + 1, c :: l, h => by
    rw [List.length_cons] at h
    by_cases h1 : c = 39
    · exact ⟨[], c :: l, false, rfl, trivial, by unfold endQ; rw [if_pos h1]; rfl, .inr ⟨rfl, l, by rw [h1]⟩⟩
    by_cases h2 : c = 63
    · cases l with
      | nil => exact ⟨[.w], [], true, by rw [h2]; rfl, ⟨rfl, rfl⟩, by rw [h2]; rfl, .inl ⟨rfl, rfl⟩⟩
      | cons d l' =>
        rw [List.length_cons] at h
        obtain ⟨ts, rest, e, e1, e2, e3, e4⟩ := toks n l' (by omega)
        exact ⟨.e d :: ts, rest, e, by rw [h2, tb_cons, e1]; rfl, e2, by unfold endQ; rw [if_neg h1, if_pos h2]; show 2 + endQ l' = 2 + tlen ts; rw [e3], e4⟩
    · obtain ⟨ts, rest, e, e1, e2, e3, e4⟩ := toks n l (by omega)
      exact ⟨.b c :: ts, rest, e, by rw [tb_cons, e1]; rfl, ⟨h1, h2, e2⟩, by unfold endQ; rw [if_neg h1, if_neg h2, e3]; rfl, e4⟩
/-! components -/
abbrev Flt1 := Option (Int × Int)
def Plain (by_ : UInt8 → Prop) (p : List Tok) : Prop := ∀ c, Tok.b c ∈ p → ¬ by_ c
/-- the first fault of a component's tokens from a place on, n bytes being there -/
def compF : List Tok → Nat → Nat → Flt1
  | [], _, _ => none
  | .b c :: p, i, n => if badB c = true then some ((i : Int), 40) else if n = 100 then some ((i : Int), 3) else compF p (i + 1) (n + 1)
  | .e c :: p, i, n => if ¬ (svc (c.toNat : Int) ∨ c = 32) then some ((i : Int), 41) else if n = 100 then some ((i : Int), 3) else compF p (i + 2) (n + 1)
  | .w :: _, i, _ => some ((i : Int), 41)
/-- a component's text -/
def cb : List Tok → List UInt8
  | [] => []
  | .b c :: p => c :: cb p
  | .e c :: p => c :: cb p
  | .w :: p => cb p
def after (f : Flt1) (x : Ans) : Ans := match f with
  | some e => ([], e.1, e.2)
  | none => x
theorem run_cons (b : UInt8) (l : List UInt8) (i : Nat) (r : Rd) : runE (b :: l) i r = match stepE r i b.toNat with
    | .error e => ([], e.1, e.2)
    | .ok r' => runE l (i + 1) r' := rfl
theorem run_comp {o : List Segm} {sg : Segm} {el : Elem} (rest : List UInt8) (e : Bool) (he : e = true → rest = []) : ∀ (p : List Tok) (i : Nat) (pc : List UInt8) (r : Rd), At r o sg el pc → Fit e p → Plain (fun c => c = 43 ∨ c = 58) p → pc.length ≤ 100 →
    (∃ r', At r' o sg el (pc ++ cb p) ∧ compF p i pc.length = none ∧ (pc ++ cb p).length ≤ 100 ∧ runE (tb p ++ rest) i r = runE rest (i + tlen p) r') ∨ (∃ e, compF p i pc.length = some e ∧ runE (tb p ++ rest) i r = ([], e.1, e.2))
  | [], i, pc, r, h, _, _, hl => .inl ⟨r, by rw [show cb [] = [] from rfl, List.append_nil]; exact h, rfl, by rw [show cb [] = [] from rfl, List.append_nil]; exact hl, rfl⟩
  | .b c :: p, i, pc, r, h, hf, hp, hl => by
    obtain ⟨h1, h2, h3⟩ := hf
    have h4 := hp c List.mem_cons_self
    have hp' : Plain (fun c => c = 43 ∨ c = 58) p := fun d hd => hp d (List.mem_cons_of_mem _ hd)
    have n39 : c.toNat ≠ 39 := fun e => h1 (UInt8.toNat_inj.1 e)
    have n63 : c.toNat ≠ 63 := fun e => h2 (UInt8.toNat_inj.1 e)
    have n43 : c.toNat ≠ 43 := fun e => h4 (.inl (UInt8.toNat_inj.1 e))
    have n58 : c.toNat ≠ 58 := fun e => h4 (.inr (UInt8.toNat_inj.1 e))
    rw [tb_cons, show (Tok.b c).bytes = [c] from rfl, List.singleton_append, List.cons_append, run_cons, step1 h.mode]
    unfold compF
    by_cases hb : badB c = true
    · right
      rw [if_pos hb]
      have h5 : (c.toNat : Int) < 32 ∨ 126 < (c.toNat : Int) := by
        unfold badB at hb
        have := of_decide_eq_true hb
        omega
      refine ⟨_, rfl, ?_⟩
      unfold insE
      rw [if_neg (by omega), if_neg (by omega), if_neg (by omega), if_neg (by omega), if_neg (by omega), if_pos h5]
    have hb' := badB_no (by simpa using hb : badB c = false)
    rw [if_neg hb, ins_keep (by omega) (by omega) (by unfold svc; omega)]
    by_cases hn : pc.length = 100
    · right
      rw [if_pos hn]
      refine ⟨_, rfl, ?_⟩
      unfold keepE
      rw [h.pc, if_pos hn]
    · rw [if_neg hn, keep_ok (by rw [h.pc]; omega)]
      dsimp only
      have := run_comp (o := o) (sg := sg) (el := el) rest e he p (i + 1) (pc ++ [c]) { r with pc := r.pc ++ [c], mode := 1 } ⟨rfl, h.out, h.seg, h.el, by show r.pc ++ [c] = _; rw [h.pc]⟩ h3 hp' (by rw [List.length_append, List.length_singleton]; omega)
      rw [List.length_append, List.length_singleton, List.append_assoc, List.singleton_append, show i + 1 + tlen p = i + tlen (Tok.b c :: p) from by rw [tlen_cons, show (Tok.b c).len = 1 from rfl]; omega] at this
      exact this
  | .e c :: p, i, pc, r, h, hf, hp, hl => by
    have hp' : Plain (fun c => c = 43 ∨ c = 58) p := fun d hd => hp d (List.mem_cons_of_mem _ hd)
    rw [tb_cons, show (Tok.e c).bytes = [63, c] from rfl, List.cons_append, List.cons_append, run_cons, step1 h.mode, show (((63 : UInt8).toNat : Nat) : Int) = 63 from rfl, ins_rel]
    dsimp only
    rw [show ([c] ++ tb p ++ rest) = c :: (tb p ++ rest) from rfl, run_cons, step2 rfl]
    unfold compF
    by_cases hs : ¬ (svc (c.toNat : Int) ∨ c = 32)
    · right
      rw [if_pos hs]
      refine ⟨_, rfl, ?_⟩
      have h5 : (c.toNat : Int) ≠ 32 ∧ ¬ svc (c.toNat : Int) := ⟨fun e => hs (.inr (UInt8.toNat_inj.1 (by rw [show (32 : UInt8).toNat = 32 from rfl]; omega))), fun e => hs (.inl e)⟩
      unfold relE
      rw [if_pos h5]
    have h5 : ¬ ((c.toNat : Int) ≠ 32 ∧ ¬ svc (c.toNat : Int)) := by
      rintro ⟨e1, e2⟩
      rcases Classical.not_not.1 hs with h5 | h5
      · exact e2 h5
      · exact e1 (by rw [h5]; rfl)
    unfold relE
    rw [if_neg hs, if_neg h5]
    by_cases hn : pc.length = 100
    · right
      rw [if_pos hn]
      refine ⟨_, rfl, ?_⟩
      unfold keepE
      rw [if_pos (by show r.pc.length = 100; rw [h.pc]; exact hn)]
    · rw [if_neg hn, keep_ok (by show r.pc.length < 100; rw [h.pc]; omega)]
      dsimp only
      have := run_comp (o := o) (sg := sg) (el := el) rest e he p (i + 2) (pc ++ [c]) { r with pc := r.pc ++ [c], mode := 1, mark := (i : Int) } ⟨rfl, h.out, h.seg, h.el, by show r.pc ++ [c] = _; rw [h.pc]⟩ hf hp' (by rw [List.length_append, List.length_singleton]; omega)
      rw [List.length_append, List.length_singleton, List.append_assoc, List.singleton_append, show i + 2 + tlen p = i + tlen (Tok.e c :: p) from by rw [tlen_cons, show (Tok.e c).len = 2 from rfl]; omega] at this
      exact this
  | .w :: p, i, pc, r, h, hf, hp, hl => by
    obtain ⟨rfl, hf⟩ := hf
    obtain rfl := he hf
    right
    refine ⟨_, rfl, ?_⟩
    rw [List.append_nil, tb_cons, show (Tok.w).bytes = [63] from rfl, show [63] ++ tb [] = 63 :: [] from rfl, run_cons, step1 h.mode, show (((63 : UInt8).toNat : Nat) : Int) = 63 from rfl, ins_rel]
    rfl
/-! elements -/
def joinT {α : Type} (c : UInt8) (f : α → List Tok) : List α → List Tok
  | [] => []
  | x :: l => f x ++ l.flatMap fun y => .b c :: f y
def partsF : List (List Tok) → Nat → Nat → Flt1
  | [], _, _ => none
  | p :: ps, i, k => ((if k = 10 then some ((i : Int) - 1, 5) else none : Flt1).or (compF p i 0)).or (partsF ps (i + tlen p + 1) (k + 1))
/-- the pieces of a cut; a ? at the end only in the last one -/
def FitP (e : Bool) : List (List Tok) → Prop
  | [] => True
  | [p] => Fit e p
  | p :: q :: ps => Fit false p ∧ FitP e (q :: ps)
def plen : List (List Tok) → Nat
  | [] => 0
  | p :: ps => tlen p + 1 + plen ps
abbrev PlainC : List Tok → Prop := Plain fun c => c = 43 ∨ c = 58
theorem run_parts {o : List Segm} {sg : Segm} (rest : List UInt8) (e : Bool) (he : e = true → rest = []) : ∀ (ps : List (List Tok)) (p : List Tok) (i : Nat) (el : Elem) (r : Rd), At r o sg el [] → el.length ≤ 9 → (∀ q ∈ p :: ps, PlainC q) → FitP e (p :: ps) →
    (∃ r' el' pc', At r' o sg el' pc' ∧ el' ++ [ba pc'] = el ++ (p :: ps).map (fun p => ba (cb p)) ∧ (el'.length ≤ 9 ∧ pc'.length ≤ 100) ∧ partsF (p :: ps) i el.length = none ∧ runE (tb (joinT 58 id (p :: ps)) ++ rest) i r = runE rest (i + tlen (joinT 58 id (p :: ps))) r') ∨ (∃ x, partsF (p :: ps) i el.length = some x ∧ runE (tb (joinT 58 id (p :: ps)) ++ rest) i r = ([], x.1, x.2))
  | [], p, i, el, r, h, hl, hp, hx => by
    have h1 := run_comp rest e he p i [] r h hx (hp p List.mem_cons_self) (by simp)
    rw [show joinT 58 id [p] = p from by simp [joinT]]
    unfold partsF partsF
    rw [if_neg (by omega)]
    rcases h1 with ⟨r', h2, h3, h4, h5⟩ | ⟨x, h3, h5⟩
    · left
      refine ⟨r', el, cb p, by simpa using h2, by simp, ⟨hl, by simpa using h4⟩, ?_, h5⟩
      show ((none : Flt1).or (compF p i 0)).or none = none
      rw [show compF p i 0 = none from h3]
      rfl
    · right
      refine ⟨x, ?_, h5⟩
      show ((none : Flt1).or (compF p i 0)).or none = some x
      rw [show compF p i 0 = some x from h3]
      rfl
  | q :: ps, p, i, el, r, h, hl, hp, hx => by
    have ej : joinT 58 id (p :: q :: ps) = p ++ (.b 58 :: joinT 58 id (q :: ps)) := by simp [joinT]
    have h1 := run_comp (58 :: (tb (joinT 58 id (q :: ps)) ++ rest)) false (fun h => by cases h) p i [] r h hx.1 (hp p List.mem_cons_self) (by simp)
    rw [ej, tb_app, tb_cons, show (Tok.b 58).bytes = [58] from rfl, List.append_assoc, List.singleton_append, List.cons_append, tlen_app]
    unfold partsF
    rw [if_neg (by omega)]
    rcases h1 with ⟨r', h2, h3, h4, h5⟩ | ⟨x, h3, h5⟩
    · rw [h5, run_cons, step1 h2.mode, show (((58 : UInt8).toNat : Nat) : Int) = 58 from rfl, show compF p i 0 = none from h3]
      show (∃ r' el' pc', _ ∧ _ ∧ _ ∧ partsF (q :: ps) (i + tlen p + 1) (el.length + 1) = none ∧ _) ∨ (∃ x, partsF (q :: ps) (i + tlen p + 1) (el.length + 1) = some x ∧ _)
      by_cases h9 : el.length = 9
      · right
        refine ⟨(((i + tlen p : Nat) : Int), 5), ?_, ?_⟩
        · unfold partsF
          rw [if_pos (by omega)]
          show some _ = some _
          congr 2
          omega
        · unfold insE
          rw [if_neg (by omega), if_neg (by omega), if_pos ⟨rfl, by rw [h2.el]; exact h9⟩]
      · have hi : insE r' ((i + tlen p : Nat) : Int) 58 = .ok { r' with el := r'.el ++ [ba r'.pc], pc := [], mode := 1 } := by
          unfold insE
          rw [if_neg (by omega), if_neg (by omega), if_neg (by rw [h2.el]; omega), if_neg (by omega), if_pos rfl]
        rw [hi]
        dsimp only
        have h6 := run_parts (o := o) (sg := sg) rest e he ps q (i + tlen p + 1) (el ++ [ba (cb p)]) { r' with el := r'.el ++ [ba r'.pc], pc := [], mode := 1 } ⟨rfl, h2.out, h2.seg, by show r'.el ++ [ba r'.pc] = _; rw [h2.el, h2.pc]; rfl, rfl⟩ (by rw [List.length_append, List.length_singleton]; omega) (fun x hx => hp x (List.mem_cons_of_mem _ hx)) hx.2
        rw [List.length_append, List.length_singleton] at h6
        rw [show i + (tlen p + tlen (Tok.b 58 :: joinT 58 id (q :: ps))) = i + tlen p + 1 + tlen (joinT 58 id (q :: ps)) from by
          show i + (tlen p + (1 + tlen (joinT 58 id (q :: ps)))) = _
          omega]
        rcases h6 with ⟨r2, el2, pc2, k1, k2, k3, k4, k5⟩ | h6
        · left
          exact ⟨r2, el2, pc2, k1, by rw [k2]; simp, k3, k4, k5⟩
        · exact .inr h6
    · right
      refine ⟨x, ?_, h5⟩
      show ((none : Flt1).or (compF p i 0)).or _ = some x
      rw [show compF p i 0 = some x from h3]
      rfl
/-! segments -/
abbrev El := List (List Tok)
def elT (e : El) : List Tok := joinT 58 id e
def sgT (es : List El) : List Tok := joinT 43 elT es
def elemsF : List El → Nat → Nat → Flt1
  | [], _, _ => none
  | e :: es, i, k => ((if k = 30 then some ((i : Int) - 1, 5) else none : Flt1).or (partsF e i 0)).or (elemsF es (i + tlen (elT e) + 1) (k + 1))
def FitE (e : Bool) : List El → Prop
  | [] => True
  | [p] => FitP e p
  | p :: q :: ps => FitP false p ∧ FitE e (q :: ps)
def elOf (e : El) : Elem := e.map fun p => ba (cb p)
theorem run_elems {o : List Segm} (rest : List UInt8) (e : Bool) (he : e = true → rest = []) : ∀ (ps : List El) (p : El) (i : Nat) (sg : Segm) (r : Rd), At r o sg [] [] → sg.length ≤ 29 → (∀ q ∈ p :: ps, q ≠ [] ∧ ∀ x ∈ q, PlainC x) → FitE e (p :: ps) →
    (∃ r' sg' el' pc', At r' o sg' el' pc' ∧ sg' ++ [el' ++ [ba pc']] = sg ++ (p :: ps).map elOf ∧ elemsF (p :: ps) i sg.length = none ∧ runE (tb (sgT (p :: ps)) ++ rest) i r = runE rest (i + tlen (sgT (p :: ps))) r') ∨ (∃ x, elemsF (p :: ps) i sg.length = some x ∧ runE (tb (sgT (p :: ps)) ++ rest) i r = ([], x.1, x.2))
  | [], p, i, sg, r, h, hl, hp, hx => by
    obtain ⟨hn, hpl⟩ := hp p List.mem_cons_self
    cases p with
    | nil => exact absurd rfl hn
    | cons p1 p2 =>
      have h1 := run_parts (o := o) (sg := sg) rest e he p2 p1 i [] r h (by simp) hpl hx
      rw [show sgT [p1 :: p2] = joinT 58 id (p1 :: p2) from by simp [sgT, joinT, elT]]
      unfold elemsF elemsF
      rw [if_neg (by omega), Option.none_or]
      rcases h1 with ⟨r', el', pc', h2, h3, h4, h5, h6⟩ | ⟨x, h3, h5⟩
      · left
        refine ⟨r', sg, el', pc', h2, by rw [h3]; rfl, ?_, h6⟩
        rw [show partsF (p1 :: p2) i 0 = none from h5]
        rfl
      · right
        refine ⟨x, ?_, h5⟩
        rw [show partsF (p1 :: p2) i 0 = some x from h3]
        rfl
  | q :: ps, p, i, sg, r, h, hl, hp, hx => by
    obtain ⟨hn, hpl⟩ := hp p List.mem_cons_self
    cases p with
    | nil => exact absurd rfl hn
    | cons p1 p2 =>
      have ej : sgT ((p1 :: p2) :: q :: ps) = elT (p1 :: p2) ++ (.b 43 :: sgT (q :: ps)) := by simp [sgT, joinT]
      have h1 := run_parts (o := o) (sg := sg) (43 :: (tb (sgT (q :: ps)) ++ rest)) false (fun h => by cases h) p2 p1 i [] r h (by simp) hpl hx.1
      rw [ej, tb_app, tb_cons, show (Tok.b 43).bytes = [43] from rfl, List.append_assoc, List.singleton_append, List.cons_append, tlen_app]
      unfold elemsF
      rw [if_neg (by omega), Option.none_or]
      rcases h1 with ⟨r', el', pc', h2, h3, ⟨h4, h4'⟩, h5, h6⟩ | ⟨x, h3, h5⟩
      · rw [show runE (tb (elT (p1 :: p2)) ++ 43 :: (tb (sgT (q :: ps)) ++ rest)) i r = _ from h6, run_cons, step1 h2.mode, show (((43 : UInt8).toNat : Nat) : Int) = 43 from rfl, show partsF (p1 :: p2) i 0 = none from h5, Option.none_or]
        by_cases h9 : sg.length = 29
        · right
          refine ⟨(((i + tlen (elT (p1 :: p2)) : Nat) : Int), 5), ?_, ?_⟩
          · unfold elemsF
            rw [if_pos (by omega)]
            show some _ = some _
            congr 2
            omega
          · unfold insE
            rw [if_neg (by omega), if_pos ⟨rfl, by rw [h2.seg]; exact h9⟩]
            rfl
        · have hi : insE r' ((i + tlen (elT (p1 :: p2)) : Nat) : Int) 43 = .ok { r' with seg := r'.seg ++ [r'.el ++ [ba r'.pc]], el := [], pc := [], mode := 1 } := by
            unfold insE
            rw [if_neg (by omega), if_neg (by rw [h2.seg]; omega), if_neg (by omega), if_pos rfl]
          have h7 := run_elems (o := o) rest e he ps q (i + tlen (elT (p1 :: p2)) + 1) (sg ++ [elOf (p1 :: p2)]) { r' with seg := r'.seg ++ [r'.el ++ [ba r'.pc]], el := [], pc := [], mode := 1 } ⟨rfl, h2.out, by show r'.seg ++ [r'.el ++ [ba r'.pc]] = _; rw [h2.seg, h2.el, h2.pc, h3]; rfl, rfl, rfl⟩ (by rw [List.length_append, List.length_singleton]; omega) (fun x hx => hp x (List.mem_cons_of_mem _ hx)) hx.2
          rw [List.length_append, List.length_singleton] at h7
          rw [show insE r' ((i + tlen (joinT 58 id (p1 :: p2)) : Nat) : Int) 43 = _ from hi]
          dsimp only
          rw [show i + (tlen (elT (p1 :: p2)) + tlen (Tok.b 43 :: sgT (q :: ps))) = i + tlen (elT (p1 :: p2)) + 1 + tlen (sgT (q :: ps)) from by
            rw [tlen_cons, show (Tok.b 43).len = 1 from rfl]
            omega]
          rcases h7 with ⟨r2, sg2, el2, pc2, k1, k2, k3, k4⟩ | h7
          · left
            exact ⟨r2, sg2, el2, pc2, k1, by rw [k2]; simp, k3, k4⟩
          · exact .inr h7
      · right
        refine ⟨x, ?_, h5⟩
        rw [show partsF (p1 :: p2) i 0 = some x from h3]
        rfl
/-! splitting -/
def splitT (c : UInt8) : List Tok → List (List Tok)
  | [] => [[]]
  | .b d :: l => if d = c then [] :: splitT c l else (match splitT c l with
    | [] => [[.b d]]
    | p :: ps => (.b d :: p) :: ps)
  | t :: l => (match splitT c l with
    | [] => [[t]]
    | p :: ps => (t :: p) :: ps)
theorem split_cons (c : UInt8) (l : List Tok) : ∃ p ps, splitT c l = p :: ps := by
  cases l with
  | nil => exact ⟨_, _, rfl⟩
  | cons t l =>
    cases t <;> unfold splitT <;> (try split) <;> (try (split <;> exact ⟨_, _, rfl⟩)) <;> exact ⟨_, _, rfl⟩
theorem split_b (c d : UInt8) (l : List Tok) : splitT c (.b d :: l) = if d = c then [] :: splitT c l else ((.b d :: (splitT c l).headD []) :: (splitT c l).tail) := by
  obtain ⟨p, ps, h⟩ := split_cons c l
  show (if d = c then [] :: splitT c l else (match splitT c l with
    | [] => [[.b d]]
    | p :: ps => (.b d :: p) :: ps)) = _
  rw [h]
  rfl
theorem split_o (c : UInt8) (t : Tok) (ht : ∀ d, t ≠ .b d) (l : List Tok) : splitT c (t :: l) = ((t :: (splitT c l).headD []) :: (splitT c l).tail) := by
  obtain ⟨p, ps, h⟩ := split_cons c l
  cases t with
  | b d => exact absurd rfl (ht d)
  | e d =>
    show (match splitT c l with
    | [] => [[Tok.e d]]
    | p :: ps => (.e d :: p) :: ps) = _
    rw [h]; rfl
  | w =>
    show (match splitT c l with
    | [] => [[Tok.w]]
    | p :: ps => (.w :: p) :: ps) = _
    rw [h]; rfl
theorem split_join (c : UInt8) : ∀ l : List Tok, joinT c id (splitT c l) = l
  | [] => rfl
  | t :: l => by
    have ih := split_join c l
    obtain ⟨p, ps, h⟩ := split_cons c l
    rw [h] at ih
    cases t with
    | b d =>
      rw [split_b, h]
      by_cases hd : d = c
      · rw [if_pos hd, hd]
        rw [← ih]
        simp [joinT]
      · rw [if_neg hd]
        rw [← ih]
        simp [joinT]
    | e d =>
      rw [split_o c _ (fun d h => by cases h), h, ← ih]
      simp [joinT]
    | w =>
      rw [split_o c _ (fun d h => by cases h), h, ← ih]
      simp [joinT]
theorem split_plain (c : UInt8) : ∀ l : List Tok, ∀ p ∈ splitT c l, (∀ d, Tok.b d ∈ p → d ≠ c ∧ Tok.b d ∈ l)
  | [], p, hp, d, hd => by
    rw [show splitT c [] = [[]] from rfl, List.mem_singleton] at hp
    subst hp
    cases hd
  | t :: l, p, hp, d, hd => by
    have ih := split_plain c l
    obtain ⟨q, qs, h⟩ := split_cons c l
    have go : p ∈ ((t :: q) :: qs) → (t = .b d → d ≠ c) → d ≠ c ∧ Tok.b d ∈ t :: l := by
      intro hp ht
      rcases List.mem_cons.1 hp with rfl | hp
      · rcases List.mem_cons.1 hd with hd | hd
        · exact ⟨ht hd.symm, by rw [hd]; exact List.mem_cons_self⟩
        · have := ih q (by rw [h]; exact List.mem_cons_self) d hd
          exact ⟨this.1, List.mem_cons_of_mem _ this.2⟩
      · have := ih p (by rw [h]; exact List.mem_cons_of_mem _ hp) d hd
        exact ⟨this.1, List.mem_cons_of_mem _ this.2⟩
    cases t with
    | b x =>
      rw [split_b, h] at hp
      by_cases hx : x = c
      · rw [if_pos hx] at hp
        rcases List.mem_cons.1 hp with rfl | hp
        · cases hd
        · have := ih p (by rw [h]; exact hp) d hd
          exact ⟨this.1, List.mem_cons_of_mem _ this.2⟩
      · rw [if_neg hx] at hp
        exact go hp (fun e => by cases e; exact hx)
    | e x =>
      rw [split_o c _ (fun d h => by cases h), h] at hp
      exact go hp (fun e => by cases e)
    | w =>
      rw [split_o c _ (fun d h => by cases h), h] at hp
      exact go hp (fun e => by cases e)
theorem split_fit (c : UInt8) {e : Bool} : ∀ l : List Tok, Fit e l → FitP e (splitT c l)
  | [], h => trivial
  | .b d :: l, h => by
    have ih := split_fit c l h.2.2
    obtain ⟨q, qs, hq⟩ := split_cons c l
    rw [split_b, hq]
    rw [hq] at ih
    by_cases hd : d = c
    · rw [if_pos hd]
      exact ⟨trivial, ih⟩
    · rw [if_neg hd]
      cases qs with
      | nil => exact ⟨h.1, h.2.1, ih⟩
      | cons x xs => exact ⟨⟨h.1, h.2.1, ih.1⟩, ih.2⟩
  | .e d :: l, h => by
    have ih := split_fit c l h
    obtain ⟨q, qs, hq⟩ := split_cons c l
    rw [split_o c _ (fun d h => by cases h), hq]
    rw [hq] at ih
    cases qs with
    | nil => exact ih
    | cons x xs => exact ⟨ih.1, ih.2⟩
  | .w :: l, h => by
    obtain ⟨rfl, h⟩ := h
    exact ⟨rfl, h⟩
/-- a segment's tokens as elements and components -/
def cutE (l : List Tok) : List El := (splitT 43 l).map (splitT 58)
theorem elT_split (l : List Tok) : elT (splitT 58 l) = l := split_join 58 l
theorem cutE_join (l : List Tok) : sgT (cutE l) = l := by
  have h := split_join 43 l
  unfold cutE sgT
  obtain ⟨p, ps, hp⟩ := split_cons 43 l
  rw [hp] at h ⊢
  rw [← h]
  simp only [joinT, List.map_cons, elT_split, id, List.flatMap_map]
theorem cutE_fit {e : Bool} {l : List Tok} (h : Fit e l) : FitE e (cutE l) := by
  have h1 := split_fit 43 l h
  unfold cutE
  generalize splitT 43 l = L at h1
  induction L with
  | nil => trivial
  | cons p L ih =>
    cases L with
    | nil => exact split_fit 58 p h1
    | cons q L => exact ⟨split_fit 58 p h1.1, ih h1.2⟩
theorem cutE_plain (l : List Tok) : ∀ q ∈ cutE l, q ≠ [] ∧ ∀ x ∈ q, PlainC x := by
  intro q hq
  obtain ⟨p, hp, rfl⟩ := List.mem_map.1 hq
  obtain ⟨a, as, ha⟩ := split_cons 58 p
  refine ⟨by rw [ha]; simp, fun x hx d hd hc => ?_⟩
  have h1 := split_plain 58 p x hx d hd
  have h2 := split_plain 43 l p hp d h1.2
  rcases hc with hc | hc
  · exact h2.1 hc
  · exact h1.1 hc
theorem cutE_cons (l : List Tok) : ∃ p ps, cutE l = p :: ps := by
  obtain ⟨p, ps, h⟩ := split_cons 43 l
  exact ⟨_, _, by unfold cutE; rw [h]; rfl⟩
/-- a segment from its first byte on -/
theorem run_segm {rest : List UInt8} {e : Bool} {ts : List Tok} {r : Rd} {i : Nat} (h0 : r.mode = 0) (hn : r.out.length < 5000) (hf : Fit e ts) (he : e = true ∧ rest = [] ∨ e = false ∧ ∃ l, rest = 39 :: l) (hb : ∃ c l, tb ts ++ rest = c :: l ∧ c.toNat ≠ 10 ∧ c.toNat ≠ 13 ∧ c.toNat ≠ 32) :
    (∃ x, elemsF (cutE ts) i 0 = some x ∧ runE (tb ts ++ rest) i r = ([], x.1, x.2)) ∨ (elemsF (cutE ts) i 0 = none ∧ ((rest = [] ∧ runE (tb ts ++ rest) i r = ([], ((i + tlen ts : Nat) : Int), 42)) ∨ ∃ l r', rest = 39 :: l ∧ r'.mode = 0 ∧ r'.out = r.out ++ [(cutE ts).map elOf] ∧ runE (tb ts ++ rest) i r = runE l (i + tlen ts + 1) r')) := by
  obtain ⟨c, l, hc, hb⟩ := hb
  have hfr : runE (tb ts ++ rest) i r = runE (tb ts ++ rest) i { r with seg := [], el := [], pc := [], mode := 1 } := by
    rw [hc, run_cons, run_cons, btw_fresh h0 hn (by omega)]
  rw [hfr]
  obtain ⟨p, ps, hp⟩ := cutE_cons ts
  have h1 := run_elems (o := r.out) rest e (fun h => by rcases he with he | he; exact he.2; rw [he.1] at h; cases h) ps p i [] { r with seg := [], el := [], pc := [], mode := 1 } ⟨rfl, rfl, rfl, rfl, rfl⟩ (by simp) (by rw [← hp]; exact cutE_plain ts) (by rw [← hp]; exact cutE_fit hf)
  rw [← hp, cutE_join, List.length_nil] at h1
  rcases h1 with ⟨r', sg', el', pc', k1, k2, k3, k4⟩ | h1
  · right
    refine ⟨k3, ?_⟩
    rcases he with ⟨rfl, rfl⟩ | ⟨rfl, l, rfl⟩
    · left
      refine ⟨rfl, ?_⟩
      rw [k4]
      show finE r' _ = _
      unfold finE
      rw [if_neg (by rw [k1.mode]; omega), if_pos k1.mode]
    · right
      obtain ⟨r2, h4, h5, h6⟩ := goes_end k1 (i + tlen ts)
      refine ⟨l, r2, rfl, h5, by rw [h6, k2]; rfl, ?_⟩
      rw [k4, show 39 :: l = [39] ++ l from rfl, runE_append, h4]
      rfl
  · exact .inl h1
end Go.Proofs.YtdejcgmaphmjbaaDoor
