/-
  Hydrostatic tables, plain: which are right, values at weights, weights at draughts.
-/
import Derived.Test.YtomhfakkebaciaaFG
set_option linter.unusedSimpArgs false
set_option linter.unusedVariables false
namespace Go.Proofs.Ytomhfakkebaciaa
open Go
structure HRow where
  d : Int
  k : Int
  b : Int
  m : Int
  t : Int
def inB (n lo hi : Int) : Bool := decide (lo ≤ n) && decide (n ≤ hi)
def okR (r : HRow) : Bool := inB r.d 0 50000 && (inB r.k 1 500000000 && (inB r.b (-500000) 500000 && (inB r.m 0 500000 && inB r.t 1 10000000000)))
def ltR (a b : HRow) : Bool := decide (a.d < b.d) && decide (a.k < b.k)
def okAt (l : List HRow) (i : Nat) : Bool := match l[i]? with
  | some r => okR r && (i == 0 || match l[i - 1]? with
    | some a => ltR a r
    | none => false)
  | none => false
def rightH (l : List HRow) : Bool := (List.range l.length).all (okAt l) && (decide (2 ≤ l.length) && decide (l.length ≤ 100))
def rangeH (l : List HRow) : (Int × Int) × Int := if rightH l = true then
    match l[0]?, l[l.length - 1]? with
    | some a, some b => ((a.k, b.k), 0)
    | _, _ => ((0, 0), 2)
  else ((0, 0), 2)
/-- a line through two points, step by step -/
def lineE (a b : Int) (x : Fr) (p q : Int) : Fr × Int :=
  let s := subE x (ofF p)
  if s.2 = 0 then
    let m := mulE s.1 (ofF (b - a))
    if m.2 = 0 then
      let d := divE m.1 (ofF (q - p))
      if d.2 = 0 then
        let r := addE d.1 (ofF a)
        if r.2 = 0 then (r.1, 0) else (zeroF, r.2)
      else (zeroF, d.2)
    else (zeroF, m.2)
  else (zeroF, s.2)
structure IsRight (l : List HRow) : Prop where
  row : ∀ (i : Nat) (r : HRow), l[i]? = some r → okR r = true
  lt : ∀ (i : Nat) (a b : HRow), l[i]? = some a → l[i + 1]? = some b → ltR a b = true
  two : 2 ≤ l.length
  most : l.length ≤ 100
theorem right_is {l : List HRow} (h : rightH l = true) : IsRight l := by
  unfold rightH at h
  simp only [Bool.and_eq_true, List.all_eq_true, List.mem_range, decide_eq_true_eq] at h
  obtain ⟨h1, h2, h3⟩ := h
  refine ⟨fun i r hr => ?_, fun i a b ha hb => ?_, h2, h3⟩
  · have := h1 i (List.getElem?_eq_some_iff.1 hr).1
    unfold okAt at this
    rw [hr] at this
    simp only [Bool.and_eq_true] at this
    exact this.1
  · have := h1 (i + 1) (List.getElem?_eq_some_iff.1 hb).1
    unfold okAt at this
    rw [hb] at this
    simp only [Bool.and_eq_true, Nat.add_sub_cancel, ha] at this
    simpa using this.2
structure Row5 (r : HRow) : Prop where
  d : 0 ≤ r.d ∧ r.d ≤ 50000
  k : 1 ≤ r.k ∧ r.k ≤ 500000000
  b : -500000 ≤ r.b ∧ r.b ≤ 500000
  m : 0 ≤ r.m ∧ r.m ≤ 500000
  t : 1 ≤ r.t ∧ r.t ≤ 10000000000
theorem ok_row {r : HRow} (h : okR r = true) : Row5 r := by
  unfold okR inB at h
  simp only [Bool.and_eq_true, decide_eq_true_eq] at h
  obtain ⟨h1, h2, h3, h4, h5⟩ := h
  exact ⟨h1, h2, h3, h4, h5⟩
theorem rq_int {n : Int} {N : Nat} (h : n.natAbs ≤ N) (hN : N < big) : ∃ X, Rq X (n : Rat) ∧ ofF n = X := by
  obtain ⟨X, hX⟩ := Rq.ex ((Bd.int n h).small hN (by decide))
  exact ⟨X, hX, hX.of⟩
/-- the line is the quotient -/
theorem line_R {a b k p q : Int} (ha : a.natAbs ≤ 10000000000) (hb : b.natAbs ≤ 10000000000) (h0 : 0 ≤ p) (hp : p ≤ k) (hk : k ≤ q) (hpq : p < q) (hq : q ≤ 500000000) :
    lineE a b (ofF k) p q = ((ratioE (a * (q - k) + b * (k - p)) (q - p)).1, 0) ∧ (ratioE (a * (q - k) + b * (k - p)) (q - p)).2 = 0 := by
  have hB : (1000000000000000000000000000000000000000000 : Nat) < big := by decide
  obtain ⟨X, hX, eX⟩ := rq_int (n := k) (N := 500000000) (by omega) (by decide)
  obtain ⟨P, hP, eP⟩ := rq_int (n := p) (N := 500000000) (by omega) (by decide)
  obtain ⟨B, hBB, eB⟩ := rq_int (n := b - a) (N := 20000000000) (by omega) (by decide)
  obtain ⟨Q, hQ, eQ⟩ := rq_int (n := q - p) (N := 500000000) (by omega) (by decide)
  obtain ⟨A, hA, eA⟩ := rq_int (n := a) (N := 10000000000) (by omega) (by decide)
  have hq0 : ((q - p : Int) : Rat) ≠ 0 := by
    intro h
    have : q - p = 0 := by exact_mod_cast h
    omega
  have b1 : Bd ((k : Rat) - (p : Rat)) _ _ := (Bd.int k (N := 500000000) (by omega)).sub (Bd.int p (N := 500000000) (by omega))
  have b2 := b1.mul (Bd.int (b - a) (N := 20000000000) (by omega))
  have b3 := b2.div (Bd.int (q - p) (N := 500000000) (by omega)) hq0
  have b4 := b3.add (Bd.int a (N := 10000000000) (by omega))
  obtain ⟨S, hS⟩ := Rq.ex (b1.small (by decide) (by decide))
  obtain ⟨M, hM⟩ := Rq.ex (b2.small (by decide) (by decide))
  obtain ⟨D, hD⟩ := Rq.ex (b3.small (by decide) (by decide))
  obtain ⟨R, hR⟩ := Rq.ex (b4.small (by decide) (by decide))
  have e : ((k : Rat) - (p : Rat)) * ((b - a : Int) : Rat) / ((q - p : Int) : Rat) + (a : Rat) = mkRat (a * (q - k) + b * (k - p)) (q - p).natAbs := by
    rw [Rat.mkRat_eq_div]
    have h1 : (((q - p).natAbs : Nat) : Rat) = ((q - p : Int) : Rat) := by
      have : (((q - p).natAbs : Nat) : Int) = q - p := by omega
      exact_mod_cast this
    rw [h1]
    simp only [Rat.intCast_sub, Rat.intCast_add, Rat.intCast_mul] at hq0 ⊢
    grind
  have hr := Rq.ratio (a := a * (q - k) + b * (k - p)) (b := q - p) (X := R) (by omega) (by rw [← e]; exact hR)
  refine ⟨?_, by rw [hr]⟩
  rw [hr]
  unfold lineE
  rw [eX, eP, eB, eQ, eA, hX.sub hP hS]
  dsimp only
  rw [if_pos rfl, hS.mul hBB hM]
  dsimp only
  rw [if_pos rfl, hM.div hQ hD hq0]
  dsimp only
  rw [if_pos rfl, hD.add hA hR]
  rfl
theorem IsRight.mono {l : List HRow} (h : IsRight l) : ∀ (n i : Nat) (a b : HRow), l[i]? = some a → l[i + n + 1]? = some b → a.d < b.d ∧ a.k < b.k := by
  intro n
  induction n with
  | zero =>
    intro i a b ha hb
    have := h.lt i a b ha hb
    unfold ltR at this
    simpa using this
  | succ n ih =>
    intro i a b ha hb
    obtain ⟨c, hc⟩ : ∃ c, l[i + n + 1]? = some c := ⟨_, List.getElem?_eq_getElem (by have := (List.getElem?_eq_some_iff.1 hb).1; omega)⟩
    have h1 := ih i a c ha hc
    have h2 := h.lt (i + n + 1) c b hc hb
    unfold ltR at h2
    simp only [Bool.and_eq_true, decide_eq_true_eq] at h2
    omega
theorem IsRight.lt_of {l : List HRow} (h : IsRight l) {i j : Nat} {a b : HRow} (hij : i < j) (ha : l[i]? = some a) (hb : l[j]? = some b) : a.d < b.d ∧ a.k < b.k :=
  h.mono (j - i - 1) i a b ha (by rw [show i + (j - i - 1) + 1 = j from by omega]; exact hb)
/-- the first row that is at least so heavy -/
structure Heavy (l : List HRow) (k : Int) (i : Nat) : Prop where
  le : i ≤ l.length
  below : ∀ (j : Nat) (r : HRow), j < i → l[j]? = some r → r.k < k
  above : ∀ (j : Nat) (r : HRow), i ≤ j → l[j]? = some r → k ≤ r.k
theorem Heavy.eq {l : List HRow} {k : Int} {i j : Nat} (h : Heavy l k i) (h' : Heavy l k j) : i = j := by
  rcases Nat.lt_trichotomy i j with h1 | h1 | h1
  · have hl : i < l.length := by have := h'.le; omega
    have h2 := h'.below i _ h1 (List.getElem?_eq_getElem hl)
    have h3 := h.above i _ (Nat.le_refl _) (List.getElem?_eq_getElem hl)
    omega
  · exact h1
  · have hl : j < l.length := by have := h.le; omega
    have h2 := h.below j _ h1 (List.getElem?_eq_getElem hl)
    have h3 := h'.above j _ (Nat.le_refl _) (List.getElem?_eq_getElem hl)
    omega
def heavyI (l : List HRow) (k : Int) : Nat := l.findIdx fun r => decide (k ≤ r.k)
theorem heavy_is {l : List HRow} (h : IsRight l) (k : Int) : Heavy l k (heavyI l k) := by
  refine ⟨List.findIdx_le_length, fun j r hj hr => ?_, fun j r hj hr => ?_⟩
  · have hl := (List.getElem?_eq_some_iff.1 hr).1
    have h2 := List.not_of_lt_findIdx hj
    rw [List.getElem?_eq_getElem hl] at hr
    cases hr
    simp at h2
    exact h2
  · have hl := (List.getElem?_eq_some_iff.1 hr).1
    have h1 : heavyI l k < l.length := by omega
    have h2 : k ≤ (l[heavyI l k]'h1).k := of_decide_eq_true (p := k ≤ (l[heavyI l k]'h1).k) (List.findIdx_getElem (w := h1))
    rcases Nat.lt_or_eq_of_le hj with h3 | h3
    · have := (h.lt_of h3 (List.getElem?_eq_getElem h1) hr).2
      exact Int.le_trans h2 (by omega)
    · rw [← h3, List.getElem?_eq_getElem h1] at hr
      cases hr
      exact h2
def colH (f : HRow → Int) (a b : HRow) (k : Int) : Fr := (ratioE (f a * (b.k - k) + f b * (k - a.k)) (b.k - a.k)).1
def valH (a b : HRow) (k : Int) : List Fr := [colH HRow.d a b k, colH HRow.b a b k, colH HRow.m a b k, colH HRow.t a b k]
def zero4 : List Fr := [zeroF, zeroF, zeroF, zeroF]
def atH (l : List HRow) (k : Int) : List Fr × Int :=
  if rightH l = true then
    if inB k (rangeH l).1.1 (rangeH l).1.2 = true then
      match l[max (heavyI l k) 1 - 1]?, l[max (heavyI l k) 1]? with
      | some a, some b => (valH a b k, 0)
      | _, _ => (zero4, 6)
    else (zero4, 6)
  else (zero4, 2)
theorem at_found {l : List HRow} (hr : rightH l = true) {k : Int} {i : Nat} {a b : HRow} (ha : l[i]? = some a) (hb : l[i + 1]? = some b) (h1 : a.k ≤ k) (h2 : k ≤ b.k)
    (hno : ∀ (j : Nat) (c d : HRow), j < i → l[j]? = some c → l[j + 1]? = some d → ¬ (c.k ≤ k ∧ k ≤ d.k)) : atH l k = (valH a b k, 0) := by
  have h := right_is hr
  have hl := (List.getElem?_eq_some_iff.1 hb).1
  have hv := heavy_is h k
  have hi : max (heavyI l k) 1 = i + 1 := by
    rcases Nat.eq_zero_or_pos i with h0 | h0
    · subst h0
      rcases Nat.lt_or_ge (heavyI l k) 2 with h3 | h3
      · omega
      · have := hv.below 1 b h3 hb
        omega
    · have h3 : a.k < k := by
        obtain ⟨c, hc⟩ : ∃ c, l[i - 1]? = some c := ⟨_, List.getElem?_eq_getElem (by omega)⟩
        have h4 := hno (i - 1) c a (by omega) hc (by rw [show i - 1 + 1 = i from by omega]; exact ha)
        have h5 := (h.lt_of (by omega : i - 1 < i) hc ha).2
        omega
      have h4 : Heavy l k (i + 1) := by
        refine ⟨by omega, fun j r hj hr => ?_, fun j r hj hr => ?_⟩
        · rcases Nat.lt_or_eq_of_le (Nat.le_of_lt_succ hj) with h5 | h5
          · have := (h.lt_of h5 hr ha).2
            omega
          · subst h5
            rw [ha] at hr
            cases hr
            exact h3
        · rcases Nat.lt_or_eq_of_le hj with h5 | h5
          · have := (h.lt_of h5 hb hr).2
            omega
          · subst h5
            rw [hb] at hr
            cases hr
            exact h2
      have := hv.eq h4
      omega
  obtain ⟨f, hf⟩ : ∃ f, l[0]? = some f := ⟨_, List.getElem?_eq_getElem (by omega)⟩
  obtain ⟨e, he⟩ : ∃ e, l[l.length - 1]? = some e := ⟨_, List.getElem?_eq_getElem (by omega)⟩
  have hlow : f.k ≤ k := by
    rcases Nat.eq_zero_or_pos i with h0 | h0
    · subst h0; rw [hf] at ha; cases ha; exact h1
    · have := (h.lt_of h0 hf ha).2; omega
  have hhigh : k ≤ e.k := by
    rcases Nat.lt_or_ge (i + 1) (l.length - 1) with h0 | h0
    · have := (h.lt_of h0 hb he).2; omega
    · rw [show l.length - 1 = i + 1 from by omega, hb] at he; cases he; exact h2
  unfold atH rangeH
  rw [if_pos hr, if_pos hr, hf, he]
  dsimp only
  rw [if_pos (by unfold inB; simp [hlow, hhigh]), hi, Nat.add_sub_cancel, ha, hb]
theorem at_none {l : List HRow} (hr : rightH l = true) {k : Int} (hno : ∀ (j : Nat) (c d : HRow), l[j]? = some c → l[j + 1]? = some d → ¬ (c.k ≤ k ∧ k ≤ d.k)) : atH l k = (zero4, 6) := by
  have h := right_is hr
  have h2 := h.two
  obtain ⟨f, hf⟩ : ∃ f, l[0]? = some f := ⟨_, List.getElem?_eq_getElem (by omega)⟩
  obtain ⟨e, he⟩ : ∃ e, l[l.length - 1]? = some e := ⟨_, List.getElem?_eq_getElem (by omega)⟩
  unfold atH rangeH
  rw [if_pos hr, if_pos hr, hf, he]
  dsimp only
  refine if_neg fun hin => ?_
  unfold inB at hin
  simp only [Bool.and_eq_true, decide_eq_true_eq] at hin
  have key : ∀ (j : Nat) (c : HRow), l[j]? = some c → c.k ≤ k := by
    intro j
    induction j with
    | zero => intro c hc; rw [hf] at hc; cases hc; exact hin.1
    | succ j ih =>
      intro c hc
      obtain ⟨b, hb⟩ : ∃ b, l[j]? = some b := ⟨_, List.getElem?_eq_getElem (by have := (List.getElem?_eq_some_iff.1 hc).1; omega)⟩
      have h3 := ih b hb
      have h4 := hno j b c hb hc
      omega
  obtain ⟨b, hb⟩ : ∃ b, l[l.length - 2]? = some b := ⟨_, List.getElem?_eq_getElem (by omega)⟩
  exact hno (l.length - 2) b e hb (by rw [show l.length - 2 + 1 = l.length - 1 from by omega]; exact he) ⟨key _ b hb, hin.2⟩
/-! weights at draughts -/
def deepC (x : Fr) (r : HRow) : Int := (cmpE (ofF r.d) x).1
def deepI (l : List HRow) (x : Fr) : Nat := l.findIdx fun r => decide (0 ≤ deepC x r)
def weightH (l : List HRow) (x : Fr) : Fr × Int :=
  if rightH l = true ∧ rightF x = true then
    match l[deepI l x]? with
    | none => (zeroF, 6)
    | some r => if deepC x r = 0 then (ofF r.k, 0) else if deepI l x = 0 then (zeroF, 6) else
      match l[deepI l x - 1]? with
      | some a => lineE a.k r.k x a.d r.d
      | none => (zeroF, 6)
  else (zeroF, 2)
theorem both_comm (f g : Fr) : bothF f g = bothF g f := by unfold bothF; exact Bool.and_comm _ _
theorem cmp_anti (x : Fr) (r : HRow) : (cmpE x (ofF r.d)).1 = - deepC x r := by
  unfold deepC cmpE
  rw [both_comm x]
  split
  · rename_i h
    unfold bothF at h
    rw [Bool.and_eq_true] at h
    have h1 := right_iff.1 h.1
    have h2 := right_iff.1 h.2
    show cmpF _ _ = - cmpF _ _
    rw [cmpF_R h1 h2, cmpF_R h2 h1]
    unfold cmpR
    split <;> split <;> first | rfl | grind
  · rfl
end Go.Proofs.Ytomhfakkebaciaa
