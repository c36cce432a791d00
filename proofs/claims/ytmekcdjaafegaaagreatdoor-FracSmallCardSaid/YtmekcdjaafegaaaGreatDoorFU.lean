/-
  Plain facts about texts of decimal digits: which they are, and their value.
-/
import Derived.Test.YtmekcdjaafegaaaGreatDoorFT
import Derived.Lib.SlTrimSet
namespace Go.Proofs.YtmekcdjaafegaaaGreatDoor
open Go Go.Lib
set_option linter.unusedSimpArgs false
set_option linter.unusedVariables false
def tens : List UInt8 := [48, 49, 50, 51, 52, 53, 54, 55, 56, 57]
def isD (c : UInt8) : Bool := tens.contains c
set_option maxRecDepth 100000 in
theorem isD_iff {c : UInt8} : isD c = true ↔ 48 ≤ c.toNat ∧ c.toNat ≤ 57 := by
  have key : ∀ x : Fin 256, (isD (UInt8.ofNat x.val) = true ↔ 48 ≤ x.val ∧ x.val ≤ 57) := by decide
  have h := key ⟨c.toNat, c.toNat_lt⟩
  dsimp only at h
  rw [UInt8.ofNat_toNat] at h
  exact h
theorem trimS_nil {l cs : List UInt8} : trimS l cs = [] ↔ ∀ c ∈ l, cs.contains c = true := by
  have drop_nil : ∀ (p : UInt8 → Bool) (x : List UInt8), x.dropWhile p = [] ↔ ∀ c ∈ x, p c = true := by
    intro p x
    induction x with
    | nil => simp
    | cons a x ih =>
      by_cases ha : p a = true
      · rw [List.dropWhile_cons_of_pos ha, ih]; simp [ha]
      · rw [List.dropWhile_cons_of_neg ha]; simp [ha]
  unfold trimS trimLeftS trimRightS
  rw [drop_nil]
  constructor
  · intro h c hc
    have h1 : l.reverse.dropWhile (cs.contains ·) = [] := by
      generalize hr : l.reverse.dropWhile (cs.contains ·) = r at h
      cases r with
      | nil => rfl
      | cons a r =>
        have h2 := h a (by simp)
        have key : ∀ (x : List UInt8), x.dropWhile (cs.contains ·) = a :: r → cs.contains a = false := by
          intro x
          induction x with
          | nil => intro h; cases h
          | cons b x ih =>
            intro h
            by_cases hb : cs.contains b = true
            · rw [List.dropWhile_cons_of_pos hb] at h
              exact ih h
            · rw [List.dropWhile_cons_of_neg hb] at h
              cases h
              exact Bool.eq_false_iff.2 hb
        rw [key _ hr] at h2
        cases h2
    exact (drop_nil _ _).1 h1 c (by simpa using hc)
  · intro h c hc
    have := (drop_nil (cs.contains ·) l.reverse).2 (fun c hc => h c (by simpa using hc))
    rw [this] at hc
    cases hc
/-- digits without zeros ahead -/
def digB (l : List UInt8) : Bool := !l.isEmpty && (l.all isD && (l == [48] || l.head? != some 48))
def dval (l : List UInt8) : Nat := l.foldl (fun v c => 10 * v + (c.toNat - 48)) 0
theorem dval_snoc (l : List UInt8) (c : UInt8) : dval (l ++ [c]) = 10 * dval l + (c.toNat - 48) := by simp [dval, List.foldl_append]
theorem dval_take {l : List UInt8} {k : Nat} {c : UInt8} (h : l[k]? = some c) : dval (l.take (k + 1)) = 10 * dval (l.take k) + (c.toNat - 48) := by
  rw [List.take_add_one, h, Option.toList_some, dval_snoc]
theorem dch_nat {d : Nat} (h : d < 10) : (dch d).toNat = 48 + d := by
  unfold dch
  rw [UInt8.toNat_ofNat', Nat.mod_eq_of_lt (by omega)]
theorem dval_rev : ∀ (l : List Nat), (∀ x ∈ l, x < 10) → dval (l.map dch).reverse = nv 10 l
  | [], _ => rfl
  | d :: l, h => by
    rw [List.map_cons, List.reverse_cons, dval_snoc, dval_rev l (fun x hx => h x (List.mem_cons_of_mem _ hx)), dch_nat (h d List.mem_cons_self), nv]
    omega
theorem dval_tx (n : Nat) : dval (txL n) = n := by
  unfold txL
  split
  · rename_i h; subst h; rfl
  · rw [dval_rev _ (dg_lt (by decide) n), nv_dg (by decide)]
theorem digB_tx (n : Nat) : digB (txL n) = true := by
  rcases Nat.eq_zero_or_pos n with rfl | h
  · rfl
  · rw [txL_pos h]
    obtain ⟨a, ha, ha0⟩ := dg_last (B := 10) (by decide) h
    unfold digB
    have hne : dg 10 n ≠ [] := fun e => by have := (dg_nil (B := 10) (by decide)).1 e; omega
    have h1 : ((dg 10 n).map dch).reverse.isEmpty = false := by
      rw [List.isEmpty_eq_false_iff]
      simpa using hne
    have h2 : ((dg 10 n).map dch).reverse.all isD = true := by
      rw [List.all_eq_true]
      intro c hc
      rw [List.mem_reverse] at hc
      have := dg_dch c hc
      exact isD_iff.2 (by omega)
    have h3 : ((dg 10 n).map dch).reverse.head? = some (dch a) := by
      rw [List.head?_reverse, List.getLast?_eq_getElem?, List.length_map, List.getElem?_map, ha]
      rfl
    have h4 : (some (dch a) != some (48 : UInt8)) = true := by
      rw [bne_iff_ne]
      intro e
      injection e with e
      exact ha0 (dch_inj (dg_lt (by decide) n a (List.mem_of_getElem? ha)) (by decide) (e.trans rfl))
    rw [h1, h2, h3, h4]
    simp
theorem dval_lt {l : List UInt8} (h : ∀ c ∈ l, isD c = true) : dval l < 10 ^ l.length := by
  have key : ∀ (m : List UInt8), (∀ c ∈ m, isD c = true) → dval m.reverse < 10 ^ m.length := by
    intro m
    induction m with
    | nil => intro _; decide
    | cons c m ih =>
      intro h
      have h1 := ih fun x hx => h x (List.mem_cons_of_mem _ hx)
      have h2 := isD_iff.1 (h c List.mem_cons_self)
      rw [List.reverse_cons, dval_snoc, List.length_cons, Nat.pow_succ]
      omega
  have := key l.reverse (fun c hc => h c (by simpa using hc))
  rw [List.reverse_reverse, List.length_reverse] at this
  exact this
end Go.Proofs.YtmekcdjaafegaaaGreatDoor
