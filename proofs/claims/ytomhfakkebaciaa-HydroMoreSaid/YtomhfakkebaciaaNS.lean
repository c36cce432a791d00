/-
  The walks of the frac package: sums of several fractions.
-/
import Derived.Test.YtomhfakkebaciaaN14
namespace Go.Proofs.Ytomhfakkebaciaa
open Go Sat Go.RowKit Go.PlainAid
set_option linter.unusedSimpArgs false
set_option linter.unusedVariables false
def frW (f : Fr) : List Value := (frC f).map SV.r1
def frL (l : List Fr) : List Value := l.flatMap frW
theorem frW_len (f : Fr) : (frW f).length = 17 := by unfold frW; rw [List.length_map, frC_len]
theorem frL_len (l : List Fr) : (frL l).length = l.length * 17 := by
  induction l with
  | nil => rfl
  | cons f l ih =>
    unfold frL at ih ⊢
    rw [List.flatMap_cons, List.length_append, ih, frW_len, List.length_cons]
    omega
theorem frL_at {l : List Fr} {k : Nat} {f : Fr} (h : l[k]? = some f) : ((frL l).drop (k * 17)).take 17 = frW f := by
  induction l generalizing k with
  | nil => simp at h
  | cons a l ih =>
    unfold frL at ih ⊢
    rw [List.flatMap_cons]
    cases k with
    | zero =>
      simp only [List.getElem?_cons_zero, Option.some.injEq] at h
      subst h
      rw [Nat.zero_mul, List.drop_zero, ← frW_len a, List.take_left]
    | succ k =>
      rw [List.getElem?_cons_succ] at h
      have e : (k + 1) * 17 = (frW a).length + k * 17 := by rw [frW_len]; omega
      rw [e, ← List.drop_drop, List.drop_left]
      exact ih h
theorem fr_cells {l : List Fr} {i : Int} {k : Nat} {f : Fr} (h : l[k]? = some f) (hi : i = k) : (frW f).length = 17 ∧ ∀ j, j < 17 → (frL l)[mulS i.toNat 17 + j]? = (frW f)[j]? := by
  refine ⟨frW_len f, fun j hj => ?_⟩
  rw [mulS_eq, hi, Int.toNat_natCast, ← frL_at h, List.getElem?_take_of_lt hj, List.getElem?_drop]
theorem frW_v (f : Fr) : List.map SV.v (frW f) = frC f := by
  unfold frW frC
  simp only [List.map_cons, List.map_append, List.map_map]
  rfl
theorem sumE_no {l : List Fr} (h : l.all rightF = false) : sumE l = (zeroF, 2) := by unfold sumE; rw [h]; rfl
theorem right_den {f : Fr} (h : rightF f = true) : 0 < f.den := by
  unfold rightF at h
  simp only [Bool.and_eq_true, decide_eq_true_eq] at h
  omega
theorem addF_big (X f : Fr) : Big (addF X f).1 := by
  unfold addF
  split
  · exact ⟨(fitF_small _ _ _).1, (fitF_small _ _ _).2⟩
  · split <;> exact ⟨(fitF_small _ _ _).1, (fitF_small _ _ _).2⟩
theorem addF_ok {X f : Fr} (hX : 0 < X.den) (hf : 0 < f.den) (h : (addF X f).2 = 0) : rightF (addF X f).1 = true := by
  have hd := Nat.mul_pos hX hf
  unfold addF at h ⊢
  split
  · rename_i h1
    rw [if_pos h1] at h
    exact (fitF_ok hd h).1
  · rename_i h1
    rw [if_neg h1] at h
    split
    · rename_i h2
      rw [if_pos h2] at h
      exact (fitF_ok hd h).1
    · rename_i h2
      rw [if_neg h2] at h
      exact (fitF_ok hd h).1
theorem sumF_cons (X f : Fr) (l : List Fr) : sumF X (f :: l) = if (addF X f).2 = 0 then sumF (addF X f).1 l else (zeroF, (addF X f).2) := rfl
end Go.Proofs.Ytomhfakkebaciaa
