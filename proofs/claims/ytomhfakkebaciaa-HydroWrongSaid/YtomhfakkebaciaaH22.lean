/-
  Wrong tables, and weights and draughts beyond a table, plain. No program in sight.
-/
import Derived.Test.YtomhfakkebaciaaHD
set_option linter.unusedSimpArgs false
set_option linter.unusedVariables false
namespace Go.Proofs.Ytomhfakkebaciaa
open Go
theorem at_under {l : List HRow} (h : rightH l = true) {a : HRow} (ha : l[0]? = some a) : atH l (a.k - 1) = (zero4, 6) := by
  have h2 := (right_is h).two
  obtain ⟨b, hb⟩ : ∃ b, l[l.length - 1]? = some b := ⟨_, List.getElem?_eq_getElem (by omega)⟩
  unfold atH rangeH
  rw [if_pos h, if_pos h, ha, hb]
  dsimp only
  rw [if_neg]
  unfold inB
  simp
  omega
theorem at_over {l : List HRow} (h : rightH l = true) {b : HRow} (hb : l[l.length - 1]? = some b) : atH l (b.k + 1) = (zero4, 6) := by
  have h2 := (right_is h).two
  obtain ⟨a, ha⟩ : ∃ b, l[0]? = some b := ⟨_, List.getElem?_eq_getElem (by omega)⟩
  unfold atH rangeH
  rw [if_pos h, if_pos h, ha, hb]
  dsimp only
  rw [if_neg]
  unfold inB
  simp
  omega
theorem half_q {n : Int} (h : n.natAbs ≤ 1000000) : Rq (ratioE n 2).1 ((n : Rat) / ((2 : Int) : Rat)) := by
  have hb := Bd.div (Bd.int n h) (Bd.int 2 (N := 2) (by decide)) (by decide)
  obtain ⟨X, hX⟩ := Rq.ex (hb.small (by decide) (by decide))
  have e : (n : Rat) / ((2 : Int) : Rat) = mkRat n (2 : Int).natAbs := by rw [Rat.mkRat_eq_div]; rfl
  have := Rq.ratio (a := n) (b := 2) (by decide) (e ▸ hX)
  rw [this]
  exact hX
theorem deep_q {r : HRow} {x : Fr} {q : Rat} (hr : okR r = true) (hx : Rq x q) : deepC x r = cmpR (r.d : Rat) q := by
  unfold deepC
  rw [(rq_of (cols_d.bd _ hr)).cmp hx]
theorem half_up (n : Int) : (n : Rat) < ((2 * n + 1 : Int) : Rat) / ((2 : Int) : Rat) := by
  have h2 : ((2 : Int) : Rat) = 2 := rfl
  rw [h2, Rat.div_def]
  simp only [Rat.intCast_add, Rat.intCast_mul, h2]
  have : ((1 : Int) : Rat) = 1 := rfl
  grind
theorem half_dn (n : Int) : ((2 * n - 1 : Int) : Rat) / ((2 : Int) : Rat) < (n : Rat) := by
  have h2 : ((2 : Int) : Rat) = 2 := rfl
  rw [h2, Rat.div_def]
  simp only [Rat.intCast_sub, Rat.intCast_mul, h2]
  have : ((1 : Int) : Rat) = 1 := rfl
  grind
theorem weight_under {l : List HRow} (h : rightH l = true) {a : HRow} (ha : l[0]? = some a) : weightH l (ratioE (2 * a.d - 1) 2).1 = (zeroF, 6) := by
  have oa := (right_is h).row _ a ha
  have hd := (ok_row oa).d
  have hq := half_q (n := 2 * a.d - 1) (by omega)
  have hc := deep_q oa hq
  have h0 : deepC (ratioE (2 * a.d - 1) 2).1 a = 1 := by
    rw [hc]
    unfold cmpR
    have := half_dn a.d
    rw [if_neg (by grind), if_pos this]
  have hI : deepI l (ratioE (2 * a.d - 1) 2).1 = 0 := by
    unfold deepI
    have hl := (List.getElem?_eq_some_iff.1 ha).1
    cases l with
    | nil => simp at hl
    | cons y l =>
      simp at ha
      subst ha
      rw [List.findIdx_cons]
      rw [h0]
      rfl
  unfold weightH
  rw [if_pos ⟨h, hq.rightF_⟩, hI, ha]
  dsimp only
  rw [if_neg (by omega), if_pos rfl]
theorem weight_over {l : List HRow} (h : rightH l = true) {b : HRow} (hb : l[l.length - 1]? = some b) : weightH l (ratioE (2 * b.d + 1) 2).1 = (zeroF, 6) := by
  have hR := right_is h
  have h2 := hR.two
  have ob := hR.row _ b hb
  have hd := (ok_row ob).d
  have hq := half_q (n := 2 * b.d + 1) (by omega)
  have hlt : ∀ (j : Nat) (c : HRow), l[j]? = some c → deepC (ratioE (2 * b.d + 1) 2).1 c < 0 := by
    intro j c hc
    have oc := hR.row _ c hc
    have hcb : c.d ≤ b.d := by
      have hl := (List.getElem?_eq_some_iff.1 hc).1
      rcases Nat.lt_or_ge j (l.length - 1) with h3 | h3
      · have := (hR.lt_of h3 hc hb).1; omega
      · rw [show j = l.length - 1 from by omega, hb] at hc
        cases hc
        exact Int.le_refl _
    rw [deep_q oc hq]
    have e1 := half_up b.d
    have e2 : (c.d : Rat) ≤ (b.d : Rat) := Rat.intCast_le_intCast.2 hcb
    unfold cmpR
    rw [if_pos (by grind)]
    decide
  have hno : l[deepI l (ratioE (2 * b.d + 1) 2).1]? = none := by
    refine List.getElem?_eq_none ?_
    unfold deepI
    refine Nat.le_of_not_lt fun h1 => ?_
    have h2 := List.findIdx_getElem (p := fun r => decide (0 ≤ deepC (ratioE (2 * b.d + 1) 2).1 r)) (xs := l) (w := h1)
    have h3 := hlt _ _ (List.getElem?_eq_getElem h1)
    have h4 := of_decide_eq_true h2
    omega
  unfold weightH
  rw [if_pos ⟨h, hq.rightF_⟩, hno]
theorem weight_zf (l : List HRow) : weightH l zeroF = (zeroF, 2) := by
  unfold weightH
  rw [if_neg]
  rintro ⟨-, h⟩
  revert h
  decide
theorem wrong_row {l : List HRow} {i : Nat} {r : HRow} (hr : l[i]? = some r) (h : okR r = false) : rightH l = false := by
  unfold rightH
  rw [Bool.and_eq_false_iff]
  refine .inl ?_
  rw [List.all_eq_false]
  refine ⟨i, List.mem_range.2 (List.getElem?_eq_some_iff.1 hr).1, ?_⟩
  unfold okAt
  rw [hr]
  dsimp only
  rw [h]
  simp
theorem wrong_twice {l : List HRow} (hR : IsRight l) {i : Nat} {r : HRow} (hr : l[i]? = some r) : rightH (l ++ [r]) = false := by
  have h2 := hR.two
  obtain ⟨b, hb⟩ : ∃ b, l[l.length - 1]? = some b := ⟨_, List.getElem?_eq_getElem (by omega)⟩
  have hl := (List.getElem?_eq_some_iff.1 hr).1
  have hrb : r.k ≤ b.k := by
    rcases Nat.lt_or_ge i (l.length - 1) with h3 | h3
    · have := (hR.lt_of h3 hr hb).2; omega
    · rw [show i = l.length - 1 from by omega, hb] at hr
      cases hr
      exact Int.le_refl _
  unfold rightH
  rw [Bool.and_eq_false_iff]
  refine .inl ?_
  rw [List.all_eq_false]
  refine ⟨l.length, List.mem_range.2 (by simp), ?_⟩
  have e1 : (l ++ [r])[l.length]? = some r := by rw [List.getElem?_append_right (Nat.le_refl _)]; simp
  have e2 : (l ++ [r])[l.length - 1]? = some b := by rw [List.getElem?_append_left (by omega)]; exact hb
  unfold okAt
  rw [e1, e2]
  dsimp only
  have : ltR b r = false := by
    unfold ltR
    rw [Bool.and_eq_false_iff]
    exact .inr (decide_eq_false (by omega))
  rw [this, Bool.or_false]
  have : (l.length == 0) = false := beq_false_of_ne (by omega)
  rw [this, Bool.and_false]
  simp
theorem wrong_one {l : List HRow} : rightH (l.take 1) = false := by
  unfold rightH
  rw [Bool.and_eq_false_iff]
  refine .inr ?_
  rw [List.length_take]
  simp
  omega
end Go.Proofs.Ytomhfakkebaciaa
