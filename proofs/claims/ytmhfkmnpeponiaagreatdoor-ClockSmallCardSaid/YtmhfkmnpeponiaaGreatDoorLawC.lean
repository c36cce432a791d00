/-
  The laws of the clock: more work ends later, and so does work that is ready later.
-/
import Derived.Test.YtmhfkmnpeponiaaGreatDoorAw
import Derived.Test.YtmhfkmnpeponiaaGreatDoorL3
import Derived.Test.YtmhfkmnpeponiaaGreatDoorCQ
namespace Go.Proofs.YtmhfkmnpeponiaaGreatDoor
open Go Sat Go.RowKit Go.PlainAid
set_option linter.unusedSimpArgs false
set_option linter.unusedVariables false
theorem wk_md {x : List Int} (hx : U8 x) {a m : Int} (ha : 0 ≤ a ∧ a ≤ 100000000) (hm : 1 ≤ m ∧ m ≤ 100000000) : wkOk (mdL x) a m = true := by
  unfold wkOk timedB
  rw [md_apart hx, decide_eq_true ha.1, decide_eq_true ha.2, decide_eq_true hm.1, decide_eq_true hm.2]
  rfl
theorem fn_is {x : List Int} (hx : U8 x) {a m : Int} (ha : 0 ≤ a ∧ a ≤ 100000000) (hm : 1 ≤ m ∧ m ≤ 100000000) : (finL (mdL x) a m = none ∧ fnV (mdL x) a m = 0 ∧ fnE (mdL x) a m = 6) ∨ ∃ e, finL (mdL x) a m = some e ∧ fnV (mdL x) a m = e ∧ fnE (mdL x) a m = 0 := by
  have hk := wk_md hx ha hm
  cases h : finL (mdL x) a m with
  | none => exact .inl ⟨rfl, (fn_none hk h).1.symm, (fn_none hk h).2.symm⟩
  | some e => exact .inr ⟨e, rfl, (fn_some hk h).1.symm, (fn_some hk h).2.symm⟩
theorem ft_is {x : List Int} (hx : U8 x) {a m : Int} (ha : 0 ≤ a ∧ a ≤ 100000000) (hm : 1 ≤ m ∧ m ≤ 100000000) : (fitL (mdL x) a m = none ∧ ftV (mdL x) a m = 0 ∧ ftE (mdL x) a m = 6) ∨ ∃ e, fitL (mdL x) a m = some e ∧ ftV (mdL x) a m = e ∧ ftE (mdL x) a m = 0 := by
  have hk := wk_md hx ha hm
  cases h : fitL (mdL x) a m with
  | none => exact .inl ⟨rfl, (ft_none hk h).1.symm, (ft_none hk h).2.symm⟩
  | some e => exact .inr ⟨e, rfl, (ft_some hk h).1.symm, (ft_some hk h).2.symm⟩
theorem later_fin {x : List Int} (hx : U8 x) {a b n k : Int} (h0 : 0 ≤ a) (hab : a ≤ b) (hb : b ≤ 32767) (hn : 1 ≤ n ∧ n ≤ 500) (hk : 1 ≤ k ∧ k ≤ 500) :
    (fnE (mdL x) a (n + k) = 0 → fnE (mdL x) a n = 0 ∧ fnV (mdL x) a n < fnV (mdL x) a (n + k)) ∧ (fnE (mdL x) b n = 0 → fnE (mdL x) a n = 0 ∧ fnV (mdL x) a n ≤ fnV (mdL x) b n) ∧
    (fnE (mdL x) a n = 0 → fnV (mdL x) (fnV (mdL x) a n) k = fnV (mdL x) a (n + k) ∧ fnE (mdL x) (fnV (mdL x) a n) k = fnE (mdL x) a (n + k)) := by
  have hok := md_ok hx
  refine ⟨fun h => ?_, fun h => ?_, fun h => ?_⟩
  · rcases fn_is hx (a := a) (m := n + k) (by omega) (by omega) with ⟨_, _, h3⟩ | ⟨e, h1, h2, h3⟩
    · omega
    · obtain ⟨y, h4, h5⟩ := later1 hok hn.1 hk.1 h1
      rcases fn_is hx (a := a) (m := n) (by omega) (by omega) with ⟨g1, _, _⟩ | ⟨e', g1, g2, g3⟩
      · rw [g1] at h4; cases h4
      · rw [g1] at h4; cases h4
        omega
  · rcases fn_is hx (a := b) (m := n) (by omega) (by omega) with ⟨_, _, h3⟩ | ⟨e, h1, h2, h3⟩
    · omega
    · obtain ⟨y, h4, h5⟩ := later2 hok hn.1 hab h1
      rcases fn_is hx (a := a) (m := n) (by omega) (by omega) with ⟨g1, _, _⟩ | ⟨e', g1, g2, g3⟩
      · rw [g1] at h4; cases h4
      · rw [g1] at h4; cases h4
        omega
  · rcases fn_is hx (a := a) (m := n) (by omega) (by omega) with ⟨_, _, h3⟩ | ⟨e, h1, h2, h3⟩
    · omega
    · obtain ⟨f1, f2, f3, f4, _⟩ := fin_facts hok hn.1 h1
      have h4 := later3 hok hn.1 hk.1 h1
      rw [h2]
      rcases fn_is hx (a := e) (m := k) (by omega) (by omega) with ⟨g1, g2, g3⟩ | ⟨e', g1, g2, g3⟩ <;>
        rcases fn_is hx (a := a) (m := n + k) (by omega) (by omega) with ⟨k1, k2, k3⟩ | ⟨e'', k1, k2, k3⟩
      · omega
      · rw [g1, k1] at h4; cases h4
      · rw [g1, k1] at h4; cases h4
      · rw [g1, k1] at h4
        cases h4
        omega
theorem later_fit {x : List Int} (hx : U8 x) {a b n k : Int} (h0 : 0 ≤ a) (hab : a ≤ b) (hb : b ≤ 32767) (hn : 1 ≤ n ∧ n ≤ 500) (hk : 1 ≤ k ∧ k ≤ 500) :
    (ftE (mdL x) a (n + k) = 0 → ftE (mdL x) a n = 0 ∧ ftV (mdL x) a n ≤ ftV (mdL x) a (n + k)) ∧ (ftE (mdL x) b n = 0 → ftE (mdL x) a n = 0 ∧ ftV (mdL x) a n ≤ ftV (mdL x) b n) := by
  have hok := md_ok hx
  refine ⟨fun h => ?_, fun h => ?_⟩
  · rcases ft_is hx (a := a) (m := n + k) (by omega) (by omega) with ⟨_, _, h3⟩ | ⟨e, h1, h2, h3⟩
    · omega
    · obtain ⟨y, h4, h5⟩ := fit1 hok hn.1 (by omega) h1
      rcases ft_is hx (a := a) (m := n) (by omega) (by omega) with ⟨g1, _, _⟩ | ⟨e', g1, g2, g3⟩
      · rw [g1] at h4; cases h4
      · rw [g1] at h4; cases h4
        omega
  · rcases ft_is hx (a := b) (m := n) (by omega) (by omega) with ⟨_, _, h3⟩ | ⟨e, h1, h2, h3⟩
    · omega
    · obtain ⟨y, h4, h5⟩ := fit2 hok hn.1 hab h1
      rcases ft_is hx (a := a) (m := n) (by omega) (by omega) with ⟨g1, _, _⟩ | ⟨e', g1, g2, g3⟩
      · rw [g1] at h4; cases h4
      · rw [g1] at h4; cases h4
        omega
/-- a fact that is kept out of sight -/
structure Hid (p : Prop) : Prop where
  out : p
def atL (r l : Int) : Int := IntKind.i64.wrap (min r l / 2 ^ Int.toNat 1)
def thL (r l : Int) : Int := IntKind.i64.wrap (max r l / 2 ^ Int.toNat 1)
theorem half_is {x : Int} (h : 0 ≤ x ∧ x ≤ 65535) : IntKind.i64.wrap (x / 2 ^ Int.toNat 1) = x / 2 := by
  rw [show (2 : Int) ^ Int.toNat 1 = 2 from rfl]
  exact wrap_in (by simp only [InR]; omega)
def nOf (n : Int) : Int := 1 + n % 500
end Go.Proofs.YtmhfkmnpeponiaaGreatDoor
