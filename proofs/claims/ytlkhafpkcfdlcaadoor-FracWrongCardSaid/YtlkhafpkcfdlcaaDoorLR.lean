/-
  Calls of the frac package at right fractions, told by rational numbers.
-/
import Derived.Test.YtlkhafpkcfdlcaaDoorN21
import Derived.Test.YtlkhafpkcfdlcaaDoorFG
namespace Go.Proofs.YtlkhafpkcfdlcaaDoor
open Go Sat Go.RowKit Go.PlainAid
set_option linter.unusedSimpArgs false
set_option linter.unusedVariables false
theorem Rq.big {X : Fr} {q : Rat} (h : Rq X q) : Big X := by
  rw [h.eq]
  exact ⟨h.small.1, h.small.2⟩
theorem add_rv {X Y Z : Fr} {p q : Rat} (hx : Rq X p) (hy : Rq Y q) (hz : Rq Z (p + q)) (w : World) : Calls Tryd.prog 14 #[frV X, frV Y] w fun e w' => e = .returned (.tuple #[frV Z, .int .i64 0]) ∧ Below w.heap.size w w' := by
  have h := addE_any X Y w hx.big hy.big
  rw [hx.add hy hz] at h
  exact h
theorem sub_rv {X Y Z : Fr} {p q : Rat} (hx : Rq X p) (hy : Rq Y q) (hz : Rq Z (p - q)) (w : World) : Calls Tryd.prog 15 #[frV X, frV Y] w fun e w' => e = .returned (.tuple #[frV Z, .int .i64 0]) ∧ Below w.heap.size w w' := by
  have h := subE_any X Y w hx.big hy.big
  rw [hx.sub hy hz] at h
  exact h
theorem mul_rv {X Y Z : Fr} {p q : Rat} (hx : Rq X p) (hy : Rq Y q) (hz : Rq Z (p * q)) (w : World) : Calls Tryd.prog 17 #[frV X, frV Y] w fun e w' => e = .returned (.tuple #[frV Z, .int .i64 0]) ∧ Below w.heap.size w w' := by
  have h := mul_any X Y w hx.big hy.big
  rw [hx.mul hy hz] at h
  exact h
theorem div_rv {X Y Z : Fr} {p q : Rat} (hx : Rq X p) (hy : Rq Y q) (hz : Rq Z (p / q)) (h0 : q ≠ 0) (w : World) : Calls Tryd.prog 19 #[frV X, frV Y] w fun e w' => e = .returned (.tuple #[frV Z, .int .i64 0]) ∧ Below w.heap.size w w' := by
  have h := div_any X Y w hx.big hy.big
  rw [hx.div hy hz h0] at h
  exact h
theorem div_rv0 {X Y : Fr} {p : Rat} (hx : Rq X p) (hy : Rq Y 0) (w : World) : Calls Tryd.prog 19 #[frV X, frV Y] w fun e w' => e = .returned (.tuple #[frV zeroF, .int .i64 2]) ∧ Below w.heap.size w w' := by
  have h := div_any X Y w hx.big hy.big
  rw [Rq.div_zero (p := p) hy] at h
  exact h
theorem cmp_rv {X Y : Fr} {p q : Rat} (hx : Rq X p) (hy : Rq Y q) (w : World) : Calls Tryd.prog 24 #[frV X, frV Y] w fun e w' => e = .returned (.tuple #[.int .i64 (cmpR p q), .int .i64 0]) ∧ Below w.heap.size w w' := by
  have h := cmpE_any X Y w hx.big hy.big
  rw [hx.cmp hy] at h
  exact h
theorem of_rv {X : Fr} {n : Int} (hx : Rq X (n : Rat)) (hn : I64 n) (w : World) : Calls Tryd.prog 18 #[.int .i64 n] w fun e w' => e = .returned (frV X) ∧ Below w.heap.size w w' := by
  have h := of_frac n w hn
  rw [hx.of] at h
  exact h
theorem made_rv {X : Fr} {a b : Int} (ha : I64 a) (hb : 0 ≤ b ∧ b ≤ 4294967295) (hx : Rq X (mkRat a (b + 1).natAbs)) (w : World) : Calls Tryd.prog 13 #[.int .i64 a, .int .u32 b] w fun e w' => e = .returned (frV X) ∧ Below w.heap.size w w' := by
  have h := made_any a b w ha hb
  unfold made at h
  rw [Rq.ratio (by omega) hx] at h
  exact h
theorem floor_rv {X : Fr} {p : Rat} (hx : Rq X p) (hb : -9223372036854775808 ≤ p.floor ∧ p.floor ≤ 9223372036854775807) (w : World) : Calls Tryd.prog 25 #[frV X] w fun e w' => e = .returned (.tuple #[.int .i64 p.floor, .int .i64 0]) ∧ Below w.heap.size w w' := by
  have h := floorE_any X w hx.big
  have h1 := whole_R hx.right
  rw [hx.toR_] at h1
  have e : floorE X = (p.floor, 0) := by
    rw [← h1] at hb ⊢
    unfold floorE sg at *
    rw [if_pos hx.rightF_]
    cases hn : X.neg
    · rw [hn] at hb
      simp only [Bool.false_eq_true, if_false] at hb ⊢
      rw [if_pos (by omega)]
    · rw [hn] at hb
      simp only [if_true] at hb ⊢
      rw [if_pos (by omega)]
  rw [e] at h
  exact h
theorem eq_rv {X Y : Fr} {p q : Rat} (hx : Rq X p) (hy : Rq Y q) {b : Bool} (hb : decide (p = q) = b) (w : World) : (Op.equal 27 (SV.a (List.take 17 (List.drop 0 (frC X)))).real (SV.a (List.take 17 (List.drop 0 (frC Y)))).real).run Tryd.prog w = .ok b w := by
  have h := eqFr1 X Y hx.big hy.big w
  rw [tk1, tk1]
  have e : eqFr X Y = b := by
    rw [← hb, Bool.eq_iff_iff, eqFr_iff, hx.eq_iff hy, decide_eq_true_eq]
  rw [e] at h
  exact h
theorem eq_rv' {X Y : Fr} {p q : Rat} (hx : Rq X p) (hy : Rq Y q) {b : Bool} (hb : decide (p = q) = b) (w : World) : (Op.equal 27 (SV.a (List.take 17 (List.drop 0 (frC X)))).real (SV.a (frC Y)).real).run Tryd.prog w = .ok b w := by
  have h := eq_rv hx hy hb w
  rw [tk1 Y] at h
  exact h
end Go.Proofs.YtlkhafpkcfdlcaaDoor
