/-
  Laws of the walks' bit operations that the laws about fractions ask. No program in sight.
-/
import Derived.Test.YtlkhafpkcfdlcaaDoorN21
import Derived.Test.YtlkhafpkcfdlcaaDoorFG
set_option linter.unusedSimpArgs false
set_option linter.unusedVariables false
namespace Go.Proofs.YtlkhafpkcfdlcaaDoor
open Go Sat Go.RowKit Go.PlainAid
theorem odd_or {n : Nat} (a : BitVec n) (h : 0 < n) : (a ||| 1#n).toNat % 2 = 1 := by
  rw [BitVec.toNat_or, BitVec.toNat_ofNat]
  have h1 : 1 % 2 ^ n = 1 := Nat.mod_eq_of_lt (Nat.one_lt_two_pow (by omega))
  rw [h1, Nat.or_mod_two_eq_one]
  right; rfl
theorem or1_i64 (a : Int) : I64 (bits .or .i64 a 1) ∧ bits .or .i64 a 1 % 2 = 1 := by
  refine ⟨⟨(bits_within .or .i64 a 1).1, (bits_within .or .i64 a 1).2⟩, ?_⟩
  have h1 := odd_or (BitVec.ofInt 64 a) (by omega)
  have h2 : bits .or .i64 a 1 = IntKind.i64.wrap ((BitVec.ofInt 64 a ||| 1#64).toNat : Int) := rfl
  rw [h2]
  generalize (BitVec.ofInt 64 a ||| 1#64).toNat = k at h1
  show (IntKind.i64.wrap (k : Int)) % 2 = 1
  rw [IntKind.wrap_i64]
  omega
theorem sh4 {a : Int} (h : I64 a) : I64 (a / 2 ^ Int.toNat 4) ∧ (a / 2 ^ Int.toNat 4).natAbs ≤ 576460752303423488 := by
  have e : (2 : Int) ^ Int.toNat 4 = 16 := by decide
  have h1 := h.lo
  have h2 := h.hi
  rw [e]
  exact ⟨⟨by omega, by omega⟩, by omega⟩
theorem made_bd {a d : Int} {N : Nat} (ha : a.natAbs ≤ N) (hd : 0 ≤ d ∧ d ≤ 4294967295) : Bd (mkRat a (d + 1).natAbs) N 4294967296 := bd_mk (by omega) ha (by omega)
end Go.Proofs.YtlkhafpkcfdlcaaDoor
