/-
  The walk of the law's helper: a number whose bits from one on are all 1.
-/
import Derived.Test.YtmekcdjaafegaaaGreatDoorRA
namespace Go.Proofs.YtmekcdjaafegaaaGreatDoor
open Go Sat Go.RowKit Go.PlainAid
set_option linter.unusedSimpArgs false
set_option linter.unusedVariables false
/-- the bits from one on, below another one -/
def hi (f i : Nat) : Nat := 2 ^ i - 2 ^ f
theorem hi_step {f i : Nat} (h : f ≤ i) : hi f (i + 1) = hi f i + 2 ^ i := by
  unfold hi
  have := Nat.pow_le_pow_right (n := 2) (by decide) h
  rw [Nat.pow_succ]
  omega
theorem hi_lt (f i : Nat) : hi f i < 2 ^ i := by
  unfold hi
  have := Nat.pow_pos (a := 2) (n := i) (by decide)
  have := Nat.pow_pos (a := 2) (n := f) (by decide)
  omega
theorem big_bits : big = 2 ^ 256 := by decide
theorem hi_big {f i : Nat} (h : i ≤ 256) : hi f i < big := by
  rw [big_bits]
  exact Nat.lt_of_lt_of_le (hi_lt f i) (Nat.pow_le_pow_right (by decide) h)
theorem or_u32 {a k : Nat} (ha : a < 2 ^ k) (hk : k < 32) : bits .or .u32 (a : Int) ((2 ^ k : Nat) : Int) = ((a + 2 ^ k : Nat) : Int) := by
  have hk31 : 2 ^ k ≤ 2 ^ 31 := Nat.pow_le_pow_right (by decide) (by omega)
  have e : 2 ^ k ||| a = 2 ^ k + a := by
    have := Nat.two_pow_add_eq_or_of_lt (i := k) (b := a) ha 1
    rw [Nat.mul_one] at this
    exact this.symm
  rw [Nat.or_comm] at e
  obtain ⟨K, hK⟩ : ∃ K, K = 2 ^ k := ⟨_, rfl⟩
  rw [← hK] at ha hk31 e ⊢
  rw [show (2 : Nat) ^ 31 = 2147483648 from rfl] at hk31
  have h1 : (BitVec.ofInt 32 (a : Int)).toNat = a := by
    rw [BitVec.ofInt_natCast, BitVec.toNat_ofNat]; exact Nat.mod_eq_of_lt (by omega)
  have h2 : (BitVec.ofInt 32 (K : Int)).toNat = K := by
    rw [BitVec.ofInt_natCast, BitVec.toNat_ofNat]; exact Nat.mod_eq_of_lt (by omega)
  show IntKind.u32.wrap ((BitVec.ofInt 32 (a : Int) ||| BitVec.ofInt 32 (K : Int)).toNat : Int) = _
  rw [BitVec.toNat_or, h1, h2, e, wrap_u32]
  omega
theorem hi_limb {f i q k : Nat} (hi1 : i < 256) (hf : f ≤ i) (hq : q = i / 32) (hk : k = i % 32) : ∃ a, a < 2 ^ k ∧ (lim (hi f i))[q]? = some a ∧ (lim (hi f i)).set q (a + 2 ^ k) = lim (hi f (i + 1)) := by
  have hp : bb ^ q = 2 ^ (32 * q) := by rw [Nat.pow_mul]; rfl
  have hik : i = 32 * q + k := by omega
  have hlt := hi_lt f i
  have ha : hi f i / bb ^ q < 2 ^ k := by
    rw [hp]
    refine (Nat.div_lt_iff_lt_mul (Nat.pow_pos (by decide))).2 ?_
    rw [← Nat.pow_add, Nat.add_comm k, ← hik]
    exact hlt
  have hk32 : 2 ^ (k + 1) ≤ 2 ^ 32 := Nat.pow_le_pow_right (by decide) (by omega)
  rw [Nat.pow_succ] at hk32
  have hbb : bb = 2 ^ 32 := rfl
  have hp2 := Nat.pow_pos (a := 2) (n := k) (by decide)
  have hab : hi f i / bb ^ q < bb := by omega
  have hget : (lim (hi f i))[q]? = some (hi f i / bb ^ q) := by rw [lim_get (by omega), Nat.mod_eq_of_lt hab]
  refine ⟨_, ha, hget, lim_upd (old := hi f i / bb ^ q) (hi_big (by omega)) hget (by omega) ?_⟩
  rw [hi_step hf, Nat.mul_add]
  have : bb ^ q * 2 ^ k = 2 ^ i := by rw [hp, ← Nat.pow_add, ← hik]
  omega
set_option maxRecDepth 100000 in
set_option maxHeartbeats 8000000 in
theorem high_any (f : Nat) (w : World) (hf : f ≤ 256) :
    Calls Tryz.prog 39 #[.int .i64 f] w fun e w' => e = .returned (SV.a (uc (lim (hi f 256)))).real ∧ Below w.heap.size w w' := by
  refine calls_sat (cx := Tryz.cx 20 [5] [] [] w) (Tryz.ok ..) Tryz.func39 rfl [.v (.int .i64 f)] rfl (by show 1 ≤ 20; omega) [] (holds_nil (Nat.le_refl _)) ?_
  repeat' ((conv => whnf); first | refine walk (Tryz.ok ..) ?_ | fail)
  intro g2 hg2
  repeat' ((conv => whnf); first | refine walk (Tryz.ok ..) ?_ | fail)
  intro g3 hg3
  repeat' ((conv => whnf); first | refine walk (Tryz.ok ..) ?_ | fail)
  refine sat_loop (Tryz.ok ..) (α := Nat) (fun i => ([(0, .yes, .v (.int .i64 f)), (2, .yes, .p 2 g2 0 0), (3, .yes, .p 3 g3 0 0), (4, .yes, .v (.int .i64 i))], [(2, .blk g2 26 (uc (lim 0))), (3, .blk g3 26 (uc (lim (hi f i))))]))
    (fun i => f ≤ i ∧ i ≤ 256) (fun i => 256 - i) (fun _ => rfl) ?_ ?_
  · refine ⟨f, ⟨Nat.le_refl _, hf⟩, ?_, ?_, rfl⟩
    · ((repeat' (first | exact trivial | exact rfl | refine And.intro ?_ ?_)) <;> (try (conv => whnf)) <;> (try simp only [SV.real, SV.r2, SV.r1]))
    · dsimp only
      rw [show hi f f = 0 from Nat.sub_self _]
      ((repeat' (first | exact trivial | exact rfl | refine And.intro ?_ ?_)) <;> (try (conv => whnf)) <;> (try simp only [SV.real, SV.r2, SV.r1]))
  rintro i ⟨hfi, hi0⟩
  have hl8 := lim_len (hi f i)
  have hul : (uc (lim (hi f i))).length = 8 := by rw [uc_len, hl8]
  by_cases hin : i < 256
  · obtain ⟨q, hq⟩ : ∃ q, q = i / 32 := ⟨_, rfl⟩
    obtain ⟨k, hk⟩ : ∃ k, k = i % 32 := ⟨_, rfl⟩
    obtain ⟨a, ha, hget, hset⟩ := hi_limb hin hfi hq hk
    have hor := or_u32 ha (by omega)
    have hp32 : 2 ^ k ≤ 2 ^ 31 := Nat.pow_le_pow_right (by decide) (by omega)
    have hwr : IntKind.u32.wrap ((2 ^ k : Nat) : Int) = ((2 ^ k : Nat) : Int) := by
      rw [show (2 : Nat) ^ 31 = 2147483648 from rfl] at hp32
      rw [wrap_u32]
      omega
    have hlo : 0 + mulS ((i : Int) / 32).toNat 1 < (uc (lim (hi f i))).length := by rw [mulS_eq, hul]; omega
    have hgo : (uc (lim (hi f i)))[0 + mulS ((i : Int) / 32).toNat 1]? = some (.v (.int .u32 a)) := by
      rw [mulS_eq, show 0 + ((i : Int) / 32).toNat * 1 = q by omega]
      exact uc_get hget
    repeat' ((conv => whnf); first | refine walk (Tryz.ok ..) ?_ | (refine Cnd.mk (fun h => ?_) (fun h => ?_) <;> (first | exact cndT h (by (try dsimp only); omega) | exact cndF h (by (try dsimp only); omega) | (exfalso; simp at h; omega) | simp at h | skip)) | fail)
    refine sat_draw (Tryz.ok ..) [3] [] (by kernel_rfl) (fun w hw => hw.sub trivial) ?_
    repeat' ((conv => whnf); first | refine walk (Tryz.ok ..) ?_ | refine kp ?_ ?_ | exact trivial | refine side2 ?_ | refine sideL2 ?_ | refine Or.inr ?_ | refine xi _ (And.intro hgo rfl) ?_ | fail)
    skip
    refine ⟨i + 1, ⟨⟨by omega, by omega⟩, by omega⟩, ?_, ?_, rfl⟩
    · ((repeat' (first | exact trivial | exact rfl | refine And.intro ?_ ?_)) <;> (try (conv => whnf)) <;> (try simp only [SV.real, SV.r2, SV.r1]))
    · dsimp only
      rw [← hset]
      ((repeat' (first | exact trivial | exact rfl | refine And.intro ?_ ?_)) <;> (try (conv => whnf)) <;> (try simp only [SV.real, SV.r2, SV.r1]))
      all_goals exact congrArg (List.map SV.r1) (uc_put (by rw [mulS_eq]; omega) (by
        rw [show ((i : Int) % 32).toNat = k by omega, Int.one_mul, show (2 : Int) ^ k = ((2 ^ k : Nat) : Int) from (Int.natCast_pow 2 k).symm, hwr]
        exact hor))
  · obtain rfl : i = 256 := by omega
    repeat' ((conv => whnf); first | refine walk (Tryz.ok ..) ?_ | (refine Cnd.mk (fun h => ?_) (fun h => ?_) <;> (first | exact cndT h (by (try dsimp only); omega) | exact cndF h (by (try dsimp only); omega) | (exfalso; simp at h; omega) | simp at h | skip)) | refine side2 ?_ | fail)
    exact done_pure rfl rfl rfl
end Go.Proofs.YtmekcdjaafegaaaGreatDoor
