/-
  The walks of the reference's numbers: limbs of digits.
-/
import Derived.Test.YtlkhafpkcfdlcaaDoorR2
import Derived.Test.YtlkhafpkcfdlcaaDoorN1
namespace Go.Proofs.YtlkhafpkcfdlcaaDoor
open Go Sat Go.RowKit Go.PlainAid
set_option linter.unusedSimpArgs false
set_option linter.unusedVariables false
def uc (l : List Nat) : List SV := (us l).map .v
theorem uc_len (l : List Nat) : (uc l).length = l.length := by simp [uc, us_len]
theorem uc_set (l : List Nat) (k a : Nat) : (uc l).set k (.v (.int .u32 (a : Int))) = uc (l.set k a) := by simp [uc, us, List.map_set]
theorem uc_put {l : List Nat} {j k a : Nat} {e : Int} (hj : j = k) (he : e = a) : (uc l).set j (.v (.int .u32 e)) = uc (l.set k a) := by
  rw [hj, he, uc_set]
theorem uc_get {l : List Nat} {k a : Nat} (h : l[k]? = some a) : (uc l)[k]? = some (.v (.int .u32 a)) := by simp [uc, us, h]
theorem lim_get {n q : Nat} (h : q < 8) : (lim n)[q]? = some (n / bb ^ q % bb) := by
  unfold lim
  rw [List.getElem?_map, List.getElem?_range h]
  rfl
theorem lim_upd {N N' q old x : Nat} (hN : N < big) (ho : (lim N)[q]? = some old) (hx : x < bb) (hq : N' + bb ^ q * old = N + bb ^ q * x) : (lim N).set q x = lim N' := by
  have h1 := nv_set (B := bb) (x := x) ho
  rw [nv_lim hN] at h1
  have h2 := lim_nv (l := (lim N).set q x) (by rw [List.length_set, lim_len]) (all_set (lim_lt N) hx)
  rw [← h2.1]
  congr 1
  omega
theorem pow_half (q : Nat) : b6 ^ (2 * q) = bb ^ q := by rw [Nat.pow_mul]; rfl
theorem limb_even {n q a : Nat} (hq : q < 8) (ha : a = n / b6 ^ (2 * q) % b6) (hn : n < big) : (lim (n % b6 ^ (2 * q))).set q a = lim (n % b6 ^ (2 * q + 1)) := by
  have hp := pow_half q
  have hlt : n % b6 ^ (2 * q) < bb ^ q := by rw [hp]; exact Nat.mod_lt _ (Nat.pow_pos (by decide))
  refine lim_upd (old := 0) (Nat.lt_of_le_of_lt (Nat.mod_le _ _) hn) ?_ ?_ ?_
  · rw [lim_get hq, Nat.div_eq_of_lt hlt]; rfl
  · have : a < b6 := by rw [ha]; exact Nat.mod_lt _ (by decide)
    exact Nat.lt_trans this (by decide)
  · rw [mod_split, ← ha, hp]; omega
theorem limb_odd {n q a v : Nat} (hq : q < 8) (ha : a = n / b6 ^ (2 * q + 1) % b6) (hn : n < big) (hv : v = n % b6 ^ (2 * q + 1) / bb ^ q) : v < b6 ∧ (lim (n % b6 ^ (2 * q + 1)))[q]? = some v ∧ (lim (n % b6 ^ (2 * q + 1))).set q (v + a * b6) = lim (n % b6 ^ (2 * q + 2)) := by
  have hp := pow_half q
  have hp2 : b6 ^ (2 * q + 1) = bb ^ q * b6 := by rw [Nat.pow_succ, hp]
  have h0 : 0 < bb ^ q := Nat.pow_pos (by decide)
  have hlt : v < b6 := by
    have h1 : n % b6 ^ (2 * q + 1) < b6 ^ (2 * q + 1) := Nat.mod_lt _ (Nat.pow_pos (by decide))
    conv at h1 => rhs; rw [hp2, Nat.mul_comm]
    rw [hv]
    exact (Nat.div_lt_iff_lt_mul h0).2 h1
  have hvb : v < bb := Nat.lt_trans hlt (by decide)
  have hget : (lim (n % b6 ^ (2 * q + 1)))[q]? = some v := by rw [lim_get hq, ← hv, Nat.mod_eq_of_lt hvb]
  have ha6 : a < b6 := by rw [ha]; exact Nat.mod_lt _ (by decide)
  refine ⟨hlt, hget, lim_upd (old := v) (Nat.lt_of_le_of_lt (Nat.mod_le _ _) hn) hget ?_ ?_⟩
  · unfold b6 at hlt ha6; unfold b6 bb; omega
  · rw [mod_split (k := 2 * q + 1), ← ha, Nat.mul_add, hp2, Nat.mul_assoc, Nat.mul_comm b6 a]
    omega
theorem big_b6 : big = b6 ^ 16 := by decide
set_option maxRecDepth 100000 in
set_option maxHeartbeats 8000000 in
theorem rlimbs_any (n : Nat) (X : Option (Nat × Nat)) (capX : Nat) (w : World) (hx : Ro w X (dg b6 n).length 1 (iv (dg b6 n))) (hxl : (dg b6 n).length ≤ 1000000) :
    Calls Tryd.prog 78 #[.slice (adr X) (dg b6 n).length capX] w fun e w' => e = .returned (SV.t [.a (uc (lim (if n < big then n else 0))), .v (.bool (decide (n < big)))]).real ∧ Below w.heap.size w w' := by
  obtain ⟨m, hm⟩ : ∃ n', n' = (dg b6 n).length := ⟨_, rfl⟩
  have h16 := dg_len (B := b6) b6_2 16 n
  rw [← big_b6] at h16
  rw [← hm] at hx hxl h16 ⊢
  refine calls_sat (cx := Tryd.cx 42 [9] [] [] w) (Tryd.ok ..) Tryd.func78 rfl [.o 100 X m capX] rfl (by show 1 ≤ 42; omega) [(100, .ro X m 1 (iv (dg b6 n)))] (holds_ros rfl rfl ⟨hx, trivial⟩) ?_
  by_cases hb : n < big
  case neg =>
    have : ¬ m ≤ 16 := fun h => hb (h16.1 h)
    rw [if_neg hb, decide_eq_false hb]
    repeat' ((conv => whnf); first | refine walk (Tryd.ok ..) ?_ | (refine Cnd.mk (fun h => ?_) (fun h => ?_) <;> (first | exact cndT h (by omega) | exact cndF h (by omega) | (exfalso; simp only [decide_eq_true_eq, decide_eq_false_iff_not] at h; omega) | (exfalso; simp at h; omega) | simp at h | skip)) | refine And.intro (Kept.mk ?_) ?_ | refine Two.mk (And.intro ?_ ?_) | exact trivial | refine side2 ?_ | refine sideL2 ?_ | refine Or.inr ?_ | refine sat_drawH (Tryd.ok ..) (by kernel_rfl) ?_ | refine Exists.intro [_] (And.intro (one_byte rfl) ?_) | refine Exists.intro [_] (And.intro (fun _ => one_byte rfl) ?_) | refine Exists.intro _ (And.intro (And.intro rfl rfl) ?_) | refine Exists.intro _ (And.intro (fun _ => And.intro rfl rfl) ?_) | refine Exists.intro _ (And.intro rfl ?_))
    intro g2 hg2
    repeat' ((conv => whnf); first | refine walk (Tryd.ok ..) ?_ | (refine Cnd.mk (fun h => ?_) (fun h => ?_) <;> (first | exact cndT h (by omega) | exact cndF h (by omega) | (exfalso; simp only [decide_eq_true_eq, decide_eq_false_iff_not] at h; omega) | (exfalso; simp at h; omega) | simp at h | skip)) | refine And.intro (Kept.mk ?_) ?_ | refine Two.mk (And.intro ?_ ?_) | exact trivial | refine side2 ?_ | refine sideL2 ?_ | refine Or.inr ?_ | refine sat_drawH (Tryd.ok ..) (by kernel_rfl) ?_ | refine Exists.intro [_] (And.intro (one_byte rfl) ?_) | refine Exists.intro [_] (And.intro (fun _ => one_byte rfl) ?_) | refine Exists.intro _ (And.intro (And.intro rfl rfl) ?_) | refine Exists.intro _ (And.intro (fun _ => And.intro rfl rfl) ?_) | refine Exists.intro _ (And.intro rfl ?_))
    intro g4 hg4
    repeat' ((conv => whnf); first | refine walk (Tryd.ok ..) ?_ | (refine Cnd.mk (fun h => ?_) (fun h => ?_) <;> (first | exact cndT h (by omega) | exact cndF h (by omega) | (exfalso; simp only [decide_eq_true_eq, decide_eq_false_iff_not] at h; omega) | (exfalso; simp at h; omega) | simp at h | skip)) | refine And.intro (Kept.mk ?_) ?_ | refine Two.mk (And.intro ?_ ?_) | exact trivial | refine side2 ?_ | refine sideL2 ?_ | refine Or.inr ?_ | refine sat_drawH (Tryd.ok ..) (by kernel_rfl) ?_ | refine Exists.intro [_] (And.intro (one_byte rfl) ?_) | refine Exists.intro [_] (And.intro (fun _ => one_byte rfl) ?_) | refine Exists.intro _ (And.intro (And.intro rfl rfl) ?_) | refine Exists.intro _ (And.intro (fun _ => And.intro rfl rfl) ?_) | refine Exists.intro _ (And.intro rfl ?_))
    exact done_pure rfl rfl rfl
  have h16 := h16.2 hb
  rw [if_pos hb, decide_eq_true hb]
  repeat' ((conv => whnf); first | refine walk (Tryd.ok ..) ?_ | (refine Cnd.mk (fun h => ?_) (fun h => ?_) <;> (first | exact cndT h (by omega) | exact cndF h (by omega) | (exfalso; simp only [decide_eq_true_eq, decide_eq_false_iff_not] at h; omega) | (exfalso; simp at h; omega) | simp at h | skip)) | refine And.intro (Kept.mk ?_) ?_ | refine Two.mk (And.intro ?_ ?_) | exact trivial | refine side2 ?_ | refine sideL2 ?_ | refine Or.inr ?_ | refine sat_drawH (Tryd.ok ..) (by kernel_rfl) ?_ | refine Exists.intro [_] (And.intro (one_byte rfl) ?_) | refine Exists.intro [_] (And.intro (fun _ => one_byte rfl) ?_) | refine Exists.intro _ (And.intro (And.intro rfl rfl) ?_) | refine Exists.intro _ (And.intro (fun _ => And.intro rfl rfl) ?_) | refine Exists.intro _ (And.intro rfl ?_))
  intro g2 hg2
  repeat' ((conv => whnf); first | refine walk (Tryd.ok ..) ?_ | (refine Cnd.mk (fun h => ?_) (fun h => ?_) <;> (first | exact cndT h (by omega) | exact cndF h (by omega) | (exfalso; simp only [decide_eq_true_eq, decide_eq_false_iff_not] at h; omega) | (exfalso; simp at h; omega) | simp at h | skip)) | refine And.intro (Kept.mk ?_) ?_ | refine Two.mk (And.intro ?_ ?_) | exact trivial | refine side2 ?_ | refine sideL2 ?_ | refine Or.inr ?_ | refine sat_drawH (Tryd.ok ..) (by kernel_rfl) ?_ | refine Exists.intro [_] (And.intro (one_byte rfl) ?_) | refine Exists.intro [_] (And.intro (fun _ => one_byte rfl) ?_) | refine Exists.intro _ (And.intro (And.intro rfl rfl) ?_) | refine Exists.intro _ (And.intro (fun _ => And.intro rfl rfl) ?_) | refine Exists.intro _ (And.intro rfl ?_))
  intro g4 hg4
  repeat' ((conv => whnf); first | refine walk (Tryd.ok ..) ?_ | (refine Cnd.mk (fun h => ?_) (fun h => ?_) <;> (first | exact cndT h (by omega) | exact cndF h (by omega) | (exfalso; simp only [decide_eq_true_eq, decide_eq_false_iff_not] at h; omega) | (exfalso; simp at h; omega) | simp at h | skip)) | refine And.intro (Kept.mk ?_) ?_ | refine Two.mk (And.intro ?_ ?_) | exact trivial | refine side2 ?_ | refine sideL2 ?_ | refine Or.inr ?_ | refine sat_drawH (Tryd.ok ..) (by kernel_rfl) ?_ | refine Exists.intro [_] (And.intro (one_byte rfl) ?_) | refine Exists.intro [_] (And.intro (fun _ => one_byte rfl) ?_) | refine Exists.intro _ (And.intro (And.intro rfl rfl) ?_) | refine Exists.intro _ (And.intro (fun _ => And.intro rfl rfl) ?_) | refine Exists.intro _ (And.intro rfl ?_))
  refine sat_loop (Tryd.ok ..) (α := Nat) (fun i => ([(0, .yes, .o 100 X m capX), (2, .yes, .p 2 g2 0 0), (4, .yes, .p 4 g4 0 0), (5, .yes, .v (.int .i64 i))], [(2, .blk g2 25 (uc (lim 0))), (4, .blk g4 25 (uc (lim (n % b6 ^ i)))), (100, .ro X m 1 (iv (dg b6 n)))]))
    (fun i => i ≤ m) (fun i => m - i) (fun _ => rfl) ?_ ?_
  · refine ⟨0, Nat.zero_le _, ?_, ?_, rfl⟩
    · ((repeat' (first | exact trivial | exact rfl | refine And.intro ?_ ?_)) <;> (try (conv => whnf)) <;> (try simp only [SV.real, SV.r2, SV.r1]))
    · dsimp only
      rw [Nat.pow_zero, Nat.mod_one]
      ((repeat' (first | exact trivial | exact rfl | refine And.intro ?_ ?_)) <;> (try (conv => whnf)) <;> (try simp only [SV.real, SV.r2, SV.r1]))
  intro i hi
  by_cases hin : i < m
  · have hxa := dg_get b6_2 i n (by omega)
    obtain ⟨q, hq⟩ : ∃ q, q = i / 2 := ⟨_, rfl⟩
    have hq8 : q < 8 := by omega
    have la : n / b6 ^ i % b6 < 65536 := Nat.mod_lt _ (by decide)
    have hl8 := lim_len (n % b6 ^ i)
    have hul : (uc (lim (n % b6 ^ i))).length = 8 := by rw [uc_len, hl8]
    rcases (by omega : i = 2 * q ∨ i = 2 * q + 1) with rfl | rfl
    · have hset := limb_even (n := n) (q := q) hq8 rfl hb
      obtain ⟨a, ea⟩ : ∃ a, a = n / b6 ^ (2 * q) % b6 := ⟨_, rfl⟩
      rw [← ea] at hset hxa la
      have hlo : 0 + mulS (((2 * q : Nat) : Int) / 2).toNat 1 < (uc (lim (n % b6 ^ (2 * q)))).length := by rw [mulS_eq, hul]; omega
      repeat' ((conv => whnf); first | refine walk (Tryd.ok ..) ?_ | (refine Cnd.mk (fun h => ?_) (fun h => ?_) <;> (first | exact cndT h (by omega) | exact cndF h (by omega) | (exfalso; simp only [decide_eq_true_eq, decide_eq_false_iff_not] at h; omega) | (exfalso; simp at h; omega) | simp at h | skip)) | refine And.intro (Kept.mk ?_) ?_ | refine Two.mk (And.intro ?_ ?_) | exact trivial | refine side2 ?_ | refine sideL2 ?_ | refine Or.inr ?_ | refine sat_drawH (Tryd.ok ..) (by kernel_rfl) ?_ | refine Exists.intro [_] (And.intro (one_byte rfl) ?_) | refine Exists.intro [_] (And.intro (fun _ => one_byte rfl) ?_) | refine Exists.intro _ (And.intro (And.intro rfl rfl) ?_) | refine Exists.intro _ (And.intro (fun _ => And.intro rfl rfl) ?_) | refine Exists.intro _ (And.intro rfl ?_) | refine Exists.intro _ (And.intro (fun _ => (i_at hxa rfl)) ?_) | refine Exists.intro _ (And.intro (i_at hxa rfl) ?_))
      refine ⟨2 * q + 1, ⟨by omega, by omega⟩, ?_, ?_, rfl⟩
      · ((repeat' (first | exact trivial | exact rfl | refine And.intro ?_ ?_)) <;> (try (conv => whnf)) <;> (try simp only [SV.real, SV.r2, SV.r1]))
      · dsimp only
        rw [← hset]
        ((repeat' (first | exact trivial | exact rfl | refine And.intro ?_ ?_)) <;> (try (conv => whnf)) <;> (try simp only [SV.real, SV.r2, SV.r1]))
        all_goals exact congrArg (List.map SV.r1) (uc_put (by rw [mulS_eq]; omega) rfl)
    · obtain ⟨v, ev⟩ : ∃ v, v = n % b6 ^ (2 * q + 1) / bb ^ q := ⟨_, rfl⟩
      obtain ⟨hv6, hget, hset⟩ := limb_odd (n := n) (q := q) hq8 rfl hb ev
      obtain ⟨a, ea⟩ : ∃ a, a = n / b6 ^ (2 * q + 1) % b6 := ⟨_, rfl⟩
      rw [← ea] at hset hxa la
      have hlo : 0 + mulS (((2 * q + 1 : Nat) : Int) / 2).toNat 1 < (uc (lim (n % b6 ^ (2 * q + 1)))).length := by rw [mulS_eq, hul]; omega
      have hgo : (uc (lim (n % b6 ^ (2 * q + 1))))[0 + mulS (((2 * q + 1 : Nat) : Int) / 2).toNat 1]? = some (.v (.int .u32 v)) := by
        rw [mulS_eq, show 0 + (((2 * q + 1 : Nat) : Int) / 2).toNat * 1 = q by omega]
        exact uc_get hget
      have hv6 : v < 65536 := hv6
      repeat' ((conv => whnf); first | refine walk (Tryd.ok ..) ?_ | (refine Cnd.mk (fun h => ?_) (fun h => ?_) <;> (first | exact cndT h (by omega) | exact cndF h (by omega) | (exfalso; simp only [decide_eq_true_eq, decide_eq_false_iff_not] at h; omega) | (exfalso; simp at h; omega) | simp at h | skip)) | refine And.intro (Kept.mk ?_) ?_ | refine Two.mk (And.intro ?_ ?_) | exact trivial | refine side2 ?_ | refine sideL2 ?_ | refine Or.inr ?_ | refine Exists.intro [_] (And.intro (one_byte rfl) ?_) | refine Exists.intro [_] (And.intro (fun _ => one_byte rfl) ?_) | refine Exists.intro _ (And.intro (And.intro rfl rfl) ?_) | refine Exists.intro _ (And.intro (fun _ => And.intro rfl rfl) ?_) | refine Exists.intro _ (And.intro rfl ?_))
      refine sat_draw (Tryd.ok ..) [5] [(100, .ro X m 1 (iv (dg b6 n)))] (by kernel_rfl) (fun w hw => hw.sub ?_) ?_
      · ((repeat' (first | exact trivial | exact rfl | refine And.intro ?_ ?_)) <;> (try (conv => whnf)) <;> (try simp only [SV.real, SV.r2, SV.r1]))
      repeat' ((conv => whnf); first | refine walk (Tryd.ok ..) ?_ | (refine Cnd.mk (fun h => ?_) (fun h => ?_) <;> (first | exact cndT h (by omega) | exact cndF h (by omega) | (exfalso; simp only [decide_eq_true_eq, decide_eq_false_iff_not] at h; omega) | (exfalso; simp at h; omega) | simp at h | skip)) | refine And.intro (Kept.mk ?_) ?_ | refine Two.mk (And.intro ?_ ?_) | exact trivial | refine side2 ?_ | refine sideL2 ?_ | refine Or.inr ?_ | refine sat_drawH (Tryd.ok ..) (by kernel_rfl) ?_ | refine Exists.intro [_] (And.intro (one_byte rfl) ?_) | refine Exists.intro [_] (And.intro (fun _ => one_byte rfl) ?_) | refine Exists.intro _ (And.intro (And.intro rfl rfl) ?_) | refine Exists.intro _ (And.intro (fun _ => And.intro rfl rfl) ?_) | refine Exists.intro _ (And.intro rfl ?_) | refine Exists.intro _ (And.intro (fun _ => (i_at hxa rfl)) ?_) | refine Exists.intro _ (And.intro (i_at hxa rfl) ?_) | refine Exists.intro _ (And.intro (fun _ => (And.intro hgo rfl)) ?_) | refine Exists.intro _ (And.intro (And.intro hgo rfl) ?_))
      refine ⟨2 * q + 1 + 1, ⟨by omega, by omega⟩, ?_, ?_, rfl⟩
      · ((repeat' (first | exact trivial | exact rfl | refine And.intro ?_ ?_)) <;> (try (conv => whnf)) <;> (try simp only [SV.real, SV.r2, SV.r1]))
      · dsimp only
        rw [← hset]
        ((repeat' (first | exact trivial | exact rfl | refine And.intro ?_ ?_)) <;> (try (conv => whnf)) <;> (try simp only [SV.real, SV.r2, SV.r1]))
        all_goals exact congrArg (List.map SV.r1) (uc_put (by rw [mulS_eq]; omega) (by unfold b6; omega))
  · obtain rfl : i = m := by omega
    have hmod : n % b6 ^ i = n := Nat.mod_eq_of_lt ((dg_len b6_2 i n).1 (by omega))
    have hl8 := lim_len n
    have hul : (uc (lim n)).length = 8 := by rw [uc_len, hl8]
    rw [hmod]
    repeat' ((conv => whnf); first | refine walk (Tryd.ok ..) ?_ | (refine Cnd.mk (fun h => ?_) (fun h => ?_) <;> (first | exact cndT h (by omega) | exact cndF h (by omega) | (exfalso; simp only [decide_eq_true_eq, decide_eq_false_iff_not] at h; omega) | (exfalso; simp at h; omega) | simp at h | skip)) | refine And.intro (Kept.mk ?_) ?_ | refine Two.mk (And.intro ?_ ?_) | exact trivial | refine side2 ?_ | refine sideL2 ?_ | refine Or.inr ?_ | refine sat_drawH (Tryd.ok ..) (by kernel_rfl) ?_ | refine Exists.intro [_] (And.intro (one_byte rfl) ?_) | refine Exists.intro [_] (And.intro (fun _ => one_byte rfl) ?_) | refine Exists.intro _ (And.intro (And.intro rfl rfl) ?_) | refine Exists.intro _ (And.intro (fun _ => And.intro rfl rfl) ?_) | refine Exists.intro _ (And.intro rfl ?_))
    exact done_pure rfl rfl rfl
end Go.Proofs.YtlkhafpkcfdlcaaDoor
