/-
  The walks of the frac package: products of numbers.
-/
import Derived.Test.YtlkhafpkcfdlcaaGreatDoorN2
namespace Go.Proofs.YtlkhafpkcfdlcaaGreatDoor
open Go Sat Go.RowKit Go.PlainAid
set_option linter.unusedSimpArgs false
set_option linter.unusedVariables false
theorem mul_lim {a b : Nat} (ha : a < bb) (hb : b < bb) : a * b ≤ 18446744065119617025 := by
  unfold bb at ha hb
  have h : a * b ≤ 4294967295 * 4294967295 := Nat.mul_le_mul (by omega) (by omega)
  omega
theorem add3 (a b c d : Nat) : a % bb = a % bb := rfl
set_option maxRecDepth 100000 in
set_option maxHeartbeats 8000000 in
theorem times_any (x y : Nat) (X Y : Option (Nat × Nat)) (capX capY : Nat) (w : World) (hx : Ro w X (dg bb x).length 1 (us (dg bb x))) (hy : Ro w Y (dg bb y).length 1 (us (dg bb y))) (hxl : (dg bb x).length ≤ 1000000) (hyl : (dg bb y).length ≤ 1000000) :
    Calls Tryz.prog 52 #[.slice (adr X) (dg bb x).length capX, .slice (adr Y) (dg bb y).length capY] w fun e w' => ∃ v, e = .returned v ∧ w'.ownsRow w.heap.size 26 1 v (dg bb (x * y)).length (us (dg bb (x * y))) ∧ Below w.heap.size w w' := by
  obtain ⟨n, hn⟩ : ∃ n, n = (dg bb x).length := ⟨_, rfl⟩
  obtain ⟨m, hm⟩ : ∃ n, n = (dg bb y).length := ⟨_, rfl⟩
  rw [← hn] at hx hxl ⊢
  rw [← hm] at hy hyl ⊢
  refine calls_sat (cx := Tryz.cx 67 [] [] [] w) (Tryz.ok ..) Tryz.func52 rfl [.o 100 X n capX, .o 101 Y m capY] rfl (by show 2 ≤ 67; omega) [(100, .ro X n 1 (us (dg bb x))), (101, .ro Y m 1 (us (dg bb y)))] (holds_ros rfl rfl ⟨hx, hy, trivial⟩) ?_
  have hbb : bb = 4294967296 := rfl
  repeat' ((conv => whnf); first | refine walk (Tryz.ok ..) ?_ | (refine Cnd.mk (fun h => ?_) (fun h => ?_) <;> (first | exact cndT h (by (try dsimp only); omega) | exact cndF h (by (try dsimp only); omega) | (exfalso; simp at h; omega) | simp at h | skip)) | refine kp ?_ ?_ | refine tw ?_ ?_ | exact trivial | refine side2 ?_ | refine sideL2 ?_ | refine Or.inr ?_ | refine sat_drawH (Tryz.ok ..) (by kernel_rfl) ?_ | refine xi _ (And.intro rfl rfl) ?_ | refine xi _ (fun _ => And.intro rfl rfl) ?_ | refine xi _ rfl ?_)
  intro g hg
  repeat' ((conv => whnf); first | refine walk (Tryz.ok ..) ?_ | (refine Cnd.mk (fun h => ?_) (fun h => ?_) <;> (first | exact cndT h (by (try dsimp only); omega) | exact cndF h (by (try dsimp only); omega) | (exfalso; simp at h; omega) | simp at h | skip)) | refine kp ?_ ?_ | refine tw ?_ ?_ | exact trivial | refine side2 ?_ | refine sideL2 ?_ | refine Or.inr ?_ | refine sat_drawH (Tryz.ok ..) (by kernel_rfl) ?_ | refine xi _ (And.intro rfl rfl) ?_ | refine xi _ (fun _ => And.intro rfl rfl) ?_ | refine xi _ rfl ?_)
  have en : ((n : Int) + (m : Int)).toNat = n + m := by omega
  rw [en]
  refine sat_loop (Tryz.ok ..) (α := Nat × List Nat) (fun s => ([(1, .yes, .o 101 Y m capY), (5, .yes, .o 16 (some (g, 0)) (n + m) (n + m)), (17, .yes, .o 100 X n capX), (18, .yes, .v (.int .i64 n)), (19, .yes, .v (.int .i64 s.1))], [(16, .row (some (g, 0)) 26 1 (n + m) (n + m) (us s.2)), (100, .ro X n 1 (us (dg bb x))), (101, .ro Y m 1 (us (dg bb y)))]))
    (fun s => s.1 ≤ n ∧ s.2.length = n + m ∧ (∀ z ∈ s.2, z < bb) ∧ (∀ q, s.1 + m ≤ q → q < n + m → s.2[q]? = some 0) ∧ nv bb s.2 = (x % bb ^ s.1) * y) (fun s => n - s.1) (fun _ => rfl) ?_ ?_
  · refine ⟨(0, List.replicate (n + m) 0), ⟨Nat.zero_le _, List.length_replicate .., ?_, ?_, ?_⟩, ?_, ?_, rfl⟩
    · intro z hz
      rw [(List.mem_replicate.1 hz).2]; decide
    · intro q _ hq
      rw [List.getElem?_replicate, if_pos hq]
    · rw [nv_rep]; simp [Nat.mod_one]
    · ((repeat' (first | exact trivial | exact rfl | refine And.intro ?_ ?_)) <;> (try (conv => whnf)) <;> (try simp only [SV.real, SV.r2, SV.r1]))
    · dsimp only
      rw [← made_us]
      ((repeat' (first | exact trivial | exact rfl | refine And.intro ?_ ?_)) <;> (try (conv => whnf)) <;> (try simp only [SV.real, SV.r2, SV.r1]))
  rintro ⟨i, o⟩ ⟨hi, ho, hob, hoz, hinv⟩
  dsimp only at hi ho hob hoz hinv
  by_cases hin : i < n
  · have hxa := dg_get (B := bb) (by decide) i x (by omega)
    have hxb : x / bb ^ i % bb < bb := Nat.mod_lt _ (by decide)
    obtain ⟨xa, exa⟩ : ∃ v, v = x / bb ^ i % bb := ⟨_, rfl⟩
    rw [← exa] at hxa hxb
    have hms := mod_split bb x i
    rw [← exa] at hms
    repeat' ((conv => whnf); first | refine walk (Tryz.ok ..) ?_ | (refine Cnd.mk (fun h => ?_) (fun h => ?_) <;> (first | exact cndT h (by (try dsimp only); omega) | exact cndF h (by (try dsimp only); omega) | (exfalso; simp at h; omega) | simp at h | skip)) | refine kp ?_ ?_ | refine tw ?_ ?_ | exact trivial | refine side2 ?_ | refine sideL2 ?_ | refine Or.inr ?_ | refine sat_drawH (Tryz.ok ..) (by kernel_rfl) ?_ | refine xi _ (And.intro rfl rfl) ?_ | refine xi _ (fun _ => And.intro rfl rfl) ?_ | refine xi _ rfl ?_ | refine xi _ (fun _ => (u_at hxa rfl)) ?_ | refine xi _ (u_at hxa rfl) ?_)
    refine sat_loop (Tryz.ok ..) (α := Nat × List Nat × Nat) (fun s => ([(1, .yes, .o 101 Y m capY), (5, .yes, .o 16 (some (g, 0)) (n + m) (n + m)), (6, .yes, .v (.int .i64 i)), (7, .yes, .v (.int .u32 xa)), (8, .yes, .v (.int .u64 s.2.2)), (17, .yes, .o 100 X n capX), (18, .yes, .v (.int .i64 n)), (19, .yes, .v (.int .i64 i)), (24, .yes, .o 101 Y m capY), (25, .yes, .v (.int .i64 m)), (26, .yes, .v (.int .i64 s.1))], [(16, .row (some (g, 0)) 26 1 (n + m) (n + m) (us s.2.1)), (100, .ro X n 1 (us (dg bb x))), (101, .ro Y m 1 (us (dg bb y)))]))
      (fun s => s.1 ≤ m ∧ s.2.1.length = n + m ∧ (∀ z ∈ s.2.1, z < bb) ∧ (∀ q, i + s.1 ≤ q → q < n + m → s.2.1[q]? = o[q]?) ∧ s.2.2 < bb ∧ nv bb s.2.1 + bb ^ (i + s.1) * s.2.2 = nv bb o + bb ^ i * (xa * (y % bb ^ s.1))) (fun s => m - s.1) (fun _ => rfl) ?_ ?_
    · refine ⟨(0, o, 0), ⟨Nat.zero_le _, ho, hob, fun _ _ _ => rfl, (show 0 < bb by decide), ?_⟩, ?_, ?_, rfl⟩
      · simp [Nat.mod_one]
      · ((repeat' (first | exact trivial | exact rfl | refine And.intro ?_ ?_)) <;> (try (conv => whnf)) <;> (try simp only [SV.real, SV.r2, SV.r1]))
      · ((repeat' (first | exact trivial | exact rfl | refine And.intro ?_ ?_)) <;> (try (conv => whnf)) <;> (try simp only [SV.real, SV.r2, SV.r1]))
    rintro ⟨k, p, c⟩ ⟨hk, hp, hpb, hpz, hc, hpinv⟩
    dsimp only at hk hp hpb hpz hc hpinv
    by_cases hkm : k < m
    · have hya := dg_get (B := bb) (by decide) k y (by omega)
      have hyb : y / bb ^ k % bb < bb := Nat.mod_lt _ (by decide)
      obtain ⟨z, hz⟩ := us_at (l := p) (k := i + k) (by omega)
      have hzb := hpb z (List.mem_of_getElem? hz)
      have hst := fun v' h => mul_step (B := bb) (v' := v') (y := z) hpinv h
      obtain ⟨ya, eya⟩ : ∃ v, v = y / bb ^ k % bb := ⟨_, rfl⟩
      rw [← eya] at hya hyb hst
      have hml := mul_lim hxb hyb
      obtain ⟨q, hq⟩ : ∃ q, q = xa * ya := ⟨_, rfl⟩
      have hqi : (xa : Int) * (ya : Int) = (q : Int) := by rw [hq]; exact (Int.natCast_mul ..).symm
      rw [← hq] at hml hst
      have hs2 := nv_set (B := bb) (x := (c + q + z) % bb) hz
      have hst2 := hst _ hs2
      have hlo : mulS ((i : Int) + (k : Int)).toNat 1 < (us p).length := by rw [mulS_eq, us_len]; omega
      have hc2 : (c + q + z) / bb < bb := by rw [hbb] at hzb hc ⊢; omega
      rw [hbb] at hc hzb hxb hyb
      have hset : (us p).set (mulS ((i : Int) + (k : Int)).toNat 1) (.int .u32 (IntKind.u32.wrap ((c : Int) + ((xa : Int) * (ya : Int) + (z : Int))))) = us (p.set (i + k) ((c + q + z) % bb)) := u_set (by omega) (by rw [wrap_u32, hbb, hqi]; omega)
      repeat' ((conv => whnf); first | refine walk (Tryz.ok ..) ?_ | (refine Cnd.mk (fun h => ?_) (fun h => ?_) <;> (first | exact cndT h (by (try dsimp only); omega) | exact cndF h (by (try dsimp only); omega) | (exfalso; simp at h; omega) | simp at h | skip)) | refine kp ?_ ?_ | refine tw ?_ ?_ | exact trivial | refine side2 ?_ | refine sideL2 ?_ | refine Or.inr ?_ | refine sat_drawH (Tryz.ok ..) (by kernel_rfl) ?_ | refine xi _ (And.intro rfl rfl) ?_ | refine xi _ (fun _ => And.intro rfl rfl) ?_ | refine xi _ rfl ?_ | refine xi _ (fun _ => (u_at hya rfl)) ?_ | refine xi _ (u_at hya rfl) ?_ | refine xi _ (fun _ => (u_at hz (by omega))) ?_ | refine xi _ (u_at hz (by omega)) ?_)
      refine ⟨(k + 1, p.set (i + k) ((c + q + z) % bb), (c + q + z) / bb), ⟨⟨by omega, by rw [List.length_set]; exact hp, all_set hpb (Nat.mod_lt _ (by decide)), fun r h1 h2 => ?_, hc2, hst2⟩, by dsimp only; omega⟩, ?_, ?_, rfl⟩
      · rw [List.getElem?_set_ne (by omega)]
        exact hpz r (by omega) h2
      · dsimp only
        ((repeat' (first | exact trivial | exact rfl | refine And.intro ?_ ?_)) <;> (try (conv => whnf)) <;> (try simp only [SV.real, SV.r2, SV.r1]))
        all_goals exact congrArg (Value.int .u64) (by rw [pow32, hbb, hqi]; omega)
      · dsimp only
        ((repeat' (first | exact trivial | exact rfl | refine And.intro ?_ ?_)) <;> (try (conv => whnf)) <;> (try simp only [SV.real, SV.r2, SV.r1]))
        all_goals exact hset
    · obtain rfl : k = m := by omega
      have hz := hpz (i + k) (Nat.le_refl _) (by omega)
      rw [hoz (i + k) (Nat.le_refl _) (by omega)] at hz
      have hs2 := nv_set (B := bb) (x := c) hz
      have hy1 : y % bb ^ k = y := Nat.mod_eq_of_lt ((dg_len (by decide) k y).1 (by omega))
      rw [Nat.mul_zero, Nat.add_zero, hpinv, hinv, hy1] at hs2
      have hlo : mulS ((i : Int) + (k : Int)).toNat 1 < (us p).length := by rw [mulS_eq, us_len]; omega
      have hset : (us p).set (mulS ((i : Int) + (k : Int)).toNat 1) (.int .u32 (c : Int)) = us (p.set (i + k) c) := u_set (by omega) rfl
      have hc' := hc
      rw [hbb] at hc
      repeat' ((conv => whnf); first | refine walk (Tryz.ok ..) ?_ | (refine Cnd.mk (fun h => ?_) (fun h => ?_) <;> (first | exact cndT h (by (try dsimp only); omega) | exact cndF h (by (try dsimp only); omega) | (exfalso; simp at h; omega) | simp at h | skip)) | refine kp ?_ ?_ | refine tw ?_ ?_ | exact trivial | refine side2 ?_ | refine sideL2 ?_ | refine Or.inr ?_ | refine sat_drawH (Tryz.ok ..) (by kernel_rfl) ?_ | refine xi _ (And.intro rfl rfl) ?_ | refine xi _ (fun _ => And.intro rfl rfl) ?_ | refine xi _ rfl ?_)
      refine ⟨(i + 1, p.set (i + k) c), ⟨⟨by omega, by rw [List.length_set]; exact hp, all_set hpb hc', fun r h1 h2 => ?_, ?_⟩, by dsimp only; omega⟩, ?_, ?_, rfl⟩
      · rw [List.getElem?_set_ne (by omega), hpz r (by omega) h2]
        exact hoz r (by omega) h2
      · rw [hs2, hms, Nat.add_mul, Nat.mul_assoc]
      · ((repeat' (first | exact trivial | exact rfl | refine And.intro ?_ ?_)) <;> (try (conv => whnf)) <;> (try simp only [SV.real, SV.r2, SV.r1]))
      · dsimp only
        ((repeat' (first | exact trivial | exact rfl | refine And.intro ?_ ?_)) <;> (try (conv => whnf)) <;> (try simp only [SV.real, SV.r2, SV.r1]))
        all_goals exact hset
  · obtain rfl : i = n := by omega
    have hx1 : x % bb ^ i = x := Nat.mod_eq_of_lt ((dg_len (by decide) i x).1 (by omega))
    rw [hx1] at hinv
    have htr := trim_nil (B := bb) (by decide) hob
    rw [hinv] at htr
    repeat' ((conv => whnf); first | refine walk (Tryz.ok ..) ?_ | (refine Cnd.mk (fun h => ?_) (fun h => ?_) <;> (first | exact cndT h (by (try dsimp only); omega) | exact cndF h (by (try dsimp only); omega) | (exfalso; simp at h; omega) | simp at h | skip)) | refine kp ?_ ?_ | refine tw ?_ ?_ | exact trivial | refine side2 ?_ | refine sideL2 ?_ | refine Or.inr ?_ | refine sat_drawH (Tryz.ok ..) (by kernel_rfl) ?_ | refine xi _ (And.intro rfl rfl) ?_ | refine xi _ (fun _ => And.intro rfl rfl) ?_ | refine xi _ rfl ?_)
    refine called_trim 16 (dg bb (x * y)).length rfl (by rw [htr, ← ho]; exact trim_len _) (fun w' hh => by
      have h0 : Ro w' (some (g, 0)) (i + m) 1 (us o) := by rw [← (Eq.refl (us o))]; exact ro_of_row hh (id := 16) rfl
      have h1 := trim_any o (some (g, 0)) (i + m) w' (by rw [ho]; exact h0) (by omega) (by rw [ho]; exact row_cap hh (id := 16) rfl)
      rw [← htr, ho] at h1
      exact h1) ?_
    repeat' ((conv => whnf); first | refine walk (Tryz.ok ..) ?_ | (refine Cnd.mk (fun h => ?_) (fun h => ?_) <;> (first | exact cndT h (by (try dsimp only); omega) | exact cndF h (by (try dsimp only); omega) | (exfalso; simp at h; omega) | simp at h | skip)) | refine kp ?_ ?_ | refine tw ?_ ?_ | exact trivial | refine side2 ?_ | refine sideL2 ?_ | refine Or.inr ?_ | refine sat_drawH (Tryz.ok ..) (by kernel_rfl) ?_ | refine xi _ (And.intro rfl rfl) ?_ | refine xi _ (fun _ => And.intro rfl rfl) ?_ | refine xi _ rfl ?_)
    exact done_row2 (mk := fun v => v) rfl rfl 16 (some (g, 0)) (i + m) rfl rfl (by
      show List.take _ (us o) = _
      rw [Nat.mul_one]
      refine (congrArg (List.take _) (Eq.refl (us o))).trans ?_
      rw [us_take, htr, ← trim_take]) rfl
end Go.Proofs.YtlkhafpkcfdlcaaGreatDoor
