/-
  The walks of the frac package: limbs in slices; zeros cut off, numbers of 64 bits.
-/
import Derived.Test.YtlkhafpkcfdlcaaGreatDoorFD
import Derived.Test.YtlkhafpkcfdlcaaGreatDoorTab
import Derived.Laws.Bits64b
namespace Go.Proofs.YtlkhafpkcfdlcaaGreatDoor
open Go Sat Go.RowKit Go.PlainAid
set_option linter.unusedSimpArgs false
set_option linter.unusedVariables false
def us (l : List Nat) : List Value := l.map fun (a : Nat) => Value.int .u32 (a : Int)
theorem us_len (l : List Nat) : (us l).length = l.length := List.length_map ..
theorem us_get {l : List Nat} {k a : Nat} (h : l[k]? = some a) : (us l)[k]? = some (.int .u32 a) := by simp [us, h]
theorem u_at {l : List Nat} {i : Int} {k a : Nat} (h : l[k]? = some a) (hi : i = k) : (us l)[mulS i.toNat 1]? = some (.int .u32 a) := by
  rw [mulS_eq, hi, Int.toNat_natCast, Nat.mul_one]
  exact us_get h
theorem no_u {b : Bool} {xs : List Value} {i : Nat} (hb : b = false) : b = true → xs[i]? = some (.int .u32 0) := fun h => by rw [hb] at h; cases h
theorem us_set (l : List Nat) (k a : Nat) : (us l).set k (.int .u32 (a : Int)) = us (l.set k a) := by simp [us, List.map_set]
theorem us_app (a b : List Nat) : us (a ++ b) = us a ++ us b := List.map_append ..
theorem us_take (l : List Nat) (k : Nat) : (us l).take k = us (l.take k) := by simp [us, List.map_take]
theorem us_drop (l : List Nat) (k : Nat) : (us l).drop k = us (l.drop k) := by simp [us, List.map_drop]
theorem us_all (l : List Nat) : allV (us l) = true := allV_of fun u hu => by
  simp only [us, List.mem_map] at hu
  obtain ⟨a, _, rfl⟩ := hu
  rfl
theorem us_at {l : List Nat} {k : Nat} (h : k < l.length) : ∃ a, l[k]? = some a := ⟨_, List.getElem?_eq_getElem h⟩
theorem trim_take (l : List Nat) : trimL l = l.take (trimL l).length := by
  induction l with
  | nil => rfl
  | cons a l ih =>
    rw [trimL]
    cases h : trimL l with
    | nil =>
      dsimp only
      split <;> simp
    | cons b r =>
      rw [h] at ih
      dsimp only
      rw [List.length_cons, List.take_succ_cons, ← ih]
theorem trim_le (l : List Nat) : (trimL l).length ≤ l.length := trim_len l

set_option maxRecDepth 100000 in
set_option maxHeartbeats 8000000 in
theorem trim_any (l : List Nat) (A : Option (Nat × Nat)) (cap : Nat) (w : World) (hro : Ro w A l.length 1 (us l)) (hl : l.length ≤ 4611686018427387903) (hc : l.length ≤ cap) :
    Calls Tryz.prog 87 #[.slice (adr A) l.length cap] w fun e w' => e = .returned (.slice (adr A) (trimL l).length cap) ∧ Below w.heap.size w w' := by
  refine calls_sat (cx := Tryz.cx 21 [] [] [] w) (Tryz.ok ..) Tryz.func87 rfl [.o 100 A l.length cap] rfl (by show 1 ≤ 21; omega) [(100, .ro A l.length 1 (us l))] (holds_ros rfl rfl ⟨hro, trivial⟩) ?_
  repeat' ((conv => whnf); first | refine walk (Tryz.ok ..) ?_ | (refine Cnd.mk (fun h => ?_) (fun h => ?_) <;> (first | exact cndT h (by (try dsimp only); omega) | exact cndF h (by (try dsimp only); omega) | (exfalso; simp at h; omega) | simp at h | skip)) | refine kp ?_ ?_ | refine tw ?_ ?_ | exact trivial | refine side2 ?_ | refine sideL2 ?_ | refine Or.inr ?_ | refine sat_drawH (Tryz.ok ..) (by kernel_rfl) ?_ | refine xi _ (And.intro rfl rfl) ?_ | refine xi _ (fun _ => And.intro rfl rfl) ?_ | refine xi _ rfl ?_)
  refine sat_loop (Tryz.ok ..) (α := Nat) (fun k => ([(0, .yes, .o 100 A k cap)], [(100, .ro A l.length 1 (us l))])) (fun k => k ≤ l.length ∧ trimL (l.take k) = trimL l) (fun k => k) (fun _ => rfl) ?_ ?_
  · refine ⟨l.length, ⟨Nat.le_refl _, by rw [List.take_length]⟩, ?_, ?_, rfl⟩
    all_goals ((repeat' (first | exact trivial | exact rfl | refine And.intro ?_ ?_)) <;> (try (conv => whnf)) <;> (try simp only [SV.real, SV.r2, SV.r1]))
  rintro k ⟨hk, ht⟩
  by_cases h0 : k = 0
  · subst h0
    have h1 : (trimL l).length = 0 := by rw [← ht]; rfl
    rw [h1]
    repeat' ((conv => whnf); first | refine walk (Tryz.ok ..) ?_ | (refine Cnd.mk (fun h => ?_) (fun h => ?_) <;> (first | exact cndT h (by (try dsimp only); omega) | exact cndF h (by (try dsimp only); omega) | (exfalso; simp at h; omega) | simp at h | skip)) | refine kp ?_ ?_ | refine tw ?_ ?_ | exact trivial | refine side2 ?_ | refine sideL2 ?_ | refine Or.inr ?_ | refine sat_drawH (Tryz.ok ..) (by kernel_rfl) ?_ | refine xi _ (And.intro rfl rfl) ?_ | refine xi _ (fun _ => And.intro rfl rfl) ?_ | refine xi _ rfl ?_ | refine xi _ (fun _ => (no_u (by simp))) ?_ | refine xi _ (no_u (by simp)) ?_)
    exact done_pure rfl rfl rfl
  obtain ⟨j, rfl⟩ : ∃ j, k = j + 1 := ⟨k - 1, by omega⟩
  obtain ⟨a, ha⟩ := us_at (l := l) (k := j) (by omega)
  by_cases h2 : a = 0
  · subst h2
    rw [trim_step ha] at ht
    repeat' ((conv => whnf); first | refine walk (Tryz.ok ..) ?_ | (refine Cnd.mk (fun h => ?_) (fun h => ?_) <;> (first | exact cndT h (by (try dsimp only); omega) | exact cndF h (by (try dsimp only); omega) | (exfalso; simp at h; omega) | simp at h | skip)) | refine kp ?_ ?_ | refine tw ?_ ?_ | exact trivial | refine side2 ?_ | refine sideL2 ?_ | refine Or.inr ?_ | refine sat_drawH (Tryz.ok ..) (by kernel_rfl) ?_ | refine xi _ (And.intro rfl rfl) ?_ | refine xi _ (fun _ => And.intro rfl rfl) ?_ | refine xi _ rfl ?_ | refine xi _ (fun _ => (u_at ha (by omega))) ?_ | refine xi _ (u_at ha (by omega)) ?_)
    have e : (((j + 1 : Nat) : Int) - 1).toNat = j := by omega
    rw [e]
    refine ⟨j, ⟨⟨by omega, ht⟩, by omega⟩, ?_, ?_, rfl⟩
    all_goals ((repeat' (first | exact trivial | exact rfl | refine And.intro ?_ ?_)) <;> (try (conv => whnf)) <;> (try simp only [SV.real, SV.r2, SV.r1]))
  · rw [trim_stop ha h2] at ht
    repeat' ((conv => whnf); first | refine walk (Tryz.ok ..) ?_ | (refine Cnd.mk (fun h => ?_) (fun h => ?_) <;> (first | exact cndT h (by (try dsimp only); omega) | exact cndF h (by (try dsimp only); omega) | (exfalso; simp at h; omega) | simp at h | skip)) | refine kp ?_ ?_ | refine tw ?_ ?_ | exact trivial | refine side2 ?_ | refine sideL2 ?_ | refine Or.inr ?_ | refine sat_drawH (Tryz.ok ..) (by kernel_rfl) ?_ | refine xi _ (And.intro rfl rfl) ?_ | refine xi _ (fun _ => And.intro rfl rfl) ?_ | refine xi _ rfl ?_ | refine xi _ (fun _ => (u_at ha (by omega))) ?_ | refine xi _ (u_at ha (by omega)) ?_)
    have e : (trimL l).length = j + 1 := by
      rw [← ht, List.length_take]; omega
    (conv => whnf)
    exact done_pure rfl rfl (by rw [e]; rfl)
theorem wrap_u32 (e : Int) : IntKind.u32.wrap e = e % 4294967296 := by
  unfold IntKind.wrap IntKind.signed IntKind.bits
  simp
theorem wrap_u64 (e : Int) : IntKind.u64.wrap e = e % 18446744073709551616 := by
  unfold IntKind.wrap IntKind.signed IntKind.bits
  simp
theorem of_two {n : Nat} (h : n < 18446744073709551616) : trimL [n % bb, n / bb] = dg bb n := by
  have h1 : nv bb [n % bb, n / bb] = n := by
    simp only [nv, Nat.mul_zero, Nat.add_zero]
    exact Nat.mod_add_div n bb
  rw [← trim_nil (B := bb) (by decide) (l := [n % bb, n / bb]), h1]
  intro x hx
  simp only [List.mem_cons, List.not_mem_nil, or_false] at hx
  unfold bb at hx ⊢
  omega
set_option maxRecDepth 100000 in
set_option maxHeartbeats 8000000 in
theorem of_any (n : Nat) (w : World) (hn : n < 18446744073709551616) :
    Calls Tryz.prog 57 #[.int .u64 n] w fun e w' => ∃ v, e = .returned v ∧ w'.ownsRow w.heap.size 26 1 v (dg bb n).length (us (dg bb n)) ∧ Below w.heap.size w w' := by
  refine calls_sat (cx := Tryz.cx 10 [] [] [] w) (Tryz.ok ..) Tryz.func57 rfl [.v (.int .u64 n)] rfl (by show 1 ≤ 10; omega) [] (holds_nil (Nat.le_refl _)) ?_
  have h2 := of_two hn
  repeat' ((conv => whnf); first | refine walk (Tryz.ok ..) ?_ | (refine Cnd.mk (fun h => ?_) (fun h => ?_) <;> (first | exact cndT h (by (try dsimp only); omega) | exact cndF h (by (try dsimp only); omega) | (exfalso; simp at h; omega) | simp at h | skip)) | refine kp ?_ ?_ | refine tw ?_ ?_ | exact trivial | refine side2 ?_ | refine sideL2 ?_ | refine Or.inr ?_ | refine sat_drawH (Tryz.ok ..) (by kernel_rfl) ?_ | refine xi _ (And.intro rfl rfl) ?_ | refine xi _ (fun _ => And.intro rfl rfl) ?_ | refine xi _ rfl ?_)
  intro g hg
  repeat' ((conv => whnf); first | refine walk (Tryz.ok ..) ?_ | (refine Cnd.mk (fun h => ?_) (fun h => ?_) <;> (first | exact cndT h (by (try dsimp only); omega) | exact cndF h (by (try dsimp only); omega) | (exfalso; simp at h; omega) | simp at h | skip)) | refine kp ?_ ?_ | refine tw ?_ ?_ | exact trivial | refine side2 ?_ | refine sideL2 ?_ | refine Or.inr ?_ | refine sat_drawH (Tryz.ok ..) (by kernel_rfl) ?_ | refine xi _ (And.intro rfl rfl) ?_ | refine xi _ (fun _ => And.intro rfl rfl) ?_ | refine xi _ rfl ?_)
  have e1 : IntKind.u32.wrap (n : Int) = ((n % bb : Nat) : Int) := by rw [wrap_u32]; unfold bb; omega
  have e2 : IntKind.u32.wrap ((n : Int) / 2 ^ Int.toNat 32) = ((n / bb : Nat) : Int) := by
    rw [wrap_u32, show (2 : Int) ^ Int.toNat 32 = 4294967296 from rfl]; unfold bb; omega
  (conv => whnf)
  rw [e1, e2]
  refine called_at (.s 8 g 0 0 (dg bb n).length 2) rfl (fun w' hh => by
    have h1 := trim_any [n % bb, n / bb] (some (g, 0)) 2 w' (ro_of_blk hh (id := 8) rfl 0 2 1 (by show 2 ≤ 2; omega)) (by show 2 ≤ _; omega) (Nat.le_refl _)
    rw [h2] at h1
    exact h1) ?_
  repeat' ((conv => whnf); first | refine walk (Tryz.ok ..) ?_ | (refine Cnd.mk (fun h => ?_) (fun h => ?_) <;> (first | exact cndT h (by (try dsimp only); omega) | exact cndF h (by (try dsimp only); omega) | (exfalso; simp at h; omega) | simp at h | skip)) | refine kp ?_ ?_ | refine tw ?_ ?_ | exact trivial | refine side2 ?_ | refine sideL2 ?_ | refine Or.inr ?_ | refine sat_drawH (Tryz.ok ..) (by kernel_rfl) ?_ | refine xi _ (And.intro rfl rfl) ?_ | refine xi _ (fun _ => And.intro rfl rfl) ?_ | refine xi _ rfl ?_)
  exact done_blkcut (n := 2) rfl rfl 8 g rfl rfl (by unfold maxLen; omega) (by rw [← h2]; exact trim_len _) (by rw [← h2, Nat.mul_one]; show (us [n % bb, n / bb]).take _ = _; rw [us_take, ← trim_take]) rfl
theorem or_u64 {x y : Int} (hx : 0 ≤ x ∧ x < 4294967296) (hy : 0 ≤ y ∧ y < 4294967296) : bits .or .u64 (x * 4294967296) y = x * 4294967296 + y := by
  obtain ⟨a, rfl⟩ : ∃ a : Nat, x = a := ⟨x.toNat, by omega⟩
  obtain ⟨b, rfl⟩ : ∃ b : Nat, y = b := ⟨y.toNat, by omega⟩
  have h := bits_or_u64_nat (a * 4294967296) b (by omega) (by omega)
  rw [show ((a : Int) * 4294967296) = ((a * 4294967296 : Nat) : Int) by omega, h]
  have h2 := Nat.shiftLeft_add_eq_or_of_lt (i := 32) (b := b) (by omega) a
  rw [Nat.shiftLeft_eq, show (2 : Nat) ^ 32 = 4294967296 from rfl] at h2
  rw [← h2]
  omega
set_option maxRecDepth 100000 in
set_option maxHeartbeats 8000000 in
theorem low_any (n : Nat) (A : Option (Nat × Nat)) (cap : Nat) (w : World) (hro : Ro w A (dg bb n).length 1 (us (dg bb n))) (hl : (dg bb n).length ≤ 1000000) :
    Calls Tryz.prog 58 #[.slice (adr A) (dg bb n).length cap] w fun e w' => e = .returned (.int .u64 ((n % 18446744073709551616 : Nat) : Int)) ∧ Below w.heap.size w w' := by
  obtain ⟨l, el⟩ : ∃ l, l = dg bb n := ⟨_, rfl⟩
  rw [← el] at hro hl ⊢
  have hlt : ∀ x ∈ l, x < bb := by rw [el]; exact dg_lt (by decide) n
  have hnv : nv bb l = n := by rw [el]; exact nv_dg (by decide) n
  refine calls_sat (cx := Tryz.cx 22 [] [] [] w) (Tryz.ok ..) Tryz.func58 rfl [.o 100 A l.length cap] rfl (by show 1 ≤ 22; omega) [(100, .ro A l.length 1 (us l))] (holds_ros rfl rfl ⟨hro, trivial⟩) ?_
  obtain ⟨m, em⟩ : ∃ m, m = min l.length 2 := ⟨_, rfl⟩
  obtain ⟨v, ev⟩ : ∃ v : Nat → Nat, v = fun k => nv bb ((l.take m).drop k) := ⟨_, rfl⟩
  have hv0 : v m = 0 := by rw [ev]; simp [nv]
  repeat' ((conv => whnf); first | refine walk (Tryz.ok ..) ?_ | (refine Cnd.mk (fun h => ?_) (fun h => ?_) <;> (first | exact cndT h (by (try dsimp only); omega) | exact cndF h (by (try dsimp only); omega) | (exfalso; simp at h; omega) | simp at h | skip)) | refine kp ?_ ?_ | refine tw ?_ ?_ | exact trivial | refine side2 ?_ | refine sideL2 ?_ | refine Or.inr ?_ | refine sat_drawH (Tryz.ok ..) (by kernel_rfl) ?_ | refine xi _ (And.intro rfl rfl) ?_ | refine xi _ (fun _ => And.intro rfl rfl) ?_ | refine xi _ rfl ?_)
  refine sat_loop (Tryz.ok ..) (α := Nat) (fun k => ([(0, .yes, .o 100 A l.length cap), (3, .yes, .v (.int .u64 (v k))), (4, .yes, .v (.int .i64 ((k : Int) - 1)))], [(100, .ro A l.length 1 (us l))])) (fun k => k ≤ m) (fun k => k) (fun _ => rfl) ?_ ?_
  · refine ⟨m, Nat.le_refl _, ?_, ?_, rfl⟩
    · dsimp only
      rw [hv0]
      ((repeat' (first | exact trivial | exact rfl | refine And.intro ?_ ?_)) <;> (try (conv => whnf)) <;> (try simp only [SV.real, SV.r2, SV.r1]))
      exact congrArg (Value.int .i64) (by omega)
    · ((repeat' (first | exact trivial | exact rfl | refine And.intro ?_ ?_)) <;> (try (conv => whnf)) <;> (try simp only [SV.real, SV.r2, SV.r1]))
  intro k hk
  by_cases h0 : k = 0
  · subst h0
    have h1 : v 0 = n % 18446744073709551616 := by
      rw [ev]
      show nv bb ((l.take m).drop 0) = _
      rw [List.drop_zero, (nv_drop (B := bb) (by decide) hlt m (by omega)).2, hnv]
      rcases Nat.lt_or_ge l.length 2 with h2 | h2
      · have h3 := dg_upper (B := bb) (by decide) n
        rw [← el] at h3
        have h4 : m = l.length := by omega
        rw [h4, Nat.mod_eq_of_lt h3]
        have h5 : bb ^ l.length ≤ bb ^ 2 := Nat.pow_le_pow_right (by decide) (by omega)
        rw [show bb ^ 2 = 18446744073709551616 from rfl] at h5
        rw [Nat.mod_eq_of_lt (by omega)]
      · rw [show m = 2 by omega]; rfl
    repeat' ((conv => whnf); first | refine walk (Tryz.ok ..) ?_ | (refine Cnd.mk (fun h => ?_) (fun h => ?_) <;> (first | exact cndT h (by (try dsimp only); omega) | exact cndF h (by (try dsimp only); omega) | (exfalso; simp at h; omega) | simp at h | skip)) | refine kp ?_ ?_ | refine tw ?_ ?_ | exact trivial | refine side2 ?_ | refine sideL2 ?_ | refine Or.inr ?_ | refine sat_drawH (Tryz.ok ..) (by kernel_rfl) ?_ | refine xi _ (And.intro rfl rfl) ?_ | refine xi _ (fun _ => And.intro rfl rfl) ?_ | refine xi _ rfl ?_)
    rw [h1]
    exact done_pure rfl rfl rfl
  obtain ⟨j, rfl⟩ : ∃ j, k = j + 1 := ⟨k - 1, by omega⟩
  obtain ⟨a, ha⟩ := us_at (l := l) (k := j) (by omega)
  have hab := hlt a (List.mem_of_getElem? ha)
  have hvj : v j = a + bb * v (j + 1) := by
    rw [ev]
    have h1 : (l.take m)[j]? = some a := by rw [List.getElem?_take_of_lt (by omega)]; exact ha
    have h2 := (List.getElem?_eq_some_iff.1 h1)
    show nv bb ((l.take m).drop j) = _
    rw [List.drop_eq_getElem_cons h2.1, nv, h2.2]
  have hv1 : v (j + 1) < bb := by
    rw [ev]
    have h1 := nv_lt (B := bb) (l := (l.take m).drop (j + 1)) (fun x hx => hlt x (List.mem_of_mem_take (List.mem_of_mem_drop hx)))
    rw [List.length_drop, List.length_take] at h1
    have h2 : bb ^ (min m l.length - (j + 1)) ≤ bb ^ 1 := Nat.pow_le_pow_right (by decide) (by omega)
    rw [Nat.pow_one] at h2
    exact Nat.lt_of_lt_of_le h1 h2
  unfold bb at hab hv1 hvj
  have hor := or_u64 (x := (v (j + 1) : Int)) (y := (a : Int)) (by omega) (by omega)
  repeat' ((conv => whnf); first | refine walk (Tryz.ok ..) ?_ | (refine Cnd.mk (fun h => ?_) (fun h => ?_) <;> (first | exact cndT h (by (try dsimp only); omega) | exact cndF h (by (try dsimp only); omega) | (exfalso; simp at h; omega) | simp at h | skip)) | refine kp ?_ ?_ | refine tw ?_ ?_ | exact trivial | refine side2 ?_ | refine sideL2 ?_ | refine Or.inr ?_ | refine sat_drawH (Tryz.ok ..) (by kernel_rfl) ?_ | refine xi _ (And.intro rfl rfl) ?_ | refine xi _ (fun _ => And.intro rfl rfl) ?_ | refine xi _ rfl ?_ | refine xi _ (fun _ => (u_at ha (by omega))) ?_ | refine xi _ (u_at ha (by omega)) ?_)
  refine ⟨j, ⟨by omega, by omega⟩, ?_, ?_, rfl⟩
  · dsimp only
    ((repeat' (first | exact trivial | exact rfl | refine And.intro ?_ ?_)) <;> (try (conv => whnf)) <;> (try simp only [SV.real, SV.r2, SV.r1]))
    · refine congrArg (Value.int .u64) ?_
      rw [IntKind.wrap_u64, show (2 : Int) ^ Int.toNat 32 = 4294967296 from rfl, Int.emod_eq_of_lt (by omega) (by omega), hor, hvj]
      omega
    · exact congrArg (Value.int .i64) (by omega)
  · ((repeat' (first | exact trivial | exact rfl | refine And.intro ?_ ?_)) <;> (try (conv => whnf)) <;> (try simp only [SV.real, SV.r2, SV.r1]))
end Go.Proofs.YtlkhafpkcfdlcaaGreatDoor
