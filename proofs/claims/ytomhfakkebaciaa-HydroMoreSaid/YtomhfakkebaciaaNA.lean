/-
  The walks of the frac package: limbs in slices; zeros cut off, numbers of 64 bits. The walks of the frac package: sums, differences and products of numbers. The walks of the frac package: products of numbers.
-/
import Derived.Test.YtomhfakkebaciaaFD
import Derived.Test.YtomhfakkebaciaaTab
import Derived.Laws.Bits64b
set_option linter.unusedSimpArgs false
set_option linter.unusedVariables false
namespace Go.Proofs.Ytomhfakkebaciaa
section
open Go Sat Go.RowKit Go.PlainAid
set_option linter.unusedSimpArgs false
set_option linter.unusedVariables false
def us (l : List Nat) : List Value := l.map fun (a : Nat) => Value.int .u32 (a : Int)
theorem us_len (l : List Nat) : (us l).length = l.length := List.length_map ..
theorem us_get {l : List Nat} {k a : Nat} (h : l[k]? = some a) : (us l)[k]? = some (.int .u32 a) := by simp [us, h]
theorem u_at {l : List Nat} {i : Int} {k a : Nat} (h : l[k]? = some a) (hi : i = k) : (us l)[mulS i.toNat 1]? = some (.int .u32 a) := by
  rw [mulS_eq, hi, Int.toNat_natCast, Nat.mul_one]
  exact us_get h
theorem no_u {b : Bool} {xs : List Value} {i : Nat} (hb : b = false) : b = true → xs[i]? = some (.int .u32 0) := fun h => by rw [hb] at h; cases h
theorem us_set (l : List Nat) (k a : Nat) : (us l).set k (.int .u32 (a : Int)) = us (l.set k a) := by simp [us, List.map_set]
theorem us_app (a b : List Nat) : us (a ++ b) = us a ++ us b := List.map_append ..
theorem us_take (l : List Nat) (k : Nat) : (us l).take k = us (l.take k) := by simp [us, List.map_take]
theorem us_drop (l : List Nat) (k : Nat) : (us l).drop k = us (l.drop k) := by simp [us, List.map_drop]
theorem us_all (l : List Nat) : allV (us l) = true := allV_of fun u hu => by
  simp only [us, List.mem_map] at hu
  obtain ⟨a, _, rfl⟩ := hu
  rfl
theorem us_at {l : List Nat} {k : Nat} (h : k < l.length) : ∃ a, l[k]? = some a := ⟨_, List.getElem?_eq_getElem h⟩
theorem trim_take (l : List Nat) : trimL l = l.take (trimL l).length := by
  induction l with
  | nil => rfl
  | cons a l ih =>
    rw [trimL]
    cases h : trimL l with
    | nil =>
      dsimp only
      split <;> simp
    | cons b r =>
      rw [h] at ih
      dsimp only
      rw [List.length_cons, List.take_succ_cons, ← ih]
theorem trim_le (l : List Nat) : (trimL l).length ≤ l.length := trim_len l

set_option maxRecDepth 100000 in
set_option maxHeartbeats 8000000 in
theorem trim_any (l : List Nat) (A : Option (Nat × Nat)) (cap : Nat) (w : World) (hro : Ro w A l.length 1 (us l)) (hl : l.length ≤ 4611686018427387903) (hc : l.length ≤ cap) :
    Calls Try.prog 63 #[.slice (adr A) l.length cap] w fun e w' => e = .returned (.slice (adr A) (trimL l).length cap) ∧ Below w.heap.size w w' := by
  refine calls_sat (cx := Try.cx 21 [] [] [] w) (Try.ok ..) Try.func63 rfl [.o 100 A l.length cap] rfl (by show 1 ≤ 21; omega) [(100, .ro A l.length 1 (us l))] (holds_ros rfl rfl ⟨hro, trivial⟩) ?_
  repeat' ((conv => whnf); first | refine walk (Try.ok ..) ?_ | fail)
  refine sat_loop (Try.ok ..) (α := Nat) (fun k => ([(0, .yes, .o 100 A k cap)], [(100, .ro A l.length 1 (us l))])) (fun k => k ≤ l.length ∧ trimL (l.take k) = trimL l) (fun k => k) (fun _ => rfl) ?_ ?_
  · refine ⟨l.length, ⟨Nat.le_refl _, by rw [List.take_length]⟩, ?_, ?_, rfl⟩
    all_goals ((repeat' (first | exact trivial | exact rfl | refine And.intro ?_ ?_)) <;> (try (conv => whnf)) <;> (try simp only [SV.real, SV.r2, SV.r1]))
  rintro k ⟨hk, ht⟩
  by_cases h0 : k = 0
  · subst h0
    have h1 : (trimL l).length = 0 := by rw [← ht]; rfl
    rw [h1]
    repeat' ((conv => whnf); first | refine walk (Try.ok ..) ?_ | (refine Cnd.mk (fun h => ?_) (fun h => ?_) <;> (first | exact cndT h (by (try dsimp only); omega) | exact cndF h (by (try dsimp only); omega) | (exfalso; simp at h; omega) | simp at h | skip)) | refine side2 ?_ | refine sideL2 ?_ | refine xi _ (no_u (by simp)) ?_ | fail)
    exact done_pure rfl rfl rfl
  obtain ⟨j, rfl⟩ : ∃ j, k = j + 1 := ⟨k - 1, by omega⟩
  obtain ⟨a, ha⟩ := us_at (l := l) (k := j) (by omega)
  by_cases h2 : a = 0
  · subst h2
    rw [trim_step ha] at ht
    repeat' ((conv => whnf); first | refine walk (Try.ok ..) ?_ | (refine Cnd.mk (fun h => ?_) (fun h => ?_) <;> (first | exact cndT h (by (try dsimp only); omega) | exact cndF h (by (try dsimp only); omega) | (exfalso; simp at h; omega) | simp at h | skip)) | refine side2 ?_ | refine sideL2 ?_ | refine xi _ (fun _ => (u_at ha (by omega))) ?_ | fail)
    have e : (((j + 1 : Nat) : Int) - 1).toNat = j := by omega
    rw [e]
    refine ⟨j, ⟨⟨by omega, ht⟩, by omega⟩, ?_, ?_, rfl⟩
    all_goals ((repeat' (first | exact trivial | exact rfl | refine And.intro ?_ ?_)) <;> (try (conv => whnf)) <;> (try simp only [SV.real, SV.r2, SV.r1]))
  · rw [trim_stop ha h2] at ht
    repeat' ((conv => whnf); first | refine walk (Try.ok ..) ?_ | (refine Cnd.mk (fun h => ?_) (fun h => ?_) <;> (first | exact cndT h (by (try dsimp only); omega) | exact cndF h (by (try dsimp only); omega) | (exfalso; simp at h; omega) | simp at h | skip)) | refine side2 ?_ | refine sideL2 ?_ | refine xi _ (fun _ => (u_at ha (by omega))) ?_ | fail)
    have e : (trimL l).length = j + 1 := by
      rw [← ht, List.length_take]; omega
    (conv => whnf)
    exact done_pure rfl rfl (by rw [e]; rfl)
theorem wrap_u32 (e : Int) : IntKind.u32.wrap e = e % 4294967296 := by
  unfold IntKind.wrap IntKind.signed IntKind.bits
  simp
theorem wrap_u64 (e : Int) : IntKind.u64.wrap e = e % 18446744073709551616 := by
  unfold IntKind.wrap IntKind.signed IntKind.bits
  simp
theorem of_two {n : Nat} (h : n < 18446744073709551616) : trimL [n % bb, n / bb] = dg bb n := by
  have h1 : nv bb [n % bb, n / bb] = n := by
    simp only [nv, Nat.mul_zero, Nat.add_zero]
    exact Nat.mod_add_div n bb
  rw [← trim_nil (B := bb) (by decide) (l := [n % bb, n / bb]), h1]
  intro x hx
  simp only [List.mem_cons, List.not_mem_nil, or_false] at hx
  unfold bb at hx ⊢
  omega
set_option maxRecDepth 100000 in
set_option maxHeartbeats 8000000 in
theorem of_any (n : Nat) (w : World) (hn : n < 18446744073709551616) :
    Calls Try.prog 34 #[.int .u64 n] w fun e w' => ∃ v, e = .returned v ∧ w'.ownsRow w.heap.size 23 1 v (dg bb n).length (us (dg bb n)) ∧ Below w.heap.size w w' := by
  refine calls_sat (cx := Try.cx 10 [] [] [] w) (Try.ok ..) Try.func34 rfl [.v (.int .u64 n)] rfl (by show 1 ≤ 10; omega) [] (holds_nil (Nat.le_refl _)) ?_
  have h2 := of_two hn
  repeat' ((conv => whnf); first | refine walk (Try.ok ..) ?_ | refine side2 ?_ | refine Or.inr ?_ | fail)
  intro g hg
  skip
  have e1 : IntKind.u32.wrap (n : Int) = ((n % bb : Nat) : Int) := by rw [wrap_u32]; unfold bb; omega
  have e2 : IntKind.u32.wrap ((n : Int) / 2 ^ Int.toNat 32) = ((n / bb : Nat) : Int) := by
    rw [wrap_u32, show (2 : Int) ^ Int.toNat 32 = 4294967296 from rfl]; unfold bb; omega
  (conv => whnf)
  rw [e1, e2]
  refine called_at (.s 8 g 0 0 (dg bb n).length 2) rfl (fun w' hh => by
    have h1 := trim_any [n % bb, n / bb] (some (g, 0)) 2 w' (ro_of_blk hh (id := 8) rfl 0 2 1 (by show 2 ≤ 2; omega)) (by show 2 ≤ _; omega) (Nat.le_refl _)
    rw [h2] at h1
    exact h1) ?_
  repeat' ((conv => whnf); first | refine walk (Try.ok ..) ?_ | fail)
  exact done_blkcut (n := 2) rfl rfl 8 g rfl rfl (by unfold maxLen; omega) (by rw [← h2]; exact trim_len _) (by rw [← h2, Nat.mul_one]; show (us [n % bb, n / bb]).take _ = _; rw [us_take, ← trim_take]) rfl
theorem or_u64 {x y : Int} (hx : 0 ≤ x ∧ x < 4294967296) (hy : 0 ≤ y ∧ y < 4294967296) : bits .or .u64 (x * 4294967296) y = x * 4294967296 + y := by
  obtain ⟨a, rfl⟩ : ∃ a : Nat, x = a := ⟨x.toNat, by omega⟩
  obtain ⟨b, rfl⟩ : ∃ b : Nat, y = b := ⟨y.toNat, by omega⟩
  have h := bits_or_u64_nat (a * 4294967296) b (by omega) (by omega)
  rw [show ((a : Int) * 4294967296) = ((a * 4294967296 : Nat) : Int) by omega, h]
  have h2 := Nat.shiftLeft_add_eq_or_of_lt (i := 32) (b := b) (by omega) a
  rw [Nat.shiftLeft_eq, show (2 : Nat) ^ 32 = 4294967296 from rfl] at h2
  rw [← h2]
  omega
set_option maxRecDepth 100000 in
set_option maxHeartbeats 8000000 in
theorem low_any (n : Nat) (A : Option (Nat × Nat)) (cap : Nat) (w : World) (hro : Ro w A (dg bb n).length 1 (us (dg bb n))) (hl : (dg bb n).length ≤ 1000000) :
    Calls Try.prog 55 #[.slice (adr A) (dg bb n).length cap] w fun e w' => e = .returned (.int .u64 ((n % 18446744073709551616 : Nat) : Int)) ∧ Below w.heap.size w w' := by
  obtain ⟨l, el⟩ : ∃ l, l = dg bb n := ⟨_, rfl⟩
  rw [← el] at hro hl ⊢
  have hlt : ∀ x ∈ l, x < bb := by rw [el]; exact dg_lt (by decide) n
  have hnv : nv bb l = n := by rw [el]; exact nv_dg (by decide) n
  refine calls_sat (cx := Try.cx 22 [] [] [] w) (Try.ok ..) Try.func55 rfl [.o 100 A l.length cap] rfl (by show 1 ≤ 22; omega) [(100, .ro A l.length 1 (us l))] (holds_ros rfl rfl ⟨hro, trivial⟩) ?_
  obtain ⟨m, em⟩ : ∃ m, m = min l.length 2 := ⟨_, rfl⟩
  obtain ⟨v, ev⟩ : ∃ v : Nat → Nat, v = fun k => nv bb ((l.take m).drop k) := ⟨_, rfl⟩
  have hv0 : v m = 0 := by rw [ev]; simp [nv]
  repeat' ((conv => whnf); first | refine walk (Try.ok ..) ?_ | refine sideL2 ?_ | fail)
  refine sat_loop (Try.ok ..) (α := Nat) (fun k => ([(0, .yes, .o 100 A l.length cap), (3, .yes, .v (.int .u64 (v k))), (4, .yes, .v (.int .i64 ((k : Int) - 1)))], [(100, .ro A l.length 1 (us l))])) (fun k => k ≤ m) (fun k => k) (fun _ => rfl) ?_ ?_
  · refine ⟨m, Nat.le_refl _, ?_, ?_, rfl⟩
    · dsimp only
      rw [hv0]
      ((repeat' (first | exact trivial | exact rfl | refine And.intro ?_ ?_)) <;> (try (conv => whnf)) <;> (try simp only [SV.real, SV.r2, SV.r1]))
      exact congrArg (Value.int .i64) (by omega)
    · ((repeat' (first | exact trivial | exact rfl | refine And.intro ?_ ?_)) <;> (try (conv => whnf)) <;> (try simp only [SV.real, SV.r2, SV.r1]))
  intro k hk
  by_cases h0 : k = 0
  · subst h0
    have h1 : v 0 = n % 18446744073709551616 := by
      rw [ev]
      show nv bb ((l.take m).drop 0) = _
      rw [List.drop_zero, (nv_drop (B := bb) (by decide) hlt m (by omega)).2, hnv]
      rcases Nat.lt_or_ge l.length 2 with h2 | h2
      · have h3 := dg_upper (B := bb) (by decide) n
        rw [← el] at h3
        have h4 : m = l.length := by omega
        rw [h4, Nat.mod_eq_of_lt h3]
        have h5 : bb ^ l.length ≤ bb ^ 2 := Nat.pow_le_pow_right (by decide) (by omega)
        rw [show bb ^ 2 = 18446744073709551616 from rfl] at h5
        rw [Nat.mod_eq_of_lt (by omega)]
      · rw [show m = 2 by omega]; rfl
    repeat' ((conv => whnf); first | refine walk (Try.ok ..) ?_ | (refine Cnd.mk (fun h => ?_) (fun h => ?_) <;> (first | exact cndT h (by (try dsimp only); omega) | exact cndF h (by (try dsimp only); omega) | (exfalso; simp at h; omega) | simp at h | skip)) | fail)
    rw [h1]
    exact done_pure rfl rfl rfl
  obtain ⟨j, rfl⟩ : ∃ j, k = j + 1 := ⟨k - 1, by omega⟩
  obtain ⟨a, ha⟩ := us_at (l := l) (k := j) (by omega)
  have hab := hlt a (List.mem_of_getElem? ha)
  have hvj : v j = a + bb * v (j + 1) := by
    rw [ev]
    have h1 : (l.take m)[j]? = some a := by rw [List.getElem?_take_of_lt (by omega)]; exact ha
    have h2 := (List.getElem?_eq_some_iff.1 h1)
    show nv bb ((l.take m).drop j) = _
    rw [List.drop_eq_getElem_cons h2.1, nv, h2.2]
  have hv1 : v (j + 1) < bb := by
    rw [ev]
    have h1 := nv_lt (B := bb) (l := (l.take m).drop (j + 1)) (fun x hx => hlt x (List.mem_of_mem_take (List.mem_of_mem_drop hx)))
    rw [List.length_drop, List.length_take] at h1
    have h2 : bb ^ (min m l.length - (j + 1)) ≤ bb ^ 1 := Nat.pow_le_pow_right (by decide) (by omega)
    rw [Nat.pow_one] at h2
    exact Nat.lt_of_lt_of_le h1 h2
  unfold bb at hab hv1 hvj
  have hor := or_u64 (x := (v (j + 1) : Int)) (y := (a : Int)) (by omega) (by omega)
  repeat' ((conv => whnf); first | refine walk (Try.ok ..) ?_ | (refine Cnd.mk (fun h => ?_) (fun h => ?_) <;> (first | exact cndT h (by (try dsimp only); omega) | exact cndF h (by (try dsimp only); omega) | (exfalso; simp at h; omega) | simp at h | skip)) | refine side2 ?_ | refine sideL2 ?_ | refine Or.inr ?_ | refine xi _ (u_at ha (by omega)) ?_ | fail)
  refine ⟨j, ⟨by omega, by omega⟩, ?_, ?_, rfl⟩
  · dsimp only
    ((repeat' (first | exact trivial | exact rfl | refine And.intro ?_ ?_)) <;> (try (conv => whnf)) <;> (try simp only [SV.real, SV.r2, SV.r1]))
    · refine congrArg (Value.int .u64) ?_
      rw [IntKind.wrap_u64, show (2 : Int) ^ Int.toNat 32 = 4294967296 from rfl, Int.emod_eq_of_lt (by omega) (by omega), hor, hvj]
      omega
    · exact congrArg (Value.int .i64) (by omega)
  · ((repeat' (first | exact trivial | exact rfl | refine And.intro ?_ ?_)) <;> (try (conv => whnf)) <;> (try simp only [SV.real, SV.r2, SV.r1]))
end
section
open Go Sat Go.RowKit Go.PlainAid
set_option linter.unusedSimpArgs false
set_option linter.unusedVariables false
theorem pow32 : (2 : Int) ^ Int.toNat 32 = 4294967296 := rfl
theorem pow63 : (2 : Int) ^ Int.toNat 63 = 9223372036854775808 := rfl
theorem u_set {o : List Nat} {i e : Int} {k a : Nat} (hi : i = k) (he : e = a) : (us o).set (mulS i.toNat 1) (.int .u32 e) = us (o.set k a) := by
  rw [mulS_eq, hi, he, Int.toNat_natCast, Nat.mul_one, us_set]
theorem us_rep (k : Nat) : us (List.replicate k 0) = List.replicate k (.int .u32 0) := by simp [us]
theorem made_us (k : Nat) : (madeCells (Value.int .u32 0).cells (k * 1)).toList = us (List.replicate k 0) := by
  rw [Nat.mul_one, us_rep]
  unfold madeCells
  apply List.ext_getElem
  · simp
  · intro i h1 h2
    have : i % 1 = 0 := by omega
    simp [Value.cells, this]
theorem row_cap {cx : Cx} {H : Heap} {w : World} (hw : Holds cx H w) {id : Nat} {A : Option (Nat × Nat)} {e size n cap : Nat} {xs : List Value} (h : hfind H id = some (.row A e size n cap xs)) : n ≤ cap := by
  have hr : w.ownsRow cx.n0 e size (.slice (adr A) n cap) n xs := hw.at_ h
  rcases hr.2 with ⟨hv, hn⟩ | ⟨g, cap', cur, hv, _, _, hc, _⟩
  · omega
  · injection hv with _ _ hc'
    omega
set_option maxRecDepth 100000 in
set_option maxHeartbeats 8000000 in
theorem clone_any (l : List Nat) (A : Option (Nat × Nat)) (cap : Nat) (w : World) (hro : Ro w A l.length 1 (us l)) (hl : l.length ≤ 1000000) :
    Calls Try.prog 73 #[.slice (adr A) l.length cap] w fun e w' => ∃ v, e = .returned v ∧ w'.ownsRow w.heap.size 23 1 v l.length (us l) ∧ Below w.heap.size w w' := by
  refine calls_sat (cx := Try.cx 8 [] [] [] w) (Try.ok ..) Try.func73 rfl [.o 100 A l.length cap] rfl (by show 1 ≤ 8; omega) [(100, .ro A l.length 1 (us l))] (holds_ros rfl rfl ⟨hro, trivial⟩) ?_
  cases A with
  | none =>
    have h0 : l = [] := by
      rcases Nat.eq_zero_or_pos l.length with h | h
      · exact List.length_eq_zero_iff.1 h
      · obtain ⟨p, hp, _⟩ := hro.2 h
        cases hp
    subst h0
    repeat' ((conv => whnf); first | refine walk (Try.ok ..) ?_ | (refine Cnd.mk (fun h => ?_) (fun h => ?_) <;> (first | exact cndT h (by (try dsimp only); omega) | exact cndF h (by (try dsimp only); omega) | (exfalso; simp at h; omega) | simp at h | skip)) | fail)
    exact done_nil (mk := fun v => v) rfl rfl rfl
  | some p =>
    have hle1 : l.length * 1 ≤ (us l).length := by rw [us_len]; omega
    have hal1 : allV ((us l).take (l.length * 1)) = true := by rw [us_take]; exact us_all _
    repeat' ((conv => whnf); first | refine walk (Try.ok ..) ?_ | (refine Cnd.mk (fun h => ?_) (fun h => ?_) <;> (first | exact cndT h (by (try dsimp only); omega) | exact cndF h (by (try dsimp only); omega) | (exfalso; simp at h; omega) | simp at h | skip)) | fail)
    intro g hg
    repeat' ((conv => whnf); first | refine side2 ?_ | fail)
    intro A2 cap2
    repeat' ((conv => whnf); first | refine walk (Try.ok ..) ?_ | fail)
    exact done_row2 (mk := fun v => v) rfl rfl 5 A2 cap2 rfl (Nat.zero_add _) (by show [] ++ (us l).take (l.length * 1) = us l; rw [List.nil_append, Nat.mul_one, List.take_of_length_le (by rw [us_len]; exact Nat.le_refl _)]) rfl
set_option maxRecDepth 100000 in
set_option maxHeartbeats 8000000 in
theorem plus_any (x y : Nat) (X Y : Option (Nat × Nat)) (capX capY : Nat) (w : World) (hx : Ro w X (dg bb x).length 1 (us (dg bb x))) (hy : Ro w Y (dg bb y).length 1 (us (dg bb y))) (hxl : (dg bb x).length ≤ 1000000) (hyl : (dg bb y).length ≤ 1000000) :
    Calls Try.prog 54 #[.slice (adr X) (dg bb x).length capX, .slice (adr Y) (dg bb y).length capY] w fun e w' => ∃ v, e = .returned v ∧ w'.ownsRow w.heap.size 23 1 v (dg bb (x + y)).length (us (dg bb (x + y))) ∧ Below w.heap.size w w' := by
  obtain ⟨n, hn⟩ : ∃ n, n = (dg bb x).length := ⟨_, rfl⟩
  obtain ⟨m, hm⟩ : ∃ n, n = (dg bb y).length := ⟨_, rfl⟩
  rw [← hn] at hx hxl ⊢
  rw [← hm] at hy hyl ⊢
  refine calls_sat (cx := Try.cx 58 [] [] [] w) (Try.ok ..) Try.func54 rfl [.o 100 X n capX, .o 101 Y m capY] rfl (by show 2 ≤ 58; omega) [(100, .ro X n 1 (us (dg bb x))), (101, .ro Y m 1 (us (dg bb y)))] (holds_ros rfl rfl ⟨hx, hy, trivial⟩) ?_
  rcases Nat.lt_or_ge n m with hlt | hge
  · repeat' ((conv => whnf); first | refine walk (Try.ok ..) ?_ | (refine Cnd.mk (fun h => ?_) (fun h => ?_) <;> (first | exact cndT h (by (try dsimp only); omega) | exact cndF h (by (try dsimp only); omega) | (exfalso; simp at h; omega) | simp at h | skip)) | refine side2 ?_ | refine sideL2 ?_ | fail)
    intro g hg
    repeat' ((conv => whnf); first | refine walk (Try.ok ..) ?_ | fail)
    have en : (((m : Nat) : Int) + 1).toNat = m + 1 := by omega
    rw [en]
    refine sat_loop (Try.ok ..) (α := Nat × List Nat × Nat) (fun s => ([(0, .yes, .o 101 Y m capY), (1, .yes, .o 100 X n capX), (5, .yes, .o 19 (some (g, 0)) (m + 1) (m + 1)), (6, .yes, .v (.int .u64 s.2.2)), (20, .yes, .o 101 Y m capY), (21, .yes, .v (.int .i64 m)), (22, .yes, .v (.int .i64 s.1))], [(19, .row (some (g, 0)) 23 1 (m + 1) (m + 1) (us s.2.1)), (101, .ro Y m 1 (us (dg bb y))), (100, .ro X n 1 (us (dg bb x)))]))
      (fun s => s.1 ≤ m ∧ s.2.1.length = m + 1 ∧ (∀ z ∈ s.2.1, z < bb) ∧ (∀ q, s.1 ≤ q → q < m + 1 → s.2.1[q]? = some 0) ∧ s.2.2 ≤ 1 ∧ nv bb s.2.1 + bb ^ s.1 * s.2.2 = y % bb ^ s.1 + x % bb ^ s.1) (fun s => m - s.1) (fun _ => rfl) ?_ ?_
    · refine ⟨(0, List.replicate (m + 1) 0, 0), ⟨Nat.zero_le _, List.length_replicate .., ?_, ?_, Nat.zero_le _, ?_⟩, ?_, ?_, rfl⟩
      · intro z hz
        rw [(List.mem_replicate.1 hz).2]; decide
      · intro q _ hq
        rw [List.getElem?_replicate, if_pos hq]
      · rw [nv_rep]; simp [Nat.mod_one]
      · ((repeat' (first | exact trivial | exact rfl | refine And.intro ?_ ?_)) <;> (try (conv => whnf)) <;> (try simp only [SV.real, SV.r2, SV.r1]))
      · dsimp only
        rw [← made_us]
        ((repeat' (first | exact trivial | exact rfl | refine And.intro ?_ ?_)) <;> (try (conv => whnf)) <;> (try simp only [SV.real, SV.r2, SV.r1]))
    rintro ⟨i, o, c⟩ ⟨hi, ho, hob, hoz, hc, hinv⟩
    dsimp only at hi ho hob hoz hc hinv
    by_cases hin : i < m
    · have hxa := dg_get (B := bb) (by decide) i y (by omega)
      have hxb : y / bb ^ i % bb < bb := Nat.mod_lt _ (by decide)
      obtain ⟨xa, exa⟩ : ∃ v, v = y / bb ^ i % bb := ⟨_, rfl⟩
      have hst := add_step hinv
      rw [← exa] at hxa hxb hst
      have hbb : bb = 4294967296 := rfl
      have ho0 := hoz i (Nat.le_refl _) (by omega)
      by_cases him : i < n
      · have hya := dg_get (B := bb) (by decide) i x (by omega)
        have hyb : x / bb ^ i % bb < bb := Nat.mod_lt _ (by decide)
        obtain ⟨ya, eya⟩ : ∃ v, v = x / bb ^ i % bb := ⟨_, rfl⟩
        rw [← eya] at hya hyb hst
        have hs2 := nv_set (B := bb) (x := (c + xa + ya) % bb) ho0
        have hlo : mulS ((i : Int)).toNat 1 < (us o).length := by rw [mulS_eq, us_len]; omega
        rw [Nat.mul_zero, Nat.add_zero] at hs2
        have hc2 : (c + xa + ya) / bb ≤ 1 := by rw [hbb]; omega
        have hset : (us o).set (mulS ((i : Int)).toNat 1) (.int .u32 (IntKind.u32.wrap ((c : Int) + xa + ya))) = us (o.set i ((c + xa + ya) % bb)) := u_set rfl (by rw [wrap_u32, hbb]; omega)
        repeat' ((conv => whnf); first | refine walk (Try.ok ..) ?_ | (refine Cnd.mk (fun h => ?_) (fun h => ?_) <;> (first | exact cndT h (by (try dsimp only); omega) | exact cndF h (by (try dsimp only); omega) | (exfalso; simp at h; omega) | simp at h | skip)) | refine side2 ?_ | refine sideL2 ?_ | refine Or.inr ?_ | refine xi _ (u_at hxa rfl) ?_ | refine xi _ (u_at hya rfl) ?_ | fail)
        refine ⟨(i + 1, o.set i ((c + xa + ya) % bb), (c + xa + ya) / bb), ⟨⟨by omega, by rw [List.length_set]; exact ho, all_set hob (Nat.mod_lt _ (by decide)), fun q h1 h2 => ?_, hc2, by rw [hs2]; exact hst⟩, by dsimp only; omega⟩, ?_, ?_, rfl⟩
        · rw [List.getElem?_set_ne (by omega)]
          exact hoz q (by omega) h2
        · dsimp only
          ((repeat' (first | exact trivial | exact rfl | refine And.intro ?_ ?_)) <;> (try (conv => whnf)) <;> (try simp only [SV.real, SV.r2, SV.r1]))
        · dsimp only
          ((repeat' (first | exact trivial | exact rfl | refine And.intro ?_ ?_)) <;> (try (conv => whnf)) <;> (try simp only [SV.real, SV.r2, SV.r1]))
          all_goals exact hset
      · have hya := dg_past (B := bb) (by decide) (k := i) (n := x) (by omega)
        rw [hya, Nat.add_zero] at hst
        have hs2 := nv_set (B := bb) (x := (c + xa) % bb) ho0
        have hlo : mulS ((i : Int)).toNat 1 < (us o).length := by rw [mulS_eq, us_len]; omega
        rw [Nat.mul_zero, Nat.add_zero] at hs2
        have hc2 : (c + xa) / bb ≤ 1 := by rw [hbb]; omega
        have hset : (us o).set (mulS ((i : Int)).toNat 1) (.int .u32 (IntKind.u32.wrap ((c : Int) + xa))) = us (o.set i ((c + xa) % bb)) := u_set rfl (by rw [wrap_u32, hbb]; omega)
        repeat' ((conv => whnf); first | refine walk (Try.ok ..) ?_ | (refine Cnd.mk (fun h => ?_) (fun h => ?_) <;> (first | exact cndT h (by (try dsimp only); omega) | exact cndF h (by (try dsimp only); omega) | (exfalso; simp at h; omega) | simp at h | skip)) | refine side2 ?_ | refine sideL2 ?_ | refine Or.inr ?_ | refine xi _ (u_at hxa rfl) ?_ | fail)
        refine ⟨(i + 1, o.set i ((c + xa) % bb), (c + xa) / bb), ⟨⟨by omega, by rw [List.length_set]; exact ho, all_set hob (Nat.mod_lt _ (by decide)), fun q h1 h2 => ?_, hc2, by rw [hs2]; exact hst⟩, by dsimp only; omega⟩, ?_, ?_, rfl⟩
        · rw [List.getElem?_set_ne (by omega)]
          exact hoz q (by omega) h2
        · dsimp only
          ((repeat' (first | exact trivial | exact rfl | refine And.intro ?_ ?_)) <;> (try (conv => whnf)) <;> (try simp only [SV.real, SV.r2, SV.r1]))
        · dsimp only
          ((repeat' (first | exact trivial | exact rfl | refine And.intro ?_ ?_)) <;> (try (conv => whnf)) <;> (try simp only [SV.real, SV.r2, SV.r1]))
          all_goals exact hset
    · obtain rfl : i = m := by omega
      have hx1 : y % bb ^ i = y := Nat.mod_eq_of_lt ((dg_len (by decide) i y).1 (by omega))
      have hy1 : x % bb ^ i = x := Nat.mod_eq_of_lt ((dg_len (by decide) i x).1 (by omega))
      have ho0 := hoz i (Nat.le_refl _) (by omega)
      have hs2 := nv_set (B := bb) (x := c) ho0
      rw [Nat.mul_zero, Nat.add_zero, hinv, hx1, hy1] at hs2
      have hlo : mulS ((i : Int)).toNat 1 < (us o).length := by rw [mulS_eq, us_len]; omega
      have htr := trim_nil (B := bb) (by decide) (all_set (k := i) hob (show c < bb by unfold bb; omega))
      rw [hs2] at htr
      have hset : (us o).set (mulS ((i : Int)).toNat 1) (.int .u32 (c : Int)) = us (o.set i c) := u_set rfl rfl
      have hol : (o.set i c).length = i + 1 := by rw [List.length_set]; exact ho
      rw [Nat.add_comm y x] at htr
      repeat' ((conv => whnf); first | refine walk (Try.ok ..) ?_ | (refine Cnd.mk (fun h => ?_) (fun h => ?_) <;> (first | exact cndT h (by (try dsimp only); omega) | exact cndF h (by (try dsimp only); omega) | (exfalso; simp at h; omega) | simp at h | skip)) | refine side2 ?_ | refine sideL2 ?_ | fail)
      refine called_trim 19 (dg bb (x + y)).length rfl (by rw [htr, ← hol]; exact trim_len _) (fun w' hh => by
        have h0 : Ro w' (some (g, 0)) (i + 1) 1 (us (o.set i c)) := by rw [← hset]; exact ro_of_row hh (id := 19) rfl
        have h1 := trim_any (o.set i c) (some (g, 0)) (i + 1) w' (by rw [hol]; exact h0) (by omega) (by rw [hol]; exact row_cap hh (id := 19) rfl)
        rw [← htr, hol] at h1
        exact h1) ?_
      repeat' ((conv => whnf); first | refine walk (Try.ok ..) ?_ | fail)
      exact done_row2 (mk := fun v => v) rfl rfl 19 (some (g, 0)) (i + 1) rfl rfl (by
        show List.take _ ((us o).set _ _) = _
        rw [Nat.mul_one]
        refine (congrArg (List.take _) hset).trans ?_
        rw [us_take, htr, ← trim_take]) rfl
  · repeat' ((conv => whnf); first | refine walk (Try.ok ..) ?_ | (refine Cnd.mk (fun h => ?_) (fun h => ?_) <;> (first | exact cndT h (by (try dsimp only); omega) | exact cndF h (by (try dsimp only); omega) | (exfalso; simp at h; omega) | simp at h | skip)) | refine side2 ?_ | refine sideL2 ?_ | fail)
    intro g hg
    repeat' ((conv => whnf); first | refine walk (Try.ok ..) ?_ | fail)
    have en : (((n : Nat) : Int) + 1).toNat = n + 1 := by omega
    rw [en]
    refine sat_loop (Try.ok ..) (α := Nat × List Nat × Nat) (fun s => ([(0, .yes, .o 100 X n capX), (1, .yes, .o 101 Y m capY), (5, .yes, .o 19 (some (g, 0)) (n + 1) (n + 1)), (6, .yes, .v (.int .u64 s.2.2)), (20, .yes, .o 100 X n capX), (21, .yes, .v (.int .i64 n)), (22, .yes, .v (.int .i64 s.1))], [(19, .row (some (g, 0)) 23 1 (n + 1) (n + 1) (us s.2.1)), (100, .ro X n 1 (us (dg bb x))), (101, .ro Y m 1 (us (dg bb y)))]))
      (fun s => s.1 ≤ n ∧ s.2.1.length = n + 1 ∧ (∀ z ∈ s.2.1, z < bb) ∧ (∀ q, s.1 ≤ q → q < n + 1 → s.2.1[q]? = some 0) ∧ s.2.2 ≤ 1 ∧ nv bb s.2.1 + bb ^ s.1 * s.2.2 = x % bb ^ s.1 + y % bb ^ s.1) (fun s => n - s.1) (fun _ => rfl) ?_ ?_
    · refine ⟨(0, List.replicate (n + 1) 0, 0), ⟨Nat.zero_le _, List.length_replicate .., ?_, ?_, Nat.zero_le _, ?_⟩, ?_, ?_, rfl⟩
      · intro z hz
        rw [(List.mem_replicate.1 hz).2]; decide
      · intro q _ hq
        rw [List.getElem?_replicate, if_pos hq]
      · rw [nv_rep]; simp [Nat.mod_one]
      · ((repeat' (first | exact trivial | exact rfl | refine And.intro ?_ ?_)) <;> (try (conv => whnf)) <;> (try simp only [SV.real, SV.r2, SV.r1]))
      · dsimp only
        rw [← made_us]
        ((repeat' (first | exact trivial | exact rfl | refine And.intro ?_ ?_)) <;> (try (conv => whnf)) <;> (try simp only [SV.real, SV.r2, SV.r1]))
    rintro ⟨i, o, c⟩ ⟨hi, ho, hob, hoz, hc, hinv⟩
    dsimp only at hi ho hob hoz hc hinv
    by_cases hin : i < n
    · have hxa := dg_get (B := bb) (by decide) i x (by omega)
      have hxb : x / bb ^ i % bb < bb := Nat.mod_lt _ (by decide)
      obtain ⟨xa, exa⟩ : ∃ v, v = x / bb ^ i % bb := ⟨_, rfl⟩
      have hst := add_step hinv
      rw [← exa] at hxa hxb hst
      have hbb : bb = 4294967296 := rfl
      have ho0 := hoz i (Nat.le_refl _) (by omega)
      by_cases him : i < m
      · have hya := dg_get (B := bb) (by decide) i y (by omega)
        have hyb : y / bb ^ i % bb < bb := Nat.mod_lt _ (by decide)
        obtain ⟨ya, eya⟩ : ∃ v, v = y / bb ^ i % bb := ⟨_, rfl⟩
        rw [← eya] at hya hyb hst
        have hs2 := nv_set (B := bb) (x := (c + xa + ya) % bb) ho0
        have hlo : mulS ((i : Int)).toNat 1 < (us o).length := by rw [mulS_eq, us_len]; omega
        rw [Nat.mul_zero, Nat.add_zero] at hs2
        have hc2 : (c + xa + ya) / bb ≤ 1 := by rw [hbb]; omega
        have hset : (us o).set (mulS ((i : Int)).toNat 1) (.int .u32 (IntKind.u32.wrap ((c : Int) + xa + ya))) = us (o.set i ((c + xa + ya) % bb)) := u_set rfl (by rw [wrap_u32, hbb]; omega)
        repeat' ((conv => whnf); first | refine walk (Try.ok ..) ?_ | (refine Cnd.mk (fun h => ?_) (fun h => ?_) <;> (first | exact cndT h (by (try dsimp only); omega) | exact cndF h (by (try dsimp only); omega) | (exfalso; simp at h; omega) | simp at h | skip)) | refine side2 ?_ | refine sideL2 ?_ | refine Or.inr ?_ | refine xi _ (u_at hxa rfl) ?_ | refine xi _ (u_at hya rfl) ?_ | fail)
        refine ⟨(i + 1, o.set i ((c + xa + ya) % bb), (c + xa + ya) / bb), ⟨⟨by omega, by rw [List.length_set]; exact ho, all_set hob (Nat.mod_lt _ (by decide)), fun q h1 h2 => ?_, hc2, by rw [hs2]; exact hst⟩, by dsimp only; omega⟩, ?_, ?_, rfl⟩
        · rw [List.getElem?_set_ne (by omega)]
          exact hoz q (by omega) h2
        · dsimp only
          ((repeat' (first | exact trivial | exact rfl | refine And.intro ?_ ?_)) <;> (try (conv => whnf)) <;> (try simp only [SV.real, SV.r2, SV.r1]))
        · dsimp only
          ((repeat' (first | exact trivial | exact rfl | refine And.intro ?_ ?_)) <;> (try (conv => whnf)) <;> (try simp only [SV.real, SV.r2, SV.r1]))
          all_goals exact hset
      · have hya := dg_past (B := bb) (by decide) (k := i) (n := y) (by omega)
        rw [hya, Nat.add_zero] at hst
        have hs2 := nv_set (B := bb) (x := (c + xa) % bb) ho0
        have hlo : mulS ((i : Int)).toNat 1 < (us o).length := by rw [mulS_eq, us_len]; omega
        rw [Nat.mul_zero, Nat.add_zero] at hs2
        have hc2 : (c + xa) / bb ≤ 1 := by rw [hbb]; omega
        have hset : (us o).set (mulS ((i : Int)).toNat 1) (.int .u32 (IntKind.u32.wrap ((c : Int) + xa))) = us (o.set i ((c + xa) % bb)) := u_set rfl (by rw [wrap_u32, hbb]; omega)
        repeat' ((conv => whnf); first | refine walk (Try.ok ..) ?_ | (refine Cnd.mk (fun h => ?_) (fun h => ?_) <;> (first | exact cndT h (by (try dsimp only); omega) | exact cndF h (by (try dsimp only); omega) | (exfalso; simp at h; omega) | simp at h | skip)) | refine side2 ?_ | refine sideL2 ?_ | refine Or.inr ?_ | refine xi _ (u_at hxa rfl) ?_ | fail)
        refine ⟨(i + 1, o.set i ((c + xa) % bb), (c + xa) / bb), ⟨⟨by omega, by rw [List.length_set]; exact ho, all_set hob (Nat.mod_lt _ (by decide)), fun q h1 h2 => ?_, hc2, by rw [hs2]; exact hst⟩, by dsimp only; omega⟩, ?_, ?_, rfl⟩
        · rw [List.getElem?_set_ne (by omega)]
          exact hoz q (by omega) h2
        · dsimp only
          ((repeat' (first | exact trivial | exact rfl | refine And.intro ?_ ?_)) <;> (try (conv => whnf)) <;> (try simp only [SV.real, SV.r2, SV.r1]))
        · dsimp only
          ((repeat' (first | exact trivial | exact rfl | refine And.intro ?_ ?_)) <;> (try (conv => whnf)) <;> (try simp only [SV.real, SV.r2, SV.r1]))
          all_goals exact hset
    · obtain rfl : i = n := by omega
      have hx1 : x % bb ^ i = x := Nat.mod_eq_of_lt ((dg_len (by decide) i x).1 (by omega))
      have hy1 : y % bb ^ i = y := Nat.mod_eq_of_lt ((dg_len (by decide) i y).1 (by omega))
      have ho0 := hoz i (Nat.le_refl _) (by omega)
      have hs2 := nv_set (B := bb) (x := c) ho0
      rw [Nat.mul_zero, Nat.add_zero, hinv, hx1, hy1] at hs2
      have hlo : mulS ((i : Int)).toNat 1 < (us o).length := by rw [mulS_eq, us_len]; omega
      have htr := trim_nil (B := bb) (by decide) (all_set (k := i) hob (show c < bb by unfold bb; omega))
      rw [hs2] at htr
      have hset : (us o).set (mulS ((i : Int)).toNat 1) (.int .u32 (c : Int)) = us (o.set i c) := u_set rfl rfl
      have hol : (o.set i c).length = i + 1 := by rw [List.length_set]; exact ho
      rw [Nat.add_comm x y, Nat.add_comm y x] at htr
      repeat' ((conv => whnf); first | refine walk (Try.ok ..) ?_ | (refine Cnd.mk (fun h => ?_) (fun h => ?_) <;> (first | exact cndT h (by (try dsimp only); omega) | exact cndF h (by (try dsimp only); omega) | (exfalso; simp at h; omega) | simp at h | skip)) | refine side2 ?_ | refine sideL2 ?_ | fail)
      refine called_trim 19 (dg bb (x + y)).length rfl (by rw [htr, ← hol]; exact trim_len _) (fun w' hh => by
        have h0 : Ro w' (some (g, 0)) (i + 1) 1 (us (o.set i c)) := by rw [← hset]; exact ro_of_row hh (id := 19) rfl
        have h1 := trim_any (o.set i c) (some (g, 0)) (i + 1) w' (by rw [hol]; exact h0) (by omega) (by rw [hol]; exact row_cap hh (id := 19) rfl)
        rw [← htr, hol] at h1
        exact h1) ?_
      repeat' ((conv => whnf); first | refine walk (Try.ok ..) ?_ | fail)
      exact done_row2 (mk := fun v => v) rfl rfl 19 (some (g, 0)) (i + 1) rfl rfl (by
        show List.take _ ((us o).set _ _) = _
        rw [Nat.mul_one]
        refine (congrArg (List.take _) hset).trans ?_
        rw [us_take, htr, ← trim_take]) rfl
theorem sub_ex {a b o : Nat} (ha : a < bb) (hb : b < bb) (ho : o ≤ 1) : ∃ d o' : Nat, d < bb ∧ o' ≤ 1 ∧ d + b + o = a + bb * o' := by
  by_cases h : a < b + o
  · exact ⟨a + bb - b - o, 1, by omega, Nat.le_refl _, by omega⟩
  · exact ⟨a - b - o, 0, by omega, by omega, by omega⟩
set_option maxRecDepth 100000 in
set_option maxHeartbeats 8000000 in
theorem minus_any (x y : Nat) (X Y : Option (Nat × Nat)) (capX capY : Nat) (w : World) (hyx : y ≤ x) (hx : Ro w X (dg bb x).length 1 (us (dg bb x))) (hy : Ro w Y (dg bb y).length 1 (us (dg bb y))) (hxl : (dg bb x).length ≤ 1000000) (hyl : (dg bb y).length ≤ 1000000) :
    Calls Try.prog 65 #[.slice (adr X) (dg bb x).length capX, .slice (adr Y) (dg bb y).length capY] w fun e w' => ∃ v, e = .returned v ∧ w'.ownsRow w.heap.size 23 1 v (dg bb (x - y)).length (us (dg bb (x - y))) ∧ Below w.heap.size w w' := by
  obtain ⟨n, hn⟩ : ∃ n, n = (dg bb x).length := ⟨_, rfl⟩
  obtain ⟨m, hm⟩ : ∃ n, n = (dg bb y).length := ⟨_, rfl⟩
  rw [← hn] at hx hxl ⊢
  rw [← hm] at hy hyl ⊢
  have hmn : m ≤ n := by rw [hn, hm]; exact len_le (by decide) hyx
  refine calls_sat (cx := Try.cx 44 [] [] [] w) (Try.ok ..) Try.func65 rfl [.o 100 X n capX, .o 101 Y m capY] rfl (by show 2 ≤ 44; omega) [(100, .ro X n 1 (us (dg bb x))), (101, .ro Y m 1 (us (dg bb y)))] (holds_ros rfl rfl ⟨hx, hy, trivial⟩) ?_
  repeat' ((conv => whnf); first | refine walk (Try.ok ..) ?_ | fail)
  refine called_row 10 (xs := us (dg bb x)) (m := n) (fun v => v) (fun A cap => .o 10 A n cap) (fun A cap => rfl) (fun w' hh => by
    have h1 := clone_any (dg bb x) X capX w' (by rw [← hn]; exact ro_of_ro hh (id := 100) rfl) (by omega)
    rw [← hn] at h1
    exact h1) ?_
  intro A1 cap1
  repeat' ((conv => whnf); first | refine walk (Try.ok ..) ?_ | fail)
  refine sat_loop (Try.ok ..) (α := Nat × List Nat × Nat) (fun s => ([(1, .yes, .o 101 Y m capY), (5, .yes, .o 10 A1 n cap1), (6, .yes, .v (.int .u64 s.2.2)), (11, .yes, .o 10 A1 n cap1), (12, .yes, .v (.int .i64 n)), (13, .yes, .v (.int .i64 s.1))], [(10, .row A1 23 1 n cap1 (us s.2.1)), (101, .ro Y m 1 (us (dg bb y)))]))
    (fun s => s.1 ≤ n ∧ s.2.1.length = n ∧ (∀ z ∈ s.2.1, z < bb) ∧ (∀ q, s.1 ≤ q → q < n → s.2.1[q]? = (dg bb x)[q]?) ∧ s.2.2 ≤ 1 ∧ nv bb s.2.1 + y % bb ^ s.1 = x + bb ^ s.1 * s.2.2) (fun s => n - s.1) (fun _ => rfl) ?_ ?_
  · refine ⟨(0, dg bb x, 0), ⟨Nat.zero_le _, hn.symm, dg_lt (by decide) x, fun _ _ _ => rfl, Nat.zero_le _, ?_⟩, ?_, ?_, rfl⟩
    · rw [nv_dg (by decide)]; simp [Nat.mod_one]
    · ((repeat' (first | exact trivial | exact rfl | refine And.intro ?_ ?_)) <;> (try (conv => whnf)) <;> (try simp only [SV.real, SV.r2, SV.r1]))
    · ((repeat' (first | exact trivial | exact rfl | refine And.intro ?_ ?_)) <;> (try (conv => whnf)) <;> (try simp only [SV.real, SV.r2, SV.r1]))
  rintro ⟨i, o, c⟩ ⟨hi, ho, hob, hoz, hc, hinv⟩
  dsimp only at hi ho hob hoz hc hinv
  by_cases hin : i < n
  · have hxo := hoz i (Nat.le_refl _) hin
    rw [dg_get (B := bb) (by decide) i x (by omega)] at hxo
    have hxb : x / bb ^ i % bb < bb := Nat.mod_lt _ (by decide)
    obtain ⟨xa, exa⟩ : ∃ v, v = x / bb ^ i % bb := ⟨_, rfl⟩
    rw [← exa] at hxo hxb
    have hyb : y / bb ^ i % bb < bb := Nat.mod_lt _ (by decide)
    obtain ⟨ya, eya⟩ : ∃ v, v = y / bb ^ i % bb := ⟨_, rfl⟩
    rw [← eya] at hyb
    obtain ⟨d, w2, hd1, hd2, hd⟩ := sub_ex hxb hyb hc
    by_cases him : i < m
    · have hya := dg_get (B := bb) (by decide) i y (by omega)
      rw [← eya] at hya
      have hs2 := nv_set (B := bb) (x := d) hxo
      have hst := sub_step (B := bb) hinv hs2 (by rw [← eya]; exact hd)
      have hlo : mulS ((i : Int)).toNat 1 < (us o).length := by rw [mulS_eq, us_len]; omega
      have hbb : bb = 4294967296 := rfl
      rw [hbb] at hd hd1 hxb hyb
      have hset : (us o).set (mulS ((i : Int)).toNat 1) (.int .u32 (IntKind.u32.wrap (IntKind.u64.wrap (IntKind.u64.wrap ((xa : Int) - c) - ya)))) = us (o.set i d) := u_set rfl (by rw [wrap_u32]; simp only [IntKind.wrap_u64]; omega)
      repeat' ((conv => whnf); first | refine walk (Try.ok ..) ?_ | (refine Cnd.mk (fun h => ?_) (fun h => ?_) <;> (first | exact cndT h (by (try dsimp only); omega) | exact cndF h (by (try dsimp only); omega) | (exfalso; simp at h; omega) | simp at h | skip)) | refine side2 ?_ | refine sideL2 ?_ | refine Or.inr ?_ | refine xi _ (u_at hxo rfl) ?_ | refine xi _ (u_at hya rfl) ?_ | fail)
      refine ⟨(i + 1, o.set i d, w2), ⟨⟨by omega, by rw [List.length_set]; exact ho, all_set hob hd1, fun q h1 h2 => ?_, hd2, hst⟩, by dsimp only; omega⟩, ?_, ?_, rfl⟩
      · rw [List.getElem?_set_ne (by omega)]
        exact hoz q (by omega) h2
      · dsimp only
        ((repeat' (first | exact trivial | exact rfl | refine And.intro ?_ ?_)) <;> (try (conv => whnf)) <;> (try simp only [SV.real, SV.r2, SV.r1]))
        all_goals exact congrArg (Value.int .u64) (by rw [pow63]; simp only [IntKind.wrap_u64]; omega)
      · dsimp only
        ((repeat' (first | exact trivial | exact rfl | refine And.intro ?_ ?_)) <;> (try (conv => whnf)) <;> (try simp only [SV.real, SV.r2, SV.r1]))
        all_goals exact hset
    · have hya := dg_past (B := bb) (by decide) (k := i) (n := y) (by omega)
      have hy0 : ya = 0 := by rw [eya, hya]
      have hs2 := nv_set (B := bb) (x := d) hxo
      have hst := sub_step (B := bb) hinv hs2 (by rw [← eya]; exact hd)
      have hlo : mulS ((i : Int)).toNat 1 < (us o).length := by rw [mulS_eq, us_len]; omega
      have hbb : bb = 4294967296 := rfl
      rw [hbb] at hd hd1 hxb hyb
      have hset : (us o).set (mulS ((i : Int)).toNat 1) (.int .u32 (IntKind.u32.wrap (IntKind.u64.wrap ((xa : Int) - c)))) = us (o.set i d) := u_set rfl (by rw [wrap_u32]; simp only [IntKind.wrap_u64]; omega)
      repeat' ((conv => whnf); first | refine walk (Try.ok ..) ?_ | (refine Cnd.mk (fun h => ?_) (fun h => ?_) <;> (first | exact cndT h (by (try dsimp only); omega) | exact cndF h (by (try dsimp only); omega) | (exfalso; simp at h; omega) | simp at h | skip)) | refine side2 ?_ | refine sideL2 ?_ | refine Or.inr ?_ | refine xi _ (u_at hxo rfl) ?_ | fail)
      refine ⟨(i + 1, o.set i d, w2), ⟨⟨by omega, by rw [List.length_set]; exact ho, all_set hob hd1, fun q h1 h2 => ?_, hd2, hst⟩, by dsimp only; omega⟩, ?_, ?_, rfl⟩
      · rw [List.getElem?_set_ne (by omega)]
        exact hoz q (by omega) h2
      · dsimp only
        ((repeat' (first | exact trivial | exact rfl | refine And.intro ?_ ?_)) <;> (try (conv => whnf)) <;> (try simp only [SV.real, SV.r2, SV.r1]))
        all_goals exact congrArg (Value.int .u64) (by rw [pow63]; simp only [IntKind.wrap_u64]; omega)
      · dsimp only
        ((repeat' (first | exact trivial | exact rfl | refine And.intro ?_ ?_)) <;> (try (conv => whnf)) <;> (try simp only [SV.real, SV.r2, SV.r1]))
        all_goals exact hset
  · obtain rfl : i = n := by omega
    have hy1 : y % bb ^ i = y := Nat.mod_eq_of_lt ((dg_len (by decide) i y).1 (by omega))
    rw [hy1] at hinv
    have hlt := nv_lt hob
    rw [ho] at hlt
    have hc0 : c = 0 := by
      rcases Nat.lt_or_ge c 1 with h | h
      · omega
      · obtain rfl : c = 1 := by omega
        omega
    subst hc0
    have hv : nv bb o = x - y := by omega
    have htr := trim_nil (B := bb) (by decide) hob
    rw [hv] at htr
    repeat' ((conv => whnf); first | refine walk (Try.ok ..) ?_ | (refine Cnd.mk (fun h => ?_) (fun h => ?_) <;> (first | exact cndT h (by (try dsimp only); omega) | exact cndF h (by (try dsimp only); omega) | (exfalso; simp at h; omega) | simp at h | skip)) | fail)
    refine called_trim 10 (dg bb (x - y)).length rfl (by rw [htr, ← ho]; exact trim_len _) (fun w' hh => by
      have h0 : Ro w' A1 i 1 (us o) := by rw [← (Eq.refl (us o))]; exact ro_of_row hh (id := 10) rfl
      have h1 := trim_any o A1 cap1 w' (by rw [ho]; exact h0) (by omega) (by rw [ho]; exact row_cap hh (id := 10) rfl)
      rw [← htr, ho] at h1
      exact h1) ?_
    repeat' ((conv => whnf); first | refine walk (Try.ok ..) ?_ | fail)
    exact done_row2 (mk := fun v => v) rfl rfl 10 A1 cap1 rfl rfl (by
      show List.take _ (us o) = _
      rw [Nat.mul_one]
      refine (congrArg (List.take _) (Eq.refl (us o))).trans ?_
      rw [us_take, htr, ← trim_take]) rfl
end
section
open Go Sat Go.RowKit Go.PlainAid
set_option linter.unusedSimpArgs false
set_option linter.unusedVariables false
theorem mul_lim {a b : Nat} (ha : a < bb) (hb : b < bb) : a * b ≤ 18446744065119617025 := by
  unfold bb at ha hb
  have h : a * b ≤ 4294967295 * 4294967295 := Nat.mul_le_mul (by omega) (by omega)
  omega
theorem add3 (a b c d : Nat) : a % bb = a % bb := rfl
set_option maxRecDepth 100000 in
set_option maxHeartbeats 8000000 in
theorem times_any (x y : Nat) (X Y : Option (Nat × Nat)) (capX capY : Nat) (w : World) (hx : Ro w X (dg bb x).length 1 (us (dg bb x))) (hy : Ro w Y (dg bb y).length 1 (us (dg bb y))) (hxl : (dg bb x).length ≤ 1000000) (hyl : (dg bb y).length ≤ 1000000) :
    Calls Try.prog 43 #[.slice (adr X) (dg bb x).length capX, .slice (adr Y) (dg bb y).length capY] w fun e w' => ∃ v, e = .returned v ∧ w'.ownsRow w.heap.size 23 1 v (dg bb (x * y)).length (us (dg bb (x * y))) ∧ Below w.heap.size w w' := by
  obtain ⟨n, hn⟩ : ∃ n, n = (dg bb x).length := ⟨_, rfl⟩
  obtain ⟨m, hm⟩ : ∃ n, n = (dg bb y).length := ⟨_, rfl⟩
  rw [← hn] at hx hxl ⊢
  rw [← hm] at hy hyl ⊢
  refine calls_sat (cx := Try.cx 67 [] [] [] w) (Try.ok ..) Try.func43 rfl [.o 100 X n capX, .o 101 Y m capY] rfl (by show 2 ≤ 67; omega) [(100, .ro X n 1 (us (dg bb x))), (101, .ro Y m 1 (us (dg bb y)))] (holds_ros rfl rfl ⟨hx, hy, trivial⟩) ?_
  have hbb : bb = 4294967296 := rfl
  repeat' ((conv => whnf); first | refine walk (Try.ok ..) ?_ | refine side2 ?_ | refine sideL2 ?_ | fail)
  intro g hg
  repeat' ((conv => whnf); first | refine walk (Try.ok ..) ?_ | fail)
  have en : ((n : Int) + (m : Int)).toNat = n + m := by omega
  rw [en]
  refine sat_loop (Try.ok ..) (α := Nat × List Nat) (fun s => ([(1, .yes, .o 101 Y m capY), (5, .yes, .o 16 (some (g, 0)) (n + m) (n + m)), (17, .yes, .o 100 X n capX), (18, .yes, .v (.int .i64 n)), (19, .yes, .v (.int .i64 s.1))], [(16, .row (some (g, 0)) 23 1 (n + m) (n + m) (us s.2)), (100, .ro X n 1 (us (dg bb x))), (101, .ro Y m 1 (us (dg bb y)))]))
    (fun s => s.1 ≤ n ∧ s.2.length = n + m ∧ (∀ z ∈ s.2, z < bb) ∧ (∀ q, s.1 + m ≤ q → q < n + m → s.2[q]? = some 0) ∧ nv bb s.2 = (x % bb ^ s.1) * y) (fun s => n - s.1) (fun _ => rfl) ?_ ?_
  · refine ⟨(0, List.replicate (n + m) 0), ⟨Nat.zero_le _, List.length_replicate .., ?_, ?_, ?_⟩, ?_, ?_, rfl⟩
    · intro z hz
      rw [(List.mem_replicate.1 hz).2]; decide
    · intro q _ hq
      rw [List.getElem?_replicate, if_pos hq]
    · rw [nv_rep]; simp [Nat.mod_one]
    · ((repeat' (first | exact trivial | exact rfl | refine And.intro ?_ ?_)) <;> (try (conv => whnf)) <;> (try simp only [SV.real, SV.r2, SV.r1]))
    · dsimp only
      rw [← made_us]
      ((repeat' (first | exact trivial | exact rfl | refine And.intro ?_ ?_)) <;> (try (conv => whnf)) <;> (try simp only [SV.real, SV.r2, SV.r1]))
  rintro ⟨i, o⟩ ⟨hi, ho, hob, hoz, hinv⟩
  dsimp only at hi ho hob hoz hinv
  by_cases hin : i < n
  · have hxa := dg_get (B := bb) (by decide) i x (by omega)
    have hxb : x / bb ^ i % bb < bb := Nat.mod_lt _ (by decide)
    obtain ⟨xa, exa⟩ : ∃ v, v = x / bb ^ i % bb := ⟨_, rfl⟩
    rw [← exa] at hxa hxb
    have hms := mod_split bb x i
    rw [← exa] at hms
    repeat' ((conv => whnf); first | refine walk (Try.ok ..) ?_ | (refine Cnd.mk (fun h => ?_) (fun h => ?_) <;> (first | exact cndT h (by (try dsimp only); omega) | exact cndF h (by (try dsimp only); omega) | (exfalso; simp at h; omega) | simp at h | skip)) | refine side2 ?_ | refine xi _ (u_at hxa rfl) ?_ | fail)
    refine sat_loop (Try.ok ..) (α := Nat × List Nat × Nat) (fun s => ([(1, .yes, .o 101 Y m capY), (5, .yes, .o 16 (some (g, 0)) (n + m) (n + m)), (6, .yes, .v (.int .i64 i)), (7, .yes, .v (.int .u32 xa)), (8, .yes, .v (.int .u64 s.2.2)), (17, .yes, .o 100 X n capX), (18, .yes, .v (.int .i64 n)), (19, .yes, .v (.int .i64 i)), (24, .yes, .o 101 Y m capY), (25, .yes, .v (.int .i64 m)), (26, .yes, .v (.int .i64 s.1))], [(16, .row (some (g, 0)) 23 1 (n + m) (n + m) (us s.2.1)), (100, .ro X n 1 (us (dg bb x))), (101, .ro Y m 1 (us (dg bb y)))]))
      (fun s => s.1 ≤ m ∧ s.2.1.length = n + m ∧ (∀ z ∈ s.2.1, z < bb) ∧ (∀ q, i + s.1 ≤ q → q < n + m → s.2.1[q]? = o[q]?) ∧ s.2.2 < bb ∧ nv bb s.2.1 + bb ^ (i + s.1) * s.2.2 = nv bb o + bb ^ i * (xa * (y % bb ^ s.1))) (fun s => m - s.1) (fun _ => rfl) ?_ ?_
    · refine ⟨(0, o, 0), ⟨Nat.zero_le _, ho, hob, fun _ _ _ => rfl, (show 0 < bb by decide), ?_⟩, ?_, ?_, rfl⟩
      · simp [Nat.mod_one]
      · ((repeat' (first | exact trivial | exact rfl | refine And.intro ?_ ?_)) <;> (try (conv => whnf)) <;> (try simp only [SV.real, SV.r2, SV.r1]))
      · ((repeat' (first | exact trivial | exact rfl | refine And.intro ?_ ?_)) <;> (try (conv => whnf)) <;> (try simp only [SV.real, SV.r2, SV.r1]))
    rintro ⟨k, p, c⟩ ⟨hk, hp, hpb, hpz, hc, hpinv⟩
    dsimp only at hk hp hpb hpz hc hpinv
    by_cases hkm : k < m
    · have hya := dg_get (B := bb) (by decide) k y (by omega)
      have hyb : y / bb ^ k % bb < bb := Nat.mod_lt _ (by decide)
      obtain ⟨z, hz⟩ := us_at (l := p) (k := i + k) (by omega)
      have hzb := hpb z (List.mem_of_getElem? hz)
      have hst := fun v' h => mul_step (B := bb) (v' := v') (y := z) hpinv h
      obtain ⟨ya, eya⟩ : ∃ v, v = y / bb ^ k % bb := ⟨_, rfl⟩
      rw [← eya] at hya hyb hst
      have hml := mul_lim hxb hyb
      obtain ⟨q, hq⟩ : ∃ q, q = xa * ya := ⟨_, rfl⟩
      have hqi : (xa : Int) * (ya : Int) = (q : Int) := by rw [hq]; exact (Int.natCast_mul ..).symm
      rw [← hq] at hml hst
      have hs2 := nv_set (B := bb) (x := (c + q + z) % bb) hz
      have hst2 := hst _ hs2
      have hlo : mulS ((i : Int) + (k : Int)).toNat 1 < (us p).length := by rw [mulS_eq, us_len]; omega
      have hc2 : (c + q + z) / bb < bb := by rw [hbb] at hzb hc ⊢; omega
      rw [hbb] at hc hzb hxb hyb
      have hset : (us p).set (mulS ((i : Int) + (k : Int)).toNat 1) (.int .u32 (IntKind.u32.wrap ((c : Int) + ((xa : Int) * (ya : Int) + (z : Int))))) = us (p.set (i + k) ((c + q + z) % bb)) := u_set (by omega) (by rw [wrap_u32, hbb, hqi]; omega)
      repeat' ((conv => whnf); first | refine walk (Try.ok ..) ?_ | (refine Cnd.mk (fun h => ?_) (fun h => ?_) <;> (first | exact cndT h (by (try dsimp only); omega) | exact cndF h (by (try dsimp only); omega) | (exfalso; simp at h; omega) | simp at h | skip)) | refine side2 ?_ | refine sideL2 ?_ | refine Or.inr ?_ | refine xi _ (u_at hya rfl) ?_ | refine xi _ (u_at hz (by omega)) ?_ | fail)
      refine ⟨(k + 1, p.set (i + k) ((c + q + z) % bb), (c + q + z) / bb), ⟨⟨by omega, by rw [List.length_set]; exact hp, all_set hpb (Nat.mod_lt _ (by decide)), fun r h1 h2 => ?_, hc2, hst2⟩, by dsimp only; omega⟩, ?_, ?_, rfl⟩
      · rw [List.getElem?_set_ne (by omega)]
        exact hpz r (by omega) h2
      · dsimp only
        ((repeat' (first | exact trivial | exact rfl | refine And.intro ?_ ?_)) <;> (try (conv => whnf)) <;> (try simp only [SV.real, SV.r2, SV.r1]))
        all_goals exact congrArg (Value.int .u64) (by rw [pow32, hbb, hqi]; omega)
      · dsimp only
        ((repeat' (first | exact trivial | exact rfl | refine And.intro ?_ ?_)) <;> (try (conv => whnf)) <;> (try simp only [SV.real, SV.r2, SV.r1]))
        all_goals exact hset
    · obtain rfl : k = m := by omega
      have hz := hpz (i + k) (Nat.le_refl _) (by omega)
      rw [hoz (i + k) (Nat.le_refl _) (by omega)] at hz
      have hs2 := nv_set (B := bb) (x := c) hz
      have hy1 : y % bb ^ k = y := Nat.mod_eq_of_lt ((dg_len (by decide) k y).1 (by omega))
      rw [Nat.mul_zero, Nat.add_zero, hpinv, hinv, hy1] at hs2
      have hlo : mulS ((i : Int) + (k : Int)).toNat 1 < (us p).length := by rw [mulS_eq, us_len]; omega
      have hset : (us p).set (mulS ((i : Int) + (k : Int)).toNat 1) (.int .u32 (c : Int)) = us (p.set (i + k) c) := u_set (by omega) rfl
      have hc' := hc
      rw [hbb] at hc
      repeat' ((conv => whnf); first | refine walk (Try.ok ..) ?_ | (refine Cnd.mk (fun h => ?_) (fun h => ?_) <;> (first | exact cndT h (by (try dsimp only); omega) | exact cndF h (by (try dsimp only); omega) | (exfalso; simp at h; omega) | simp at h | skip)) | refine side2 ?_ | refine sideL2 ?_ | fail)
      refine ⟨(i + 1, p.set (i + k) c), ⟨⟨by omega, by rw [List.length_set]; exact hp, all_set hpb hc', fun r h1 h2 => ?_, ?_⟩, by dsimp only; omega⟩, ?_, ?_, rfl⟩
      · rw [List.getElem?_set_ne (by omega), hpz r (by omega) h2]
        exact hoz r (by omega) h2
      · rw [hs2, hms, Nat.add_mul, Nat.mul_assoc]
      · ((repeat' (first | exact trivial | exact rfl | refine And.intro ?_ ?_)) <;> (try (conv => whnf)) <;> (try simp only [SV.real, SV.r2, SV.r1]))
      · dsimp only
        ((repeat' (first | exact trivial | exact rfl | refine And.intro ?_ ?_)) <;> (try (conv => whnf)) <;> (try simp only [SV.real, SV.r2, SV.r1]))
        all_goals exact hset
  · obtain rfl : i = n := by omega
    have hx1 : x % bb ^ i = x := Nat.mod_eq_of_lt ((dg_len (by decide) i x).1 (by omega))
    rw [hx1] at hinv
    have htr := trim_nil (B := bb) (by decide) hob
    rw [hinv] at htr
    repeat' ((conv => whnf); first | refine walk (Try.ok ..) ?_ | (refine Cnd.mk (fun h => ?_) (fun h => ?_) <;> (first | exact cndT h (by (try dsimp only); omega) | exact cndF h (by (try dsimp only); omega) | (exfalso; simp at h; omega) | simp at h | skip)) | fail)
    refine called_trim 16 (dg bb (x * y)).length rfl (by rw [htr, ← ho]; exact trim_len _) (fun w' hh => by
      have h0 : Ro w' (some (g, 0)) (i + m) 1 (us o) := by rw [← (Eq.refl (us o))]; exact ro_of_row hh (id := 16) rfl
      have h1 := trim_any o (some (g, 0)) (i + m) w' (by rw [ho]; exact h0) (by omega) (by rw [ho]; exact row_cap hh (id := 16) rfl)
      rw [← htr, ho] at h1
      exact h1) ?_
    repeat' ((conv => whnf); first | refine walk (Try.ok ..) ?_ | fail)
    exact done_row2 (mk := fun v => v) rfl rfl 16 (some (g, 0)) (i + m) rfl rfl (by
      show List.take _ (us o) = _
      rw [Nat.mul_one]
      refine (congrArg (List.take _) (Eq.refl (us o))).trans ?_
      rw [us_take, htr, ← trim_take]) rfl
end
end Go.Proofs.Ytomhfakkebaciaa
