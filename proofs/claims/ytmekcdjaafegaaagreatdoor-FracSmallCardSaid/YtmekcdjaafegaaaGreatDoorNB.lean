/-
  The walks of the frac package: numbers are compared, and divided by one limb. The walks of the frac package: limbs are turned in place: a quotient by one limb, a multiple taken away, a number added. The walks of the frac package: a multiple is taken away in place, a number is added in place.
-/
import Derived.Test.YtmekcdjaafegaaaGreatDoorNA
set_option linter.unusedSimpArgs false
set_option linter.unusedVariables false
namespace Go.Proofs.YtmekcdjaafegaaaGreatDoor
section
open Go Sat Go.RowKit Go.PlainAid
set_option linter.unusedSimpArgs false
set_option linter.unusedVariables false
theorem cmp_lt {a b : Nat} (h : a < b) : cmpN a b = -1 := by unfold cmpN; rw [if_pos h]
theorem cmp_gt {a b : Nat} (h : b < a) : cmpN a b = 1 := by unfold cmpN; rw [if_neg (by omega), if_pos h]
theorem cmp_eq (a : Nat) : cmpN a a = 0 := by unfold cmpN; rw [if_neg (by omega), if_neg (by omega)]
theorem digit_lt {x y k : Nat} (h : x / bb ^ (k + 1) = y / bb ^ (k + 1)) (hd : x / bb ^ k % bb < y / bb ^ k % bb) : x < y := by
  have h1 := div_split bb x k
  have h2 := div_split bb y k
  rw [h] at h1
  have h3 : x / bb ^ k < y / bb ^ k := by omega
  rcases Nat.lt_or_ge x y with h4 | h4
  · exact h4
  · have := Nat.div_le_div_right (c := bb ^ k) h4
    omega
set_option maxRecDepth 100000 in
set_option maxHeartbeats 8000000 in
theorem cmp_any (x y : Nat) (X Y : Option (Nat × Nat)) (capX capY : Nat) (w : World) (hx : Ro w X (dg bb x).length 1 (us (dg bb x))) (hy : Ro w Y (dg bb y).length 1 (us (dg bb y))) (hxl : (dg bb x).length ≤ 1000000) (hyl : (dg bb y).length ≤ 1000000) :
    Calls Tryz.prog 73 #[.slice (adr X) (dg bb x).length capX, .slice (adr Y) (dg bb y).length capY] w fun e w' => e = .returned (.int .i64 (cmpN x y)) ∧ Below w.heap.size w w' := by
  obtain ⟨n, hn⟩ : ∃ n, n = (dg bb x).length := ⟨_, rfl⟩
  obtain ⟨m, hm⟩ : ∃ n, n = (dg bb y).length := ⟨_, rfl⟩
  rw [← hn] at hx hxl ⊢
  rw [← hm] at hy hyl ⊢
  refine calls_sat (cx := Tryz.cx 33 [6] [] [] w) (Tryz.ok ..) Tryz.func73 rfl [.o 100 X n capX, .o 101 Y m capY] rfl (by show 2 ≤ 33; omega) [(100, .ro X n 1 (us (dg bb x))), (101, .ro Y m 1 (us (dg bb y)))] (holds_ros rfl rfl ⟨hx, hy, trivial⟩) ?_
  repeat' ((conv => whnf); first | refine walk (Tryz.ok ..) ?_ | fail)
  intro g3 hg3
  skip
  intro g4 hg4
  repeat' ((conv => whnf); first | refine walk (Tryz.ok ..) ?_ | (refine Cnd.mk (fun h => ?_) (fun h => ?_) <;> (first | exact cndT h (by (try dsimp only); omega) | exact cndF h (by (try dsimp only); omega) | (exfalso; simp at h; omega) | simp at h | skip)) | refine side2 ?_ | refine xi _ (And.intro rfl rfl) ?_ | fail)
  · rw [show cmpN x y = -1 from cmp_lt (len_lt (B := bb) (by decide) (by omega))]
    exact done_pure rfl rfl rfl
  · rw [show cmpN x y = 1 from cmp_gt (len_lt (B := bb) (by decide) (by omega))]
    exact done_pure rfl rfl rfl
  obtain rfl : n = m := by omega
  refine called_in (Tryz.ok ..) Tryz.func98 rfl (by show 1 ≤ 4; omega) ?_
  repeat' ((conv => whnf); first | refine walk (Tryz.ok ..) ?_ | fail)
  intro gb hgb
  repeat' ((conv => whnf); first | refine walk (Tryz.ok ..) ?_ | fail)
  refine done_in ?_
  repeat' ((conv => whnf); first | refine walk (Tryz.ok ..) ?_ | fail)
  intro D L hD hL
  repeat' ((conv => whnf); first | refine side2 ?_ | fail)
  all_goals (try (conv => whnf))
  generalize hB : HB.lp _ _ _ _ _ _ _ _ _ = B
  refine called_in (Tryz.ok ..) Tryz.func109 rfl (by show 2 ≤ 19; omega) ?_
  repeat' ((conv => whnf); first | refine walk (Tryz.ok ..) ?_ | refine side2 ?_ | refine sideL2 ?_ | refine xi _ (And.intro rfl rfl) ?_ | fail)
  all_goals (try (conv => whnf))
  refine sat_loop (COk.with_ (Tryz.ok ..) _ _) (α := Nat) (fun k => ([(0, .yes, .v (.func (.yield L) #[] #[])), (1, .yes, .p 1 gb 0 0), (3, .yes, .v (.int .i64 ((k : Int) - 1)))], [(1000000, .dfr D), (1000001, B), (1, .blk gb 72 [.o 100 X n capX]), (100, .ro X n 1 (us (dg bb x))), (101, .ro Y n 1 (us (dg bb y))), (3, .blk g3 72 [.o 101 Y n capY]), (4, .blk g4 3 [.v (.int .i64 0)])])) (fun k => k ≤ n ∧ x / bb ^ k = y / bb ^ k) (fun k => k) (fun _ => rfl) ?_ ?_
  · refine ⟨n, ⟨Nat.le_refl _, ?_⟩, ?_, ?_, rfl⟩
    · rw [Nat.div_eq_of_lt ((dg_len (by decide) n x).1 (by omega)), Nat.div_eq_of_lt ((dg_len (by decide) n y).1 (by omega))]
    all_goals ((repeat' (first | exact trivial | exact rfl | refine And.intro ?_ ?_)) <;> (try (conv => whnf)) <;> (try simp only [SV.real, SV.r2, SV.r1]))
    all_goals (subst hB)
    all_goals ((repeat' (first | exact trivial | exact rfl | refine And.intro ?_ ?_)) <;> (try (conv => whnf)) <;> (try simp only [SV.real, SV.r2, SV.r1]))
  rintro k ⟨hk, hdv⟩
  by_cases h0 : k = 0
  · subst h0
    subst hB
    repeat' ((conv => whnf); first | refine walk (Tryz.ok ..) ?_ | (refine Cnd.mk (fun h => ?_) (fun h => ?_) <;> (first | exact cndT h (by (try dsimp only); omega) | exact cndF h (by (try dsimp only); omega) | (exfalso; simp at h; omega) | simp at h | skip)) | fail)
    refine done_in ?_
    repeat' ((conv => whnf); first | refine walk (Tryz.ok ..) ?_ | refine side2 ?_ | refine xi _ (And.intro rfl rfl) ?_ | fail)
    rw [Nat.pow_zero, Nat.div_one, Nat.div_one] at hdv
    subst hdv
    rw [cmp_eq]
    exact done_pure rfl rfl rfl
  obtain ⟨j, rfl⟩ : ∃ j, k = j + 1 := ⟨k - 1, by omega⟩
  have hxa := dg_get (B := bb) (by decide) j x (by omega)
  have hya := dg_get (B := bb) (by decide) j y (by omega)
  have hlt1 := digit_lt hdv
  have hlt2 := digit_lt hdv.symm
  have hsp1 := div_split bb x j
  have hsp2 := div_split bb y j
  rw [hdv] at hsp1
  obtain ⟨xa, exa⟩ : ∃ v, v = x / bb ^ j % bb := ⟨_, rfl⟩
  obtain ⟨ya, eya⟩ : ∃ v, v = y / bb ^ j % bb := ⟨_, rfl⟩
  rw [← exa] at hxa hlt1 hlt2 hsp1
  rw [← eya] at hya hlt1 hlt2 hsp2
  repeat' ((conv => whnf); first | refine walk (Tryz.ok ..) ?_ | (refine Cnd.mk (fun h => ?_) (fun h => ?_) <;> (first | exact cndT h (by (try dsimp only); omega) | exact cndF h (by (try dsimp only); omega) | (exfalso; simp at h; omega) | simp at h | skip)) | refine side2 ?_ | refine xi _ (And.intro rfl rfl) ?_ | refine xi _ (u_at hxa (by omega)) ?_ | fail)
  subst hB
  refine Sat.yielded (COk.with_ (Tryz.ok ..) _ _) (id := 1000001) rfl rfl rfl rfl ?_
  repeat' ((conv => whnf); first | refine walk (COk.with_ (Tryz.ok ..) _ _) ?_ | fail)
  generalize hB2 : HB.lp _ _ _ _ _ _ _ LoopState.busy _ = B2
  refine sat_ops (COk.with_ (COk.with_ (Tryz.ok ..) _ _) _ _) ?_
  repeat' ((conv => whnf); first | refine walk (Tryz.ok ..) ?_ | refine walk (COk.with_ (Tryz.ok ..) _ _) ?_ | (refine Cnd.mk (fun h => ?_) (fun h => ?_) <;> (first | exact cndT h (by (try dsimp only); omega) | exact cndF h (by (try dsimp only); omega) | (exfalso; simp at h; omega) | simp at h | skip)) | refine side2 ?_ | refine sideL2 ?_ | refine xi _ (And.intro rfl rfl) ?_ | refine xi _ (u_at hya (by omega)) ?_ | fail)
  · subst hB2
    skip
    refine done_in ?_
    repeat' ((conv => whnf); first | refine side2 ?_ | refine xi _ (And.intro rfl rfl) ?_ | fail)
    rw [cmp_lt (hlt1 (by omega))]
    exact done_pure rfl rfl rfl
  · subst hB2
    skip
    refine done_in ?_
    repeat' ((conv => whnf); first | refine side2 ?_ | refine xi _ (And.intro rfl rfl) ?_ | fail)
    rw [cmp_gt (hlt2 (by omega))]
    exact done_pure rfl rfl rfl
  · subst hB2
    skip
    refine ⟨j, ⟨⟨by omega, by omega⟩, by omega⟩, ?_, ?_, rfl⟩
    · dsimp only
      ((repeat' (first | exact trivial | exact rfl | refine And.intro ?_ ?_)) <;> (try (conv => whnf)) <;> (try simp only [SV.real, SV.r2, SV.r1]))
      all_goals exact congrArg (Value.int .i64) (by omega)
    · ((repeat' (first | exact trivial | exact rfl | refine And.intro ?_ ?_)) <;> (try (conv => whnf)) <;> (try simp only [SV.real, SV.r2, SV.r1]))
end
section
open Go Sat Go.RowKit Go.PlainAid
set_option linter.unusedSimpArgs false
set_option linter.unusedVariables false
/-- the first digits of a number, so many -/
def dgs (k n : Nat) : List Nat := (List.range k).map fun i => n / bb ^ i % bb
theorem dgs_len (k n : Nat) : (dgs k n).length = k := by simp [dgs]
theorem dgs_lt (k n : Nat) : ∀ x ∈ dgs k n, x < bb := by
  intro x hx
  simp only [dgs, List.mem_map] at hx
  obtain ⟨i, _, rfl⟩ := hx
  exact Nat.mod_lt _ (by decide)
theorem nv_dgs (k n : Nat) : nv bb (dgs k n) = n % bb ^ k := by
  induction k with
  | zero => simp [dgs, nv, Nat.mod_one]
  | succ k ih =>
    rw [mod_split, ← ih]
    unfold dgs
    rw [List.range_succ, List.map_append, nv_app]
    simp [nv]
theorem dgs_eq {k n : Nat} {l : List Nat} (hl : l.length = k) (h : ∀ x ∈ l, x < bb) (hv : nv bb l = n) : l = dgs k n := by
  refine nv_inj (B := bb) (by rw [dgs_len, hl]) h (dgs_lt k n) ?_
  rw [nv_dgs, ← hv, ← hl, Nat.mod_eq_of_lt (nv_lt h)]
/-- a block that holds limbs somewhere -/
def bl (pre : List Value) (l : List Nat) (post : List Value) : List SV := (pre ++ us l ++ post).map SV.v
theorem bl_r1 (pre : List Value) (l : List Nat) (post : List Value) : (bl pre l post).map SV.r1 = pre ++ us l ++ post := by
  unfold bl
  rw [List.map_map]
  exact getElem?_map_v _
theorem b_at {pre : List Value} {l : List Nat} {post : List Value} {i : Int} {off k a : Nat} (h : l[k]? = some a) (ho : off = pre.length) (hi : i = k) : (bl pre l post)[off + mulS i.toNat 1]? = some (.v (.int .u32 a)) ∧ (SV.v (.int .u32 a)).scal = true := by
  refine ⟨?_, rfl⟩
  have hk := (List.getElem?_eq_some_iff.1 h).1
  rw [mulS_eq, hi, ho, Int.toNat_natCast, Nat.mul_one]
  unfold bl
  rw [List.getElem?_map, List.append_assoc, List.getElem?_append_right (by omega), Nat.add_sub_cancel_left, List.getElem?_append_left (by rw [us_len]; exact hk), us_get h]
  rfl
theorem b_lt {pre : List Value} {l : List Nat} {post : List Value} {i : Int} {off k : Nat} (h : k < l.length) (ho : off = pre.length) (hi : i = k) : off + mulS i.toNat 1 < (bl pre l post).length := by
  rw [mulS_eq, hi, ho, Int.toNat_natCast, Nat.mul_one]
  unfold bl
  simp only [List.length_map, List.length_append, us_len]
  omega
theorem b_set {pre : List Value} {l : List Nat} {post : List Value} {i e : Int} {off k a : Nat} (h : k < l.length) (ho : off = pre.length) (hi : i = k) (he : e = a) : (bl pre l post).set (off + mulS i.toNat 1) (.v (.int .u32 e)) = bl pre (l.set k a) post := by
  rw [mulS_eq, hi, ho, he, Int.toNat_natCast, Nat.mul_one]
  unfold bl
  rw [← List.map_set, List.append_assoc, List.set_append_right _ _ (by omega), Nat.add_sub_cancel_left, List.set_append_left _ _ (by rw [us_len]; exact h), us_set, List.append_assoc]
/-- a block that is lent to be turned, and a slice that is read -/
theorem holds_set2 {cx : Cx} {d g ty id n size : Nat} {cs : List SV} {A : Option (Nat × Nat)} {xs : List Value} (hn : cx.n0 = cx.W.heap.size) (hM : cx.M = [g]) (h : cx.W.heap[g]? = some (.cells (cs.map SV.r1).toArray ty (0, 0))) (hr : Ro cx.W A n size xs) (hne : ∀ p, A = some p → p.1 ≠ g) :
    Holds cx [(d, .blk g ty cs), (id, .ro A n size xs)] cx.W := by
  refine ⟨Keep.refl _ _ _, by omega, fun e he => ?_, fun i b j b' hi hj hne' g' hg hg' => ?_⟩
  · simp only [List.mem_cons, List.not_mem_nil, or_false] at he
    rcases he with rfl | rfl
    · exact ⟨.inr (by rw [hM]; simp), h⟩
    · refine ⟨hr.1, fun h0 => ?_⟩
      obtain ⟨p, hp, hl, hc⟩ := hr.2 h0
      exact ⟨p, hp, by rw [hn]; exact hl, by rw [hM]; simp; exact hne p hp, hc⟩
  · simp only [List.mem_cons, List.not_mem_nil, or_false, Prod.mk.injEq] at hi hj
    rcases hi with ⟨rfl, rfl⟩ | ⟨rfl, rfl⟩ <;> rcases hj with ⟨rfl, rfl⟩ | ⟨rfl, rfl⟩
    · exact hne' rfl
    · simp [HB.gs] at hg'
    · simp [HB.gs] at hg
    · exact hne' rfl
set_option maxRecDepth 100000 in
set_option maxHeartbeats 8000000 in
theorem small_any (l : List Nat) (pre post : List Value) (g ty cap by' : Nat) (w : World) (hg : w.heap[g]? = some (.cells (pre ++ us l ++ post).toArray ty (0, 0))) (hl : l.length ≤ 1000000) (hb : ∀ x ∈ l, x < bb) (h0 : 0 < by') (h1 : by' < bb) :
    Calls Tryz.prog 87 #[.slice (some ⟨g, pre.length, none⟩) l.length cap, .int .u32 by'] w fun e w' => e = .returned (.int .u32 ((nv bb l % by' : Nat) : Int)) ∧ w'.heap[g]? = some (.cells (pre ++ us (dgs l.length (nv bb l / by')) ++ post).toArray ty (0, 0)) ∧ Mod g w w' := by
  have hbb : bb = 4294967296 := rfl
  obtain ⟨n, hn⟩ : ∃ n, n = l.length := ⟨_, rfl⟩
  obtain ⟨off, ho⟩ : ∃ n, n = pre.length := ⟨_, rfl⟩
  rw [← ho, ← hn]
  refine calls_sat (cx := Tryz.cxg 31 [6] [] [] w.heap.size [g] w) (Tryz.ok ..) Tryz.func87 rfl [.s 100 g 0 off n cap, .v (.int .u32 by')] rfl (by show 2 ≤ 31; omega) [(100, .blk g ty (bl pre l post))] (holds_set rfl rfl (by rw [bl_r1]; exact hg)) ?_
  repeat' ((conv => whnf); first | refine walk (Tryz.ok ..) ?_ | fail)
  intro g2 hg2
  skip
  intro g3 hg3
  repeat' ((conv => whnf); first | refine walk (Tryz.ok ..) ?_ | fail)
  intro g5 hg5
  repeat' ((conv => whnf); first | refine walk (Tryz.ok ..) ?_ | refine side2 ?_ | refine xi _ (And.intro rfl rfl) ?_ | fail)
  refine called_in (Tryz.ok ..) Tryz.func98 rfl (by show 1 ≤ 4; omega) ?_
  repeat' ((conv => whnf); first | refine walk (Tryz.ok ..) ?_ | fail)
  intro gb hgb
  repeat' ((conv => whnf); first | refine walk (Tryz.ok ..) ?_ | fail)
  refine done_in ?_
  repeat' ((conv => whnf); first | refine walk (Tryz.ok ..) ?_ | fail)
  intro D L hD hL
  repeat' ((conv => whnf); first | refine side2 ?_ | fail)
  all_goals (try (conv => whnf))
  generalize hB : HB.lp _ _ _ _ _ _ _ _ _ = B
  refine called_in (Tryz.ok ..) Tryz.func109 rfl (by show 2 ≤ 19; omega) ?_
  repeat' ((conv => whnf); first | refine walk (Tryz.ok ..) ?_ | refine side2 ?_ | refine sideL2 ?_ | refine xi _ (And.intro rfl rfl) ?_ | fail)
  all_goals (try (conv => whnf))
  refine sat_loop (COk.with_ (Tryz.ok ..) _ _) (α := Nat × List Nat × Nat) (fun s => ([(0, .yes, .v (.func (.yield L) #[] #[])), (1, .yes, .p 1 gb 0 0), (3, .yes, .v (.int .i64 ((s.1 : Int) - 1)))], [(1000000, .dfr D), (1000001, B), (1, .blk gb 72 [.s 100 g 0 off n cap]), (100, .blk g ty (bl pre s.2.1 post)), (2, .blk g2 72 [.s 100 g 0 off n cap]), (3, .blk g3 25 [.v (.int .u32 by')]), (5, .blk g5 87 [.v (.int .u64 s.2.2)])]))
    (fun s => s.1 ≤ n ∧ s.2.1.length = n ∧ (∀ z ∈ s.2.1, z < bb) ∧ s.2.1.take s.1 = l.take s.1 ∧ s.2.2 < by' ∧ by' * nv bb (s.2.1.drop s.1) + s.2.2 = nv bb (l.drop s.1)) (fun s => s.1) (fun _ => rfl) ?_ ?_
  · refine ⟨(n, l, 0), ⟨Nat.le_refl _, hn.symm, hb, rfl, h0, ?_⟩, ?_, ?_, rfl⟩
    · dsimp only
      rw [List.drop_of_length_le (by omega)]; rfl
    all_goals ((repeat' (first | exact trivial | exact rfl | refine And.intro ?_ ?_)) <;> (try (conv => whnf)) <;> (try simp only [SV.real, SV.r2, SV.r1]))
    all_goals (subst hB)
    all_goals ((repeat' (first | exact trivial | exact rfl | refine And.intro ?_ ?_)) <;> (try (conv => whnf)) <;> (try simp only [SV.real, SV.r2, SV.r1]))
  rintro ⟨k, o, r⟩ ⟨hk, hol, hob, hot, hr, hinv⟩
  dsimp only at hk hol hob hot hr hinv
  by_cases hk0 : k = 0
  · subst hk0
    subst hB
    rw [List.drop_zero, List.drop_zero] at hinv
    have e1 : nv bb l / by' = nv bb o := by
      rw [← hinv, Nat.mul_add_div h0, Nat.div_eq_of_lt hr, Nat.add_zero]
    have e2 : nv bb l % by' = r := by
      rw [← hinv, Nat.mul_add_mod, Nat.mod_eq_of_lt hr]
    have e3 : o = dgs n (nv bb l / by') := dgs_eq hol hob e1.symm
    rw [hbb] at h1
    repeat' ((conv => whnf); first | refine walk (Tryz.ok ..) ?_ | (refine Cnd.mk (fun h => ?_) (fun h => ?_) <;> (first | exact cndT h (by (try dsimp only); omega) | exact cndF h (by (try dsimp only); omega) | (exfalso; simp at h; omega) | simp at h | skip)) | fail)
    refine done_in ?_
    repeat' ((conv => whnf); first | refine walk (Tryz.ok ..) ?_ | refine side2 ?_ | refine sideL2 ?_ | refine xi _ (And.intro rfl rfl) ?_ | fail)
    rw [e2, ← e3, ← bl_r1]
    exact done_set (g := g) (ty := ty) (cs := bl pre o post) (cs' := bl pre o post) rfl rfl 100 rfl rfl rfl
  obtain ⟨j, rfl⟩ : ∃ j, k = j + 1 := ⟨k - 1, by omega⟩
  obtain ⟨x, hx⟩ := us_at (l := l) (k := j) (by omega)
  have hox : o[j]? = some x := by
    have h2 : (o.take (j + 1))[j]? = (l.take (j + 1))[j]? := by rw [hot]
    rw [List.getElem?_take_of_lt (by omega), List.getElem?_take_of_lt (by omega), hx] at h2
    exact h2
  have hxb := hb x (List.mem_of_getElem? hx)
  have hst := small_step (B := bb) (x := x) hinv
  have hsl := small_lt hr hxb
  have hdl : nv bb (l.drop j) = x + bb * nv bb (l.drop (j + 1)) := by
    have h2 := (List.getElem?_eq_some_iff.1 hx)
    rw [List.drop_eq_getElem_cons h2.1, nv, h2.2]
  rw [← hdl] at hst
  obtain ⟨cur, ecur⟩ : ∃ c, c = r * bb + x := ⟨_, rfl⟩
  rw [← ecur] at hst hsl
  rw [hbb] at hxb h1 ecur
  have hcr : cur % by' < by' := Nat.mod_lt _ h0
  have hor : bits .or .u64 (IntKind.u64.wrap ((r : Int) * 2 ^ Int.toNat 32)) (x : Int) = (cur : Int) := by
    rw [IntKind.wrap_u64, pow32, Int.emod_eq_of_lt (by omega) (by omega), or_u64 (by omega) (by omega), ecur]
    omega
  have hlo : off + mulS ((((j + 1 : Nat) : Int) - 1)).toNat 1 < (bl pre o post).length := b_lt (k := j) (by omega) ho (by omega)
  repeat' ((conv => whnf); first | refine walk (Tryz.ok ..) ?_ | (refine Cnd.mk (fun h => ?_) (fun h => ?_) <;> (first | exact cndT h (by (try dsimp only); omega) | exact cndF h (by (try dsimp only); omega) | (exfalso; simp at h; omega) | simp at h | skip)) | refine side2 ?_ | refine xi _ (And.intro rfl rfl) ?_ | refine xi _ (b_at hox ho (by omega)) ?_ | fail)
  subst hB
  refine Sat.yielded (COk.with_ (Tryz.ok ..) _ _) (id := 1000001) rfl rfl rfl rfl ?_
  repeat' ((conv => whnf); first | refine walk (COk.with_ (Tryz.ok ..) _ _) ?_ | refine side2 ?_ | refine sideL2 ?_ | refine Or.inr ?_ | refine xi _ (And.intro rfl rfl) ?_ | fail)
  generalize hB2 : HB.lp _ _ _ _ _ _ _ LoopState.busy _ = B2
  refine sat_draw (COk.with_ (COk.with_ (Tryz.ok ..) _ _) _ _) [] [(2, .blk g2 72 [.s 100 g 0 off n cap]), (3, .blk g3 25 [.v (.int .u32 by')]), (5, .blk g5 87 [.v (.int .u64 (bits .or .u64 (IntKind.u64.wrap ((r : Int) * 2 ^ Int.toNat 32)) (x : Int)))])] (by kernel_rfl) (fun w hw => hw.sub ?_) ?_
  · ((repeat' (first | exact trivial | exact rfl | refine And.intro ?_ ?_)) <;> (try (conv => whnf)) <;> (try simp only [SV.real, SV.r2, SV.r1]))
  repeat' ((conv => whnf); first | refine walk (COk.with_ (Tryz.ok ..) _ _) ?_ | refine kp ?_ ?_ | exact trivial | refine side2 ?_ | refine sideL2 ?_ | refine Or.inr ?_ | refine xi _ (And.intro rfl rfl) ?_ | fail)
  subst hB2
  repeat' ((conv => whnf); first | refine walk (Tryz.ok ..) ?_ | (refine Cnd.mk (fun h => ?_) (fun h => ?_) <;> (first | exact cndT h (by (try dsimp only); omega) | exact cndF h (by (try dsimp only); omega) | (exfalso; simp at h; omega) | simp at h | skip)) | refine side2 ?_ | refine sideL2 ?_ | fail)
  refine ⟨(j, o.set j (cur / by'), cur % by'), ⟨⟨by omega, by rw [List.length_set]; exact hol, all_set hob hsl, ?_, hcr, ?_⟩, by dsimp only; omega⟩, ?_, ?_, rfl⟩
  · dsimp only
    rw [List.take_set_of_le (Nat.le_refl _)]
    have h2 := congrArg (List.take j) hot
    rw [List.take_take, List.take_take, Nat.min_eq_left (by omega)] at h2
    exact h2
  · dsimp only
    rw [drop_set (by omega), nv]
    exact hst
  · dsimp only
    ((repeat' (first | exact trivial | exact rfl | refine And.intro ?_ ?_)) <;> (try (conv => whnf)) <;> (try simp only [SV.real, SV.r2, SV.r1]))
    all_goals exact congrArg (Value.int .i64) (by omega)
  · dsimp only
    rw [← b_set (off := off) (i := ((j + 1 : Nat) : Int) - 1) (e := IntKind.u32.wrap (bits .or .u64 (IntKind.u64.wrap ((r : Int) * 2 ^ Int.toNat 32)) (x : Int) / (by' : Int))) (by omega) ho (by omega) (by
      rw [hor, wrap_u32, show ((cur : Int) / (by' : Int)) = ((cur / by' : Nat) : Int) from rfl]
      have h3 : cur / by' < 4294967296 := hsl
      generalize cur / by' = q at h3 ⊢
      omega)]
    rw [show ((cur % by' : Nat) : Int) = bits .or .u64 (IntKind.u64.wrap ((r : Int) * 2 ^ Int.toNat 32)) (x : Int) % (by' : Int) by rw [hor]; rfl]
    ((repeat' (first | exact trivial | exact rfl | refine And.intro ?_ ?_)) <;> (try (conv => whnf)) <;> (try simp only [SV.real, SV.r2, SV.r1]))
end
section
open Go Sat Go.RowKit Go.PlainAid
set_option linter.unusedSimpArgs false
set_option linter.unusedVariables false
def Cz (vl i c : Nat) : Prop := vl < i → c = 0
set_option maxRecDepth 100000 in
set_option maxHeartbeats 8000000 in
theorem take_any (l : List Nat) (pre post : List Value) (g ty cap V m : Nat) (A : Option (Nat × Nat)) (capA : Nat) (w : World) (hg : w.heap[g]? = some (.cells (pre ++ us l ++ post).toArray ty (0, 0))) (hA : Ro w A (dg bb V).length 1 (us (dg bb V))) (hne : ∀ p, A = some p → p.1 ≠ g)
    (hl : l.length ≤ 1000000) (hb : ∀ x ∈ l, x < bb) (hm : m < bb) (hV : (dg bb V).length < l.length) :
    Calls Tryz.prog 90 #[.slice (some ⟨g, pre.length, none⟩) l.length cap, .slice (adr A) (dg bb V).length capA, .int .u64 m] w fun e w' => e = .returned (.bool (decide (nv bb l < m * V))) ∧ w'.heap[g]? = some (.cells (pre ++ us (dgs l.length (nv bb l + bb ^ l.length - m * V)) ++ post).toArray ty (0, 0)) ∧ Mod g w w' := by
  have hbb : bb = 4294967296 := rfl
  obtain ⟨n, hn⟩ : ∃ n, n = l.length := ⟨_, rfl⟩
  obtain ⟨off, ho⟩ : ∃ n, n = pre.length := ⟨_, rfl⟩
  obtain ⟨vl, hvl⟩ : ∃ n, n = (dg bb V).length := ⟨_, rfl⟩
  rw [← hvl] at hA hV
  rw [← ho, ← hn, ← hvl]
  refine calls_sat (cx := Tryz.cxg 52 [] [] [] w.heap.size [g] w) (Tryz.ok ..) Tryz.func90 rfl [.s 100 g 0 off n cap, .o 101 A vl capA, .v (.int .u64 m)] rfl (by show 3 ≤ 52; omega) [(100, .blk g ty (bl pre l post)), (101, .ro A vl 1 (us (dg bb V)))] (holds_set2 rfl rfl (by rw [bl_r1]; exact hg) hA hne) ?_
  repeat' ((conv => whnf); first | refine walk (Tryz.ok ..) ?_ | fail)
  refine sat_loop (Tryz.ok ..) (α := Nat × List Nat × Nat × Nat) (fun s => ([(0, .yes, .s 100 g 0 off n cap), (1, .yes, .o 101 A vl capA), (2, .yes, .v (.int .u64 m)), (7, .yes, .v (.int .u64 s.2.2.1)), (8, .yes, .v (.int .u64 s.2.2.2)), (11, .yes, .s 100 g 0 off n cap), (12, .yes, .v (.int .i64 n)), (13, .yes, .v (.int .i64 s.1))], [(100, .blk g ty (bl pre s.2.1 post)), (101, .ro A vl 1 (us (dg bb V)))]))
    (fun s => s.1 ≤ n ∧ s.2.1.length = n ∧ (∀ z ∈ s.2.1, z < bb) ∧ (∀ q, s.1 ≤ q → q < n → s.2.1[q]? = l[q]?) ∧ s.2.2.1 < bb ∧ s.2.2.2 ≤ 1 ∧ Cz vl s.1 s.2.2.1 ∧ nv bb s.2.1 + m * (V % bb ^ s.1) = nv bb l + bb ^ s.1 * (s.2.2.1 + s.2.2.2)) (fun s => n - s.1) (fun _ => rfl) ?_ ?_
  · refine ⟨(0, l, 0, 0), ⟨Nat.zero_le _, hn.symm, hb, fun _ _ _ => rfl, (show 0 < bb by decide), Nat.zero_le _, fun _ => rfl, ?_⟩, ?_, ?_, rfl⟩
    · simp [Nat.mod_one]
    · ((repeat' (first | exact trivial | exact rfl | refine And.intro ?_ ?_)) <;> (try (conv => whnf)) <;> (try simp only [SV.real, SV.r2, SV.r1]))
    · ((repeat' (first | exact trivial | exact rfl | refine And.intro ?_ ?_)) <;> (try (conv => whnf)) <;> (try simp only [SV.real, SV.r2, SV.r1]))
  rintro ⟨i, o, c, w0⟩ ⟨hi, hol, hob, hoz, hc, hw0, hcz, hinv⟩
  dsimp only at hi hol hob hoz hc hw0 hcz hinv
  by_cases hin : i < n
  · obtain ⟨xa, hxl⟩ := us_at (l := l) (k := i) (by omega)
    have hxb := hb xa (List.mem_of_getElem? hxl)
    have hxo := hoz i (Nat.le_refl _) hin
    rw [hxl] at hxo
    have hyb : V / bb ^ i % bb < bb := Nat.mod_lt _ (by decide)
    by_cases hiv : i < vl
    · have hya := dg_get (B := bb) (by decide) i V (by omega)
      obtain ⟨ya, eya⟩ : ∃ v, v = V / bb ^ i % bb := ⟨_, rfl⟩
      rw [← eya] at hya hyb
      have hml := mul_lim hm hyb
      obtain ⟨q, hq⟩ : ∃ q, q = m * ya := ⟨_, rfl⟩
      have hqi : (m : Int) * (ya : Int) = (q : Int) := by rw [hq]; exact (Int.natCast_mul ..).symm
      rw [← hq] at hml
      obtain ⟨c2, ec2⟩ : ∃ c2, c2 = c + q := ⟨_, rfl⟩
      have hc2b : c2 ≤ 18446744069414584320 := by rw [hbb] at hc; omega
      obtain ⟨d, w2, hd1, hd2, hd⟩ := sub_ex (b := c2 % bb) hxb (Nat.mod_lt _ (by decide)) hw0
      have hceq : c + m * ya = c2 := by rw [ec2, hq]
      have hcei : (c : Int) + (m : Int) * (ya : Int) = (c2 : Int) := by rw [hqi, ec2]; omega
      rw [hbb] at hc hm
      have hs2 := nv_set (B := bb) (x := d) hxo
      have hst := take_step (B := bb) hinv hs2 (by rw [← eya, hceq]; exact hd)
      rw [← eya, hceq] at hst
      have hlo : off + mulS ((i : Int)).toNat 1 < (bl pre o post).length := b_lt (k := i) (by omega) ho rfl
      rw [hbb] at hd hd1 hxb hyb
      have hc2 : c2 / bb < bb := by rw [hbb]; omega
      have hc3 : c2 / bb = c2 / 4294967296 := rfl
      have hw32 : IntKind.u32.wrap ((c : Int) + (m : Int) * (ya : Int)) = ((c2 % 4294967296 : Nat) : Int) := by rw [wrap_u32, hcei]; omega
      have hset : (bl pre o post).set (off + mulS ((i : Int)).toNat 1) (.v (.int .u32 (IntKind.u32.wrap (IntKind.u64.wrap (IntKind.u64.wrap ((xa : Int) - IntKind.u32.wrap ((c : Int) + (m : Int) * (ya : Int))) - w0))))) = bl pre (o.set i d) post := b_set (by omega) ho rfl (by rw [wrap_u32, hw32]; simp only [IntKind.wrap_u64]; omega)
      repeat' ((conv => whnf); first | refine walk (Tryz.ok ..) ?_ | (refine Cnd.mk (fun h => ?_) (fun h => ?_) <;> (first | exact cndT h (by (try dsimp only); omega) | exact cndF h (by (try dsimp only); omega) | (exfalso; simp at h; omega) | simp at h | skip)) | refine side2 ?_ | refine sideL2 ?_ | refine Or.inr ?_ | refine xi _ (u_at hya rfl) ?_ | refine xi _ (b_at hxo ho rfl) ?_ | fail)
      refine ⟨(i + 1, o.set i d, c2 / bb, w2), ⟨⟨by omega, by rw [List.length_set]; exact hol, all_set hob hd1, fun q h1 h2 => ?_, hc2, hd2, (fun h => absurd h (by omega)), hst⟩, by dsimp only; omega⟩, ?_, ?_, rfl⟩
      · rw [List.getElem?_set_ne (by omega)]
        exact hoz q (by omega) h2
      · dsimp only
        rw [show ((c2 / bb : Nat) : Int) = ((c : Int) + (m : Int) * (ya : Int)) / 2 ^ Int.toNat 32 by rw [hcei, pow32, hc3]; omega, show (w2 : Int) = IntKind.u64.wrap (IntKind.u64.wrap ((xa : Int) - IntKind.u32.wrap ((c : Int) + (m : Int) * (ya : Int))) - w0) / 2 ^ Int.toNat 63 by rw [pow63, hw32]; simp only [IntKind.wrap_u64]; omega]
        ((repeat' (first | exact trivial | exact rfl | refine And.intro ?_ ?_)) <;> (try (conv => whnf)) <;> (try simp only [SV.real, SV.r2, SV.r1]))
      · dsimp only
        rw [← hset]
        ((repeat' (first | exact trivial | exact rfl | refine And.intro ?_ ?_)) <;> (try (conv => whnf)) <;> (try simp only [SV.real, SV.r2, SV.r1]))
    · have hya := dg_past (B := bb) (by decide) (k := i) (n := V) (by omega)
      obtain ⟨ya, eya⟩ : ∃ v, v = V / bb ^ i % bb := ⟨_, rfl⟩
      rw [← eya] at hya hyb
      obtain ⟨c2, ec2⟩ : ∃ c2, c2 = c := ⟨_, rfl⟩
      have hc2b : c2 ≤ 18446744069414584320 := by rw [hbb] at hc; omega
      obtain ⟨d, w2, hd1, hd2, hd⟩ := sub_ex (b := c2 % bb) hxb (Nat.mod_lt _ (by decide)) hw0
      have hceq : c + m * ya = c2 := by rw [ec2, hya, Nat.mul_zero, Nat.add_zero]
      have hcei : (c : Int) = (c2 : Int) := by rw [ec2]
      rw [hbb] at hc hm
      have hs2 := nv_set (B := bb) (x := d) hxo
      have hst := take_step (B := bb) hinv hs2 (by rw [← eya, hceq]; exact hd)
      rw [← eya, hceq] at hst
      have hlo : off + mulS ((i : Int)).toNat 1 < (bl pre o post).length := b_lt (k := i) (by omega) ho rfl
      rw [hbb] at hd hd1 hxb hyb
      have hc2 : c2 / bb < bb := by rw [hbb]; omega
      have hc3 : c2 / bb = c2 / 4294967296 := rfl
      have hw32 : (c : Int) = ((c2 % 4294967296 : Nat) : Int) := by omega
      have hset : (bl pre o post).set (off + mulS ((i : Int)).toNat 1) (.v (.int .u32 (IntKind.u32.wrap (IntKind.u64.wrap (IntKind.u64.wrap ((xa : Int) - (c : Int)) - w0))))) = bl pre (o.set i d) post := b_set (by omega) ho rfl (by rw [wrap_u32, hw32]; simp only [IntKind.wrap_u64]; omega)
      repeat' ((conv => whnf); first | refine walk (Tryz.ok ..) ?_ | (refine Cnd.mk (fun h => ?_) (fun h => ?_) <;> (first | exact cndT h (by (try dsimp only); omega) | exact cndF h (by (try dsimp only); omega) | (exfalso; simp at h; omega) | simp at h | skip)) | refine side2 ?_ | refine sideL2 ?_ | refine Or.inr ?_ | refine xi _ (b_at hxo ho rfl) ?_ | fail)
      refine ⟨(i + 1, o.set i d, c2 / bb, w2), ⟨⟨by omega, by rw [List.length_set]; exact hol, all_set hob hd1, fun q h1 h2 => ?_, hc2, hd2, (fun _ => by dsimp only; rw [hbb]; omega), hst⟩, by dsimp only; omega⟩, ?_, ?_, rfl⟩
      · rw [List.getElem?_set_ne (by omega)]
        exact hoz q (by omega) h2
      · dsimp only
        rw [show ((c2 / bb : Nat) : Int) = ((c : Int)) / 2 ^ Int.toNat 32 by rw [hcei, pow32, hc3]; omega, show (w2 : Int) = IntKind.u64.wrap (IntKind.u64.wrap ((xa : Int) - (c : Int)) - w0) / 2 ^ Int.toNat 63 by rw [pow63, hw32]; simp only [IntKind.wrap_u64]; omega]
        ((repeat' (first | exact trivial | exact rfl | refine And.intro ?_ ?_)) <;> (try (conv => whnf)) <;> (try simp only [SV.real, SV.r2, SV.r1]))
      · dsimp only
        rw [← hset]
        ((repeat' (first | exact trivial | exact rfl | refine And.intro ?_ ?_)) <;> (try (conv => whnf)) <;> (try simp only [SV.real, SV.r2, SV.r1]))
  · obtain rfl : i = n := by omega
    have hc0 := hcz (by omega)
    subst hc0
    have hV1 : V % bb ^ i = V := Nat.mod_eq_of_lt ((dg_len (by decide) i V).1 (by omega))
    rw [hV1, Nat.zero_add] at hinv
    have hlt := nv_lt hob
    rw [hol] at hlt
    have hl2 := nv_lt hb
    rw [← hn] at hl2
    have hw : decide ((0 : Int) < (w0 : Int)) = decide (nv bb l < m * V) := by
      rcases Nat.lt_or_ge w0 1 with h | h
      · obtain rfl : w0 = 0 := by omega
        rw [decide_eq_false (by omega), decide_eq_false (by omega)]
      · obtain rfl : w0 = 1 := by omega
        rw [decide_eq_true (by omega), decide_eq_true (by omega)]
    have hval : (nv bb l + bb ^ i - m * V) % bb ^ i = nv bb o := by
      rcases Nat.lt_or_ge w0 1 with h | h
      · obtain rfl : w0 = 0 := by omega
        rw [show nv bb l + bb ^ i - m * V = nv bb o + bb ^ i by omega, Nat.add_mod_right, Nat.mod_eq_of_lt hlt]
      · obtain rfl : w0 = 1 := by omega
        rw [show nv bb l + bb ^ i - m * V = nv bb o by omega, Nat.mod_eq_of_lt hlt]
    have ho2 : o = dgs i (nv bb l + bb ^ i - m * V) := nv_inj (B := bb) (by rw [dgs_len, hol]) hob (dgs_lt _ _) (by rw [nv_dgs, hval])
    repeat' ((conv => whnf); first | refine walk (Tryz.ok ..) ?_ | (refine Cnd.mk (fun h => ?_) (fun h => ?_) <;> (first | exact cndT h (by (try dsimp only); omega) | exact cndF h (by (try dsimp only); omega) | (exfalso; simp at h; omega) | simp at h | skip)) | fail)
    rw [← ho2, ← hw, ← bl_r1]
    exact done_set (g := g) (ty := ty) (cs := bl pre o post) (cs' := bl pre o post) rfl rfl 100 rfl rfl rfl
set_option maxRecDepth 100000 in
set_option maxHeartbeats 8000000 in
theorem give_any (l : List Nat) (pre post : List Value) (g ty cap V : Nat) (A : Option (Nat × Nat)) (capA : Nat) (w : World) (hg : w.heap[g]? = some (.cells (pre ++ us l ++ post).toArray ty (0, 0))) (hA : Ro w A (dg bb V).length 1 (us (dg bb V))) (hne : ∀ p, A = some p → p.1 ≠ g)
    (hl : l.length ≤ 1000000) (hb : ∀ x ∈ l, x < bb) (hV : (dg bb V).length < l.length) :
    Calls Tryz.prog 91 #[.slice (some ⟨g, pre.length, none⟩) l.length cap, .slice (adr A) (dg bb V).length capA] w fun e w' => e = .returned (.bool (decide (bb ^ l.length ≤ nv bb l + V))) ∧ w'.heap[g]? = some (.cells (pre ++ us (dgs l.length (nv bb l + V)) ++ post).toArray ty (0, 0)) ∧ Mod g w w' := by
  have hbb : bb = 4294967296 := rfl
  obtain ⟨n, hn⟩ : ∃ n, n = l.length := ⟨_, rfl⟩
  obtain ⟨off, ho⟩ : ∃ n, n = pre.length := ⟨_, rfl⟩
  obtain ⟨vl, hvl⟩ : ∃ n, n = (dg bb V).length := ⟨_, rfl⟩
  rw [← hvl] at hA hV
  rw [← ho, ← hn, ← hvl]
  refine calls_sat (cx := Tryz.cxg 40 [] [] [] w.heap.size [g] w) (Tryz.ok ..) Tryz.func91 rfl [.s 100 g 0 off n cap, .o 101 A vl capA] rfl (by show 2 ≤ 40; omega) [(100, .blk g ty (bl pre l post)), (101, .ro A vl 1 (us (dg bb V)))] (holds_set2 rfl rfl (by rw [bl_r1]; exact hg) hA hne) ?_
  repeat' ((conv => whnf); first | refine walk (Tryz.ok ..) ?_ | fail)
  refine sat_loop (Tryz.ok ..) (α := Nat × List Nat × Nat) (fun s => ([(0, .yes, .s 100 g 0 off n cap), (1, .yes, .o 101 A vl capA), (5, .yes, .v (.int .u64 s.2.2)), (7, .yes, .s 100 g 0 off n cap), (8, .yes, .v (.int .i64 n)), (9, .yes, .v (.int .i64 s.1))], [(100, .blk g ty (bl pre s.2.1 post)), (101, .ro A vl 1 (us (dg bb V)))]))
    (fun s => s.1 ≤ n ∧ s.2.1.length = n ∧ (∀ z ∈ s.2.1, z < bb) ∧ (∀ q, s.1 ≤ q → q < n → s.2.1[q]? = l[q]?) ∧ s.2.2 ≤ 1 ∧ nv bb s.2.1 + bb ^ s.1 * s.2.2 = nv bb l + V % bb ^ s.1) (fun s => n - s.1) (fun _ => rfl) ?_ ?_
  · refine ⟨(0, l, 0), ⟨Nat.zero_le _, hn.symm, hb, fun _ _ _ => rfl, Nat.zero_le _, ?_⟩, ?_, ?_, rfl⟩
    · simp [Nat.mod_one]
    · ((repeat' (first | exact trivial | exact rfl | refine And.intro ?_ ?_)) <;> (try (conv => whnf)) <;> (try simp only [SV.real, SV.r2, SV.r1]))
    · ((repeat' (first | exact trivial | exact rfl | refine And.intro ?_ ?_)) <;> (try (conv => whnf)) <;> (try simp only [SV.real, SV.r2, SV.r1]))
  rintro ⟨i, o, c⟩ ⟨hi, hol, hob, hoz, hc, hinv⟩
  dsimp only at hi hol hob hoz hc hinv
  by_cases hin : i < n
  · obtain ⟨xa, hxl⟩ := us_at (l := l) (k := i) (by omega)
    have hxb := hb xa (List.mem_of_getElem? hxl)
    have hxo := hoz i (Nat.le_refl _) hin
    rw [hxl] at hxo
    have hyb : V / bb ^ i % bb < bb := Nat.mod_lt _ (by decide)
    by_cases hiv : i < vl
    · have hya := dg_get (B := bb) (by decide) i V (by omega)
      obtain ⟨ya, eya⟩ : ∃ v, v = V / bb ^ i % bb := ⟨_, rfl⟩
      rw [← eya] at hya hyb
      obtain ⟨s, es⟩ : ∃ s, s = c + xa + ya := ⟨_, rfl⟩
      have hs2 := nv_set (B := bb) (x := s % bb) hxo
      have hst := give_step (B := bb) (x := xa) (v' := nv bb (o.set i (s % bb))) hinv (by rw [← eya, ← es]; exact hs2)
      rw [← eya, ← es] at hst
      have hlo : off + mulS ((i : Int)).toNat 1 < (bl pre o post).length := b_lt (k := i) (by omega) ho rfl
      rw [hbb] at hxb hyb
      have hc2 : s / bb ≤ 1 := by rw [hbb]; omega
      have hset : (bl pre o post).set (off + mulS ((i : Int)).toNat 1) (.v (.int .u32 (IntKind.u32.wrap ((c : Int) + (xa : Int) + (ya : Int))))) = bl pre (o.set i (s % bb)) post := b_set (by omega) ho rfl (by rw [wrap_u32, hbb]; omega)
      repeat' ((conv => whnf); first | refine walk (Tryz.ok ..) ?_ | (refine Cnd.mk (fun h => ?_) (fun h => ?_) <;> (first | exact cndT h (by (try dsimp only); omega) | exact cndF h (by (try dsimp only); omega) | (exfalso; simp at h; omega) | simp at h | skip)) | refine side2 ?_ | refine sideL2 ?_ | refine Or.inr ?_ | refine xi _ (b_at hxo ho rfl) ?_ | refine xi _ (u_at hya rfl) ?_ | fail)
      refine ⟨(i + 1, o.set i (s % bb), s / bb), ⟨⟨by omega, by rw [List.length_set]; exact hol, all_set hob (Nat.mod_lt _ (by decide)), fun q h1 h2 => ?_, hc2, hst⟩, by dsimp only; omega⟩, ?_, ?_, rfl⟩
      · rw [List.getElem?_set_ne (by omega)]
        exact hoz q (by omega) h2
      · dsimp only
        rw [show ((s / bb : Nat) : Int) = ((c : Int) + (xa : Int) + (ya : Int)) / 2 ^ Int.toNat 32 by rw [pow32, hbb]; omega]
        ((repeat' (first | exact trivial | exact rfl | refine And.intro ?_ ?_)) <;> (try (conv => whnf)) <;> (try simp only [SV.real, SV.r2, SV.r1]))
      · dsimp only
        rw [← hset]
        ((repeat' (first | exact trivial | exact rfl | refine And.intro ?_ ?_)) <;> (try (conv => whnf)) <;> (try simp only [SV.real, SV.r2, SV.r1]))
    · have hya := dg_past (B := bb) (by decide) (k := i) (n := V) (by omega)
      obtain ⟨ya, eya⟩ : ∃ v, v = V / bb ^ i % bb := ⟨_, rfl⟩
      rw [← eya] at hya hyb
      obtain ⟨s, es⟩ : ∃ s, s = c + xa := ⟨_, rfl⟩
      have es2 : c + xa + ya = s := by omega
      have hs2 := nv_set (B := bb) (x := s % bb) hxo
      have hst := give_step (B := bb) (x := xa) (v' := nv bb (o.set i (s % bb))) hinv (by rw [← eya, es2]; exact hs2)
      rw [← eya, es2] at hst
      have hlo : off + mulS ((i : Int)).toNat 1 < (bl pre o post).length := b_lt (k := i) (by omega) ho rfl
      rw [hbb] at hxb hyb
      have hc2 : s / bb ≤ 1 := by rw [hbb]; omega
      have hset : (bl pre o post).set (off + mulS ((i : Int)).toNat 1) (.v (.int .u32 (IntKind.u32.wrap ((c : Int) + (xa : Int))))) = bl pre (o.set i (s % bb)) post := b_set (by omega) ho rfl (by rw [wrap_u32, hbb]; omega)
      repeat' ((conv => whnf); first | refine walk (Tryz.ok ..) ?_ | (refine Cnd.mk (fun h => ?_) (fun h => ?_) <;> (first | exact cndT h (by (try dsimp only); omega) | exact cndF h (by (try dsimp only); omega) | (exfalso; simp at h; omega) | simp at h | skip)) | refine side2 ?_ | refine sideL2 ?_ | refine Or.inr ?_ | refine xi _ (b_at hxo ho rfl) ?_ | fail)
      refine ⟨(i + 1, o.set i (s % bb), s / bb), ⟨⟨by omega, by rw [List.length_set]; exact hol, all_set hob (Nat.mod_lt _ (by decide)), fun q h1 h2 => ?_, hc2, hst⟩, by dsimp only; omega⟩, ?_, ?_, rfl⟩
      · rw [List.getElem?_set_ne (by omega)]
        exact hoz q (by omega) h2
      · dsimp only
        rw [show ((s / bb : Nat) : Int) = ((c : Int) + (xa : Int)) / 2 ^ Int.toNat 32 by rw [pow32, hbb]; omega]
        ((repeat' (first | exact trivial | exact rfl | refine And.intro ?_ ?_)) <;> (try (conv => whnf)) <;> (try simp only [SV.real, SV.r2, SV.r1]))
      · dsimp only
        rw [← hset]
        ((repeat' (first | exact trivial | exact rfl | refine And.intro ?_ ?_)) <;> (try (conv => whnf)) <;> (try simp only [SV.real, SV.r2, SV.r1]))
  · obtain rfl : i = n := by omega
    have hV1 : V % bb ^ i = V := Nat.mod_eq_of_lt ((dg_len (by decide) i V).1 (by omega))
    rw [hV1] at hinv
    have hlt := nv_lt hob
    rw [hol] at hlt
    have hw : decide ((0 : Int) < (c : Int)) = decide (bb ^ i ≤ nv bb l + V) := by
      rcases Nat.lt_or_ge c 1 with h | h
      · obtain rfl : c = 0 := by omega
        rw [decide_eq_false (by omega), decide_eq_false (by omega)]
      · obtain rfl : c = 1 := by omega
        rw [decide_eq_true (by omega), decide_eq_true (by omega)]
    have ho2 : o = dgs i (nv bb l + V) := nv_inj (B := bb) (by rw [dgs_len, hol]) hob (dgs_lt _ _) (by rw [nv_dgs, ← hinv, Nat.add_mul_mod_self_left, Nat.mod_eq_of_lt hlt])
    repeat' ((conv => whnf); first | refine walk (Tryz.ok ..) ?_ | (refine Cnd.mk (fun h => ?_) (fun h => ?_) <;> (first | exact cndT h (by (try dsimp only); omega) | exact cndF h (by (try dsimp only); omega) | (exfalso; simp at h; omega) | simp at h | skip)) | fail)
    rw [← ho2, ← hw, ← bl_r1]
    exact done_set (g := g) (ty := ty) (cs := bl pre o post) (cs' := bl pre o post) rfl rfl 100 rfl rfl rfl
end
end Go.Proofs.YtmekcdjaafegaaaGreatDoor
