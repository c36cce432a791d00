/-
  The walks of the frac package: limbs are turned in place: a quotient by one limb, a multiple taken away, a number added.
-/
import Derived.Test.YtomhfakkebaciaaN4
namespace Go.Proofs.Ytomhfakkebaciaa
open Go Sat Go.RowKit Go.PlainAid
set_option linter.unusedSimpArgs false
set_option linter.unusedVariables false
/-- the first digits of a number, so many -/
def dgs (k n : Nat) : List Nat := (List.range k).map fun i => n / bb ^ i % bb
theorem dgs_len (k n : Nat) : (dgs k n).length = k := by simp [dgs]
theorem dgs_lt (k n : Nat) : ∀ x ∈ dgs k n, x < bb := by
  intro x hx
  simp only [dgs, List.mem_map] at hx
  obtain ⟨i, _, rfl⟩ := hx
  exact Nat.mod_lt _ (by decide)
theorem nv_dgs (k n : Nat) : nv bb (dgs k n) = n % bb ^ k := by
  induction k with
  | zero => simp [dgs, nv, Nat.mod_one]
  | succ k ih =>
    rw [mod_split, ← ih]
    unfold dgs
    rw [List.range_succ, List.map_append, nv_app]
    simp [nv]
theorem dgs_eq {k n : Nat} {l : List Nat} (hl : l.length = k) (h : ∀ x ∈ l, x < bb) (hv : nv bb l = n) : l = dgs k n := by
  refine nv_inj (B := bb) (by rw [dgs_len, hl]) h (dgs_lt k n) ?_
  rw [nv_dgs, ← hv, ← hl, Nat.mod_eq_of_lt (nv_lt h)]
/-- a block that holds limbs somewhere -/
def bl (pre : List Value) (l : List Nat) (post : List Value) : List SV := (pre ++ us l ++ post).map SV.v
theorem bl_r1 (pre : List Value) (l : List Nat) (post : List Value) : (bl pre l post).map SV.r1 = pre ++ us l ++ post := by
  unfold bl
  rw [List.map_map]
  exact getElem?_map_v _
theorem b_at {pre : List Value} {l : List Nat} {post : List Value} {i : Int} {off k a : Nat} (h : l[k]? = some a) (ho : off = pre.length) (hi : i = k) : (bl pre l post)[off + mulS i.toNat 1]? = some (.v (.int .u32 a)) ∧ (SV.v (.int .u32 a)).scal = true := by
  refine ⟨?_, rfl⟩
  have hk := (List.getElem?_eq_some_iff.1 h).1
  rw [mulS_eq, hi, ho, Int.toNat_natCast, Nat.mul_one]
  unfold bl
  rw [List.getElem?_map, List.append_assoc, List.getElem?_append_right (by omega), Nat.add_sub_cancel_left, List.getElem?_append_left (by rw [us_len]; exact hk), us_get h]
  rfl
theorem b_lt {pre : List Value} {l : List Nat} {post : List Value} {i : Int} {off k : Nat} (h : k < l.length) (ho : off = pre.length) (hi : i = k) : off + mulS i.toNat 1 < (bl pre l post).length := by
  rw [mulS_eq, hi, ho, Int.toNat_natCast, Nat.mul_one]
  unfold bl
  simp only [List.length_map, List.length_append, us_len]
  omega
theorem b_set {pre : List Value} {l : List Nat} {post : List Value} {i e : Int} {off k a : Nat} (h : k < l.length) (ho : off = pre.length) (hi : i = k) (he : e = a) : (bl pre l post).set (off + mulS i.toNat 1) (.v (.int .u32 e)) = bl pre (l.set k a) post := by
  rw [mulS_eq, hi, ho, he, Int.toNat_natCast, Nat.mul_one]
  unfold bl
  rw [← List.map_set, List.append_assoc, List.set_append_right _ _ (by omega), Nat.add_sub_cancel_left, List.set_append_left _ _ (by rw [us_len]; exact h), us_set, List.append_assoc]
/-- a block that is lent to be turned, and a slice that is read -/
theorem holds_set2 {cx : Cx} {d g ty id n size : Nat} {cs : List SV} {A : Option (Nat × Nat)} {xs : List Value} (hn : cx.n0 = cx.W.heap.size) (hM : cx.M = [g]) (h : cx.W.heap[g]? = some (.cells (cs.map SV.r1).toArray ty (0, 0))) (hr : Ro cx.W A n size xs) (hne : ∀ p, A = some p → p.1 ≠ g) :
    Holds cx [(d, .blk g ty cs), (id, .ro A n size xs)] cx.W := by
  refine ⟨Keep.refl _ _ _, by omega, fun e he => ?_, fun i b j b' hi hj hne' g' hg hg' => ?_⟩
  · simp only [List.mem_cons, List.not_mem_nil, or_false] at he
    rcases he with rfl | rfl
    · exact ⟨.inr (by rw [hM]; simp), h⟩
    · refine ⟨hr.1, fun h0 => ?_⟩
      obtain ⟨p, hp, hl, hc⟩ := hr.2 h0
      exact ⟨p, hp, by rw [hn]; exact hl, by rw [hM]; simp; exact hne p hp, hc⟩
  · simp only [List.mem_cons, List.not_mem_nil, or_false, Prod.mk.injEq] at hi hj
    rcases hi with ⟨rfl, rfl⟩ | ⟨rfl, rfl⟩ <;> rcases hj with ⟨rfl, rfl⟩ | ⟨rfl, rfl⟩
    · exact hne' rfl
    · simp [HB.gs] at hg'
    · simp [HB.gs] at hg
    · exact hne' rfl
set_option maxRecDepth 100000 in
set_option maxHeartbeats 8000000 in
theorem small_any (l : List Nat) (pre post : List Value) (g ty cap by' : Nat) (w : World) (hg : w.heap[g]? = some (.cells (pre ++ us l ++ post).toArray ty (0, 0))) (hl : l.length ≤ 1000000) (hb : ∀ x ∈ l, x < bb) (h0 : 0 < by') (h1 : by' < bb) :
    Calls Try.prog 74 #[.slice (some ⟨g, pre.length, none⟩) l.length cap, .int .u32 by'] w fun e w' => e = .returned (.int .u32 ((nv bb l % by' : Nat) : Int)) ∧ w'.heap[g]? = some (.cells (pre ++ us (dgs l.length (nv bb l / by')) ++ post).toArray ty (0, 0)) ∧ Mod g w w' := by
  have hbb : bb = 4294967296 := rfl
  obtain ⟨n, hn⟩ : ∃ n, n = l.length := ⟨_, rfl⟩
  obtain ⟨off, ho⟩ : ∃ n, n = pre.length := ⟨_, rfl⟩
  rw [← ho, ← hn]
  refine calls_sat (cx := Try.cxg 31 [6] [] [] w.heap.size [g] w) (Try.ok ..) Try.func74 rfl [.s 100 g 0 off n cap, .v (.int .u32 by')] rfl (by show 2 ≤ 31; omega) [(100, .blk g ty (bl pre l post))] (holds_set rfl rfl (by rw [bl_r1]; exact hg)) ?_
  repeat' ((conv => whnf); first | refine walk (Try.ok ..) ?_ | fail)
  intro g2 hg2
  skip
  intro g3 hg3
  repeat' ((conv => whnf); first | refine walk (Try.ok ..) ?_ | fail)
  intro g5 hg5
  repeat' ((conv => whnf); first | refine walk (Try.ok ..) ?_ | refine side2 ?_ | refine xi _ (And.intro rfl rfl) ?_ | fail)
  refine called_in (Try.ok ..) Try.func71 rfl (by show 1 ≤ 4; omega) ?_
  repeat' ((conv => whnf); first | refine walk (Try.ok ..) ?_ | fail)
  intro gb hgb
  repeat' ((conv => whnf); first | refine walk (Try.ok ..) ?_ | fail)
  refine done_in ?_
  repeat' ((conv => whnf); first | refine walk (Try.ok ..) ?_ | fail)
  intro D L hD hL
  repeat' ((conv => whnf); first | refine side2 ?_ | fail)
  all_goals (try (conv => whnf))
  generalize hB : HB.lp _ _ _ _ _ _ _ _ _ = B
  refine called_in (Try.ok ..) Try.func88 rfl (by show 2 ≤ 19; omega) ?_
  repeat' ((conv => whnf); first | refine walk (Try.ok ..) ?_ | refine side2 ?_ | refine sideL2 ?_ | refine xi _ (And.intro rfl rfl) ?_ | fail)
  all_goals (try (conv => whnf))
  refine sat_loop (COk.with_ (Try.ok ..) _ _) (α := Nat × List Nat × Nat) (fun s => ([(0, .yes, .v (.func (.yield L) #[] #[])), (1, .yes, .p 1 gb 0 0), (3, .yes, .v (.int .i64 ((s.1 : Int) - 1)))], [(1000000, .dfr D), (1000001, B), (1, .blk gb 75 [.s 100 g 0 off n cap]), (100, .blk g ty (bl pre s.2.1 post)), (2, .blk g2 75 [.s 100 g 0 off n cap]), (3, .blk g3 23 [.v (.int .u32 by')]), (5, .blk g5 78 [.v (.int .u64 s.2.2)])]))
    (fun s => s.1 ≤ n ∧ s.2.1.length = n ∧ (∀ z ∈ s.2.1, z < bb) ∧ s.2.1.take s.1 = l.take s.1 ∧ s.2.2 < by' ∧ by' * nv bb (s.2.1.drop s.1) + s.2.2 = nv bb (l.drop s.1)) (fun s => s.1) (fun _ => rfl) ?_ ?_
  · refine ⟨(n, l, 0), ⟨Nat.le_refl _, hn.symm, hb, rfl, h0, ?_⟩, ?_, ?_, rfl⟩
    · dsimp only
      rw [List.drop_of_length_le (by omega)]; rfl
    all_goals ((repeat' (first | exact trivial | exact rfl | refine And.intro ?_ ?_)) <;> (try (conv => whnf)) <;> (try simp only [SV.real, SV.r2, SV.r1]))
    all_goals (subst hB)
    all_goals ((repeat' (first | exact trivial | exact rfl | refine And.intro ?_ ?_)) <;> (try (conv => whnf)) <;> (try simp only [SV.real, SV.r2, SV.r1]))
  rintro ⟨k, o, r⟩ ⟨hk, hol, hob, hot, hr, hinv⟩
  dsimp only at hk hol hob hot hr hinv
  by_cases hk0 : k = 0
  · subst hk0
    subst hB
    rw [List.drop_zero, List.drop_zero] at hinv
    have e1 : nv bb l / by' = nv bb o := by
      rw [← hinv, Nat.mul_add_div h0, Nat.div_eq_of_lt hr, Nat.add_zero]
    have e2 : nv bb l % by' = r := by
      rw [← hinv, Nat.mul_add_mod, Nat.mod_eq_of_lt hr]
    have e3 : o = dgs n (nv bb l / by') := dgs_eq hol hob e1.symm
    rw [hbb] at h1
    repeat' ((conv => whnf); first | refine walk (Try.ok ..) ?_ | (refine Cnd.mk (fun h => ?_) (fun h => ?_) <;> (first | exact cndT h (by (try dsimp only); omega) | exact cndF h (by (try dsimp only); omega) | (exfalso; simp at h; omega) | simp at h | skip)) | fail)
    refine done_in ?_
    repeat' ((conv => whnf); first | refine walk (Try.ok ..) ?_ | refine side2 ?_ | refine sideL2 ?_ | refine xi _ (And.intro rfl rfl) ?_ | fail)
    rw [e2, ← e3, ← bl_r1]
    exact done_set (g := g) (ty := ty) (cs := bl pre o post) (cs' := bl pre o post) rfl rfl 100 rfl rfl rfl
  obtain ⟨j, rfl⟩ : ∃ j, k = j + 1 := ⟨k - 1, by omega⟩
  obtain ⟨x, hx⟩ := us_at (l := l) (k := j) (by omega)
  have hox : o[j]? = some x := by
    have h2 : (o.take (j + 1))[j]? = (l.take (j + 1))[j]? := by rw [hot]
    rw [List.getElem?_take_of_lt (by omega), List.getElem?_take_of_lt (by omega), hx] at h2
    exact h2
  have hxb := hb x (List.mem_of_getElem? hx)
  have hst := small_step (B := bb) (x := x) hinv
  have hsl := small_lt hr hxb
  have hdl : nv bb (l.drop j) = x + bb * nv bb (l.drop (j + 1)) := by
    have h2 := (List.getElem?_eq_some_iff.1 hx)
    rw [List.drop_eq_getElem_cons h2.1, nv, h2.2]
  rw [← hdl] at hst
  obtain ⟨cur, ecur⟩ : ∃ c, c = r * bb + x := ⟨_, rfl⟩
  rw [← ecur] at hst hsl
  rw [hbb] at hxb h1 ecur
  have hcr : cur % by' < by' := Nat.mod_lt _ h0
  have hor : bits .or .u64 (IntKind.u64.wrap ((r : Int) * 2 ^ Int.toNat 32)) (x : Int) = (cur : Int) := by
    rw [IntKind.wrap_u64, pow32, Int.emod_eq_of_lt (by omega) (by omega), or_u64 (by omega) (by omega), ecur]
    omega
  have hlo : off + mulS ((((j + 1 : Nat) : Int) - 1)).toNat 1 < (bl pre o post).length := b_lt (k := j) (by omega) ho (by omega)
  repeat' ((conv => whnf); first | refine walk (Try.ok ..) ?_ | (refine Cnd.mk (fun h => ?_) (fun h => ?_) <;> (first | exact cndT h (by (try dsimp only); omega) | exact cndF h (by (try dsimp only); omega) | (exfalso; simp at h; omega) | simp at h | skip)) | refine side2 ?_ | refine xi _ (And.intro rfl rfl) ?_ | refine xi _ (b_at hox ho (by omega)) ?_ | fail)
  subst hB
  refine Sat.yielded (COk.with_ (Try.ok ..) _ _) (id := 1000001) rfl rfl rfl rfl ?_
  repeat' ((conv => whnf); first | refine walk (COk.with_ (Try.ok ..) _ _) ?_ | refine side2 ?_ | refine sideL2 ?_ | refine Or.inr ?_ | refine xi _ (And.intro rfl rfl) ?_ | fail)
  generalize hB2 : HB.lp _ _ _ _ _ _ _ LoopState.busy _ = B2
  refine sat_draw (COk.with_ (COk.with_ (Try.ok ..) _ _) _ _) [] [(2, .blk g2 75 [.s 100 g 0 off n cap]), (3, .blk g3 23 [.v (.int .u32 by')]), (5, .blk g5 78 [.v (.int .u64 (bits .or .u64 (IntKind.u64.wrap ((r : Int) * 2 ^ Int.toNat 32)) (x : Int)))])] (by kernel_rfl) (fun w hw => hw.sub ?_) ?_
  · ((repeat' (first | exact trivial | exact rfl | refine And.intro ?_ ?_)) <;> (try (conv => whnf)) <;> (try simp only [SV.real, SV.r2, SV.r1]))
  repeat' ((conv => whnf); first | refine walk (COk.with_ (Try.ok ..) _ _) ?_ | refine kp ?_ ?_ | exact trivial | refine side2 ?_ | refine sideL2 ?_ | refine Or.inr ?_ | refine xi _ (And.intro rfl rfl) ?_ | fail)
  subst hB2
  repeat' ((conv => whnf); first | refine walk (Try.ok ..) ?_ | (refine Cnd.mk (fun h => ?_) (fun h => ?_) <;> (first | exact cndT h (by (try dsimp only); omega) | exact cndF h (by (try dsimp only); omega) | (exfalso; simp at h; omega) | simp at h | skip)) | refine side2 ?_ | refine sideL2 ?_ | fail)
  refine ⟨(j, o.set j (cur / by'), cur % by'), ⟨⟨by omega, by rw [List.length_set]; exact hol, all_set hob hsl, ?_, hcr, ?_⟩, by dsimp only; omega⟩, ?_, ?_, rfl⟩
  · dsimp only
    rw [List.take_set_of_le (Nat.le_refl _)]
    have h2 := congrArg (List.take j) hot
    rw [List.take_take, List.take_take, Nat.min_eq_left (by omega)] at h2
    exact h2
  · dsimp only
    rw [drop_set (by omega), nv]
    exact hst
  · dsimp only
    ((repeat' (first | exact trivial | exact rfl | refine And.intro ?_ ?_)) <;> (try (conv => whnf)) <;> (try simp only [SV.real, SV.r2, SV.r1]))
    all_goals exact congrArg (Value.int .i64) (by omega)
  · dsimp only
    rw [← b_set (off := off) (i := ((j + 1 : Nat) : Int) - 1) (e := IntKind.u32.wrap (bits .or .u64 (IntKind.u64.wrap ((r : Int) * 2 ^ Int.toNat 32)) (x : Int) / (by' : Int))) (by omega) ho (by omega) (by
      rw [hor, wrap_u32, show ((cur : Int) / (by' : Int)) = ((cur / by' : Nat) : Int) from rfl]
      have h3 : cur / by' < 4294967296 := hsl
      generalize cur / by' = q at h3 ⊢
      omega)]
    rw [show ((cur % by' : Nat) : Int) = bits .or .u64 (IntKind.u64.wrap ((r : Int) * 2 ^ Int.toNat 32)) (x : Int) % (by' : Int) by rw [hor]; rfl]
    ((repeat' (first | exact trivial | exact rfl | refine And.intro ?_ ?_)) <;> (try (conv => whnf)) <;> (try simp only [SV.real, SV.r2, SV.r1]))
end Go.Proofs.Ytomhfakkebaciaa
