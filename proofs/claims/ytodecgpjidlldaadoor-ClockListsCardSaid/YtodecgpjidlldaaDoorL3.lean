/-
  The walks of the laws of the clock: spans that are made of numbers.
-/
import Derived.Test.YtodecgpjidlldaaDoorL1
namespace Go.Proofs.YtodecgpjidlldaaDoor
open Go Sat Go.RowKit Go.PlainAid
set_option linter.unusedSimpArgs false
set_option linter.unusedVariables false
def u8s (x : List Int) : List Value := x.map (Value.int .u8)
def U8 (x : List Int) : Prop := ∀ v ∈ x, 0 ≤ v ∧ v ≤ 255
/-- where the n-th span may begin, and the spans of n pairs of numbers -/
def mdAt (x : List Int) : Nat → Int
  | 0 => 0
  | n + 1 => mdAt x n + x.getD (2 * n) 0 + 1 + x.getD (2 * n + 1) 0 + 1
def mdS (x : List Int) (n : Nat) : Sp := ⟨mdAt x n + x.getD (2 * n) 0, mdAt x n + x.getD (2 * n) 0 + 1 + x.getD (2 * n + 1) 0⟩
def mdTo (x : List Int) (n : Nat) : List Sp := (List.range n).map (mdS x)
def mdN (x : List Int) : Nat := min (x.length / 2) 40
def mdL (x : List Int) : List Sp := mdTo x (mdN x)
theorem u8_get {x : List Int} (h : U8 x) (i : Nat) : 0 ≤ x.getD i 0 ∧ x.getD i 0 ≤ 255 := by
  rw [List.getD_eq_getElem?_getD]
  cases hx : x[i]? with
  | none => simp
  | some v => exact h v (List.mem_of_getElem? hx)
theorem mdAt_bd {x : List Int} (h : U8 x) : ∀ n : Nat, 0 ≤ mdAt x n ∧ mdAt x n ≤ 512 * n := by
  intro n
  induction n with
  | zero => simp [mdAt]
  | succ n ih =>
    have h1 := u8_get h (2 * n)
    have h2 := u8_get h (2 * n + 1)
    rw [mdAt]
    omega
theorem mdTo_len (x : List Int) (n : Nat) : (mdTo x n).length = n := by unfold mdTo; simp
theorem mdTo_succ (x : List Int) (n : Nat) : mdTo x (n + 1) = mdTo x n ++ [mdS x n] := by unfold mdTo; simp [List.range_succ]
theorem mdTo_get {x : List Int} {n k : Nat} (h : k < n) : (mdTo x n)[k]? = some (mdS x k) := by unfold mdTo; simp [h]
theorem mdTo_of {x : List Int} {n k : Nat} {s : Sp} (h : (mdTo x n)[k]? = some s) : k < n ∧ s = mdS x k := by
  have h1 := (List.getElem?_eq_some_iff.1 h).1
  rw [mdTo_len] at h1
  rw [mdTo_get h1] at h
  exact ⟨h1, (Option.some.inj h).symm⟩
theorem mdTo_ok {x : List Int} (h : U8 x) {n : Nat} (hn : n ≤ 40) : okTo (mdTo x n) (mdTo x n).length = true := by
  unfold okTo
  rw [List.all_eq_true]
  intro i hi
  rw [List.mem_range, mdTo_len] at hi
  unfold okAt
  rw [mdTo_get hi]
  have hb := mdAt_bd h i
  have h1 := u8_get h (2 * i)
  have h2 := u8_get h (2 * i + 1)
  have e1 : (mdS x i).f = mdAt x i + x.getD (2 * i) 0 := rfl
  have e2 : (mdS x i).t = mdAt x i + x.getD (2 * i) 0 + 1 + x.getD (2 * i + 1) 0 := rfl
  simp only [Bool.and_eq_true, decide_eq_true_eq]
  refine ⟨⟨⟨by omega, by omega⟩, by omega⟩, ?_⟩
  cases i with
  | zero => rfl
  | succ i =>
    dsimp only
    rw [mdTo_get (show i < n by omega)]
    have e3 : (mdS x i).t = mdAt x i + x.getD (2 * i) 0 + 1 + x.getD (2 * i + 1) 0 := rfl
    have e4 : mdAt x (i + 1) = mdAt x i + x.getD (2 * i) 0 + 1 + x.getD (2 * i + 1) 0 + 1 := rfl
    simp only [decide_eq_true_eq]
    omega
theorem mdN_le (x : List Int) : mdN x ≤ 40 := by unfold mdN; omega
theorem mdL_len (x : List Int) : (mdL x).length = mdN x := mdTo_len _ _
theorem md_apart {x : List Int} (h : U8 x) : apart (mdL x) = true := by
  unfold apart
  rw [show okTo (mdL x) (mdL x).length = true from mdTo_ok h (mdN_le x), decide_eq_true (show (mdL x).length ≤ 1000 by rw [mdL_len]; have := mdN_le x; omega)]
  rfl
/-- all ends are at most so great -/
theorem md_end {x : List Int} (h : U8 x) {k : Nat} {s : Sp} (hs : (mdL x)[k]? = some s) : s.t ≤ 20480 := by
  obtain ⟨h0, rfl⟩ := mdTo_of hs
  have hn := mdN_le x
  have hb := mdAt_bd h k
  have h1 := u8_get h (2 * k)
  have h2 := u8_get h (2 * k + 1)
  have e2 : (mdS x k).t = mdAt x k + x.getD (2 * k) 0 + 1 + x.getD (2 * k + 1) 0 := rfl
  omega
set_option maxRecDepth 100000 in
set_option maxHeartbeats 8000000 in
theorem made_any (x : List Int) (A : Option (Nat × Nat)) (cap : Nat) (w : World) (hA : Ro w A x.length 1 (u8s x)) (hx : U8 x) (hl : x.length ≤ 9223372036854775800) :
    Calls Tryd.prog 22 #[.slice (adr A) x.length cap] w fun e w' => ∃ v, e = .returned v ∧ w'.ownsRow w.heap.size 52 2 v (mdL x).length (sps (mdL x)) ∧ Below w.heap.size w w' := by
  refine calls_sat (cx := Tryd.cx 49 [7] [] [] w) (Tryd.ok ..) Tryd.func22 rfl [.o 300 A x.length cap] rfl (by show 1 ≤ 49; omega) [(300, .ro A x.length 1 (u8s x))] (holds_ros rfl rfl ⟨hA, trivial⟩) ?_
  repeat' ((conv => whnf); first
    | refine walk (Tryd.ok ..) ?_
    | refine walk (COk.with_ (Tryd.ok ..) _ _) ?_
    | refine walk (COk.with_ (COk.with_ (Tryd.ok ..) _ _) _ _) ?_
    | (refine Cnd.mk (fun h => ?_) (fun h => ?_) <;> (first | (exfalso; simp only [decide_eq_true_eq, decide_eq_false_iff_not, Bool.not_eq_true', Bool.not_eq_false'] at h; omega) | (exfalso; simp at h; omega) | simp at h | skip))
    | refine And.intro (Kept.mk ?_) ?_
    | refine Two.mk (And.intro ?_ ?_)
    | exact trivial
    | refine side ?_
    | refine sideL ?_
    | refine Or.inr ?_
    | refine sat_drawH (Tryd.ok ..) (by kernel_rfl) ?_
    | refine sat_drawH (COk.with_ (Tryd.ok ..) _ _) (by kernel_rfl) ?_
    | refine sat_drawH (COk.with_ (COk.with_ (Tryd.ok ..) _ _) _ _) (by kernel_rfl) ?_
    | refine Exists.intro [_] (And.intro (one_byte rfl) ?_)
    | refine Exists.intro [_] (And.intro (fun _ => one_byte rfl) ?_)
    | refine Exists.intro _ (And.intro (And.intro rfl rfl) ?_)
    | refine Exists.intro _ (And.intro (fun _ => And.intro rfl rfl) ?_)
    | refine Exists.intro _ (And.intro rfl ?_))
  refine sat_loop (Tryd.ok ..) (α := Nat × Option (Nat × Nat) × Nat) (fun s => ([(0, .yes, .o 300 A x.length cap), (3, .yes, .o 44 s.2.1 s.1 s.2.2), (4, .yes, .v (.int .i64 (mdAt x s.1))), (5, .yes, .v (.int .i64 (2 * s.1)))],
      [(44, .row s.2.1 52 2 s.1 s.2.2 (sps (mdTo x s.1))), (300, .ro A x.length 1 (u8s x))])) (fun s => s.1 ≤ mdN x) (fun s => mdN x - s.1) (fun _ => rfl) ?_ ?_
  · refine ⟨(0, none, 0), Nat.zero_le _, ?_, ?_, rfl⟩
    all_goals ((repeat' (first | exact trivial | exact rfl | refine And.intro ?_ ?_)) <;> (try (conv => whnf)) <;> (try simp only [SV.real, SV.r2, SV.r1]))
  rintro ⟨n, A1, cap1⟩ hn
  dsimp only at hn
  have hmd : mdN x = min (x.length / 2) 40 := rfl
  by_cases hn1 : n < mdN x
  · have g1 : (u8s x)[2 * n]? = some (.int .u8 (x.getD (2 * n) 0)) := by
      unfold u8s
      rw [List.getElem?_map, List.getD_eq_getElem?_getD, List.getElem?_eq_getElem (show 2 * n < x.length by omega)]
      rfl
    have g2 : (u8s x)[2 * n + 1]? = some (.int .u8 (x.getD (2 * n + 1) 0)) := by
      unfold u8s
      rw [List.getElem?_map, List.getD_eq_getElem?_getD, List.getElem?_eq_getElem (show 2 * n + 1 < x.length by omega)]
      rfl
    have k1 : (u8s x)[mulS (2 * (n : Int)).toNat 1]? = some (.int .u8 (x.getD (2 * n) 0)) := by
      rw [mulS_eq, Nat.mul_one, show (2 * (n : Int)).toNat = 2 * n by omega]
      exact g1
    have k2 : (u8s x)[mulS (2 * (n : Int) + 1).toNat 1]? = some (.int .u8 (x.getD (2 * n + 1) 0)) := by
      rw [mulS_eq, Nat.mul_one, show (2 * (n : Int) + 1).toNat = 2 * n + 1 by omega]
      exact g2
    have hb := mdAt_bd hx n
    have h1 := u8_get hx (2 * n)
    have h2 := u8_get hx (2 * n + 1)
    obtain ⟨u, hu⟩ : ∃ u, u = x.getD (2 * n) 0 := ⟨_, rfl⟩
    obtain ⟨v, hv⟩ : ∃ v, v = x.getD (2 * n + 1) 0 := ⟨_, rfl⟩
    obtain ⟨at_, hat⟩ : ∃ v, v = mdAt x n := ⟨_, rfl⟩
    have e1 : mdAt x (n + 1) = at_ + u + 1 + v + 1 := by rw [mdAt, hu, hv, hat]
    have e2 : sps (mdTo x (n + 1)) = sps (mdTo x n) ++ [.int .i64 (at_ + u), .int .i64 (at_ + u + 1 + v)] := by
      rw [mdTo_succ, sps_app, hu, hv, hat]
      rfl
    rw [← hu] at k1 h1
    rw [← hv] at k2 h2
    rw [← hat] at hb
    repeat' ((conv => whnf); first
      | refine walk (Tryd.ok ..) ?_
      | refine walk (COk.with_ (Tryd.ok ..) _ _) ?_
      | refine walk (COk.with_ (COk.with_ (Tryd.ok ..) _ _) _ _) ?_
      | (refine Cnd.mk (fun h => ?_) (fun h => ?_) <;> (first | (exfalso; simp only [decide_eq_true_eq, decide_eq_false_iff_not, Bool.not_eq_true', Bool.not_eq_false'] at h; omega) | (exfalso; simp at h; omega) | simp at h | skip))
      | refine And.intro (Kept.mk ?_) ?_
      | refine Two.mk (And.intro ?_ ?_)
      | exact trivial
      | refine side ?_
      | refine sideL ?_
      | refine Or.inr ?_
      | refine sat_drawH (Tryd.ok ..) (by kernel_rfl) ?_
      | refine sat_drawH (COk.with_ (Tryd.ok ..) _ _) (by kernel_rfl) ?_
      | refine sat_drawH (COk.with_ (COk.with_ (Tryd.ok ..) _ _) _ _) (by kernel_rfl) ?_
      | refine Exists.intro [_] (And.intro (one_byte rfl) ?_)
      | refine Exists.intro [_] (And.intro (fun _ => one_byte rfl) ?_)
      | refine Exists.intro _ (And.intro (And.intro rfl rfl) ?_)
      | refine Exists.intro _ (And.intro (fun _ => And.intro rfl rfl) ?_)
      | refine Exists.intro _ (And.intro rfl ?_)
      | refine Exists.intro _ (And.intro (fun _ => (k1)) ?_)
      | refine Exists.intro _ (And.intro (k1) ?_)
      | refine Exists.intro _ (And.intro (fun _ => (k2)) ?_)
      | refine Exists.intro _ (And.intro (k2) ?_))
    intro g6 hg6
    repeat' ((conv => whnf); first
      | refine walk (Tryd.ok ..) ?_
      | refine walk (COk.with_ (Tryd.ok ..) _ _) ?_
      | refine walk (COk.with_ (COk.with_ (Tryd.ok ..) _ _) _ _) ?_
      | (refine Cnd.mk (fun h => ?_) (fun h => ?_) <;> (first | (exfalso; simp only [decide_eq_true_eq, decide_eq_false_iff_not, Bool.not_eq_true', Bool.not_eq_false'] at h; omega) | (exfalso; simp at h; omega) | simp at h | skip))
      | refine And.intro (Kept.mk ?_) ?_
      | refine Two.mk (And.intro ?_ ?_)
      | exact trivial
      | refine side ?_
      | refine sideL ?_
      | refine Or.inr ?_
      | refine Exists.intro [_] (And.intro (one_byte rfl) ?_)
      | refine Exists.intro [_] (And.intro (fun _ => one_byte rfl) ?_)
      | refine Exists.intro _ (And.intro (And.intro rfl rfl) ?_)
      | refine Exists.intro _ (And.intro (fun _ => And.intro rfl rfl) ?_)
      | refine Exists.intro _ (And.intro rfl ?_))
    refine sat_draw (Tryd.ok ..) [] [(6, .blk g6 52 [.v (.int .i64 (at_ + u)), .v (.int .i64 (at_ + u + 1 + v))])] (by kernel_rfl) (fun w hw => hw.sub ?_) ?_
    · subst hat
      ((repeat' (first | exact trivial | exact rfl | refine And.intro ?_ ?_)) <;> (try (conv => whnf)) <;> (try simp only [SV.real, SV.r2, SV.r1]))
    subst hat
    repeat' ((conv => whnf); first
      | refine walk (Tryd.ok ..) ?_
      | refine walk (COk.with_ (Tryd.ok ..) _ _) ?_
      | refine walk (COk.with_ (COk.with_ (Tryd.ok ..) _ _) _ _) ?_
      | (refine Cnd.mk (fun h => ?_) (fun h => ?_) <;> (first | (exfalso; simp only [decide_eq_true_eq, decide_eq_false_iff_not, Bool.not_eq_true', Bool.not_eq_false'] at h; omega) | (exfalso; simp at h; omega) | simp at h | skip))
      | refine And.intro (Kept.mk ?_) ?_
      | refine Two.mk (And.intro ?_ ?_)
      | exact trivial
      | refine side ?_
      | refine sideL ?_
      | refine Or.inr ?_
      | refine sat_drawH (Tryd.ok ..) (by kernel_rfl) ?_
      | refine sat_drawH (COk.with_ (Tryd.ok ..) _ _) (by kernel_rfl) ?_
      | refine sat_drawH (COk.with_ (COk.with_ (Tryd.ok ..) _ _) _ _) (by kernel_rfl) ?_
      | refine Exists.intro [_] (And.intro (one_byte rfl) ?_)
      | refine Exists.intro [_] (And.intro (fun _ => one_byte rfl) ?_)
      | refine Exists.intro _ (And.intro (And.intro rfl rfl) ?_)
      | refine Exists.intro _ (And.intro (fun _ => And.intro rfl rfl) ?_)
      | refine Exists.intro _ (And.intro rfl ?_))
    intro g43 hg43
    repeat' ((conv => whnf); first
      | refine walk (Tryd.ok ..) ?_
      | refine walk (COk.with_ (Tryd.ok ..) _ _) ?_
      | refine walk (COk.with_ (COk.with_ (Tryd.ok ..) _ _) _ _) ?_
      | (refine Cnd.mk (fun h => ?_) (fun h => ?_) <;> (first | (exfalso; simp only [decide_eq_true_eq, decide_eq_false_iff_not, Bool.not_eq_true', Bool.not_eq_false'] at h; omega) | (exfalso; simp at h; omega) | simp at h | skip))
      | refine And.intro (Kept.mk ?_) ?_
      | refine Two.mk (And.intro ?_ ?_)
      | exact trivial
      | refine side ?_
      | refine sideL ?_
      | refine Or.inr ?_
      | refine sat_drawH (Tryd.ok ..) (by kernel_rfl) ?_
      | refine sat_drawH (COk.with_ (Tryd.ok ..) _ _) (by kernel_rfl) ?_
      | refine sat_drawH (COk.with_ (COk.with_ (Tryd.ok ..) _ _) _ _) (by kernel_rfl) ?_
      | refine Exists.intro [_] (And.intro (one_byte rfl) ?_)
      | refine Exists.intro [_] (And.intro (fun _ => one_byte rfl) ?_)
      | refine Exists.intro _ (And.intro (And.intro rfl rfl) ?_)
      | refine Exists.intro _ (And.intro (fun _ => And.intro rfl rfl) ?_)
      | refine Exists.intro _ (And.intro rfl ?_))
    intro A2 cap2
    repeat' ((conv => whnf); first
      | refine walk (Tryd.ok ..) ?_
      | refine walk (COk.with_ (Tryd.ok ..) _ _) ?_
      | refine walk (COk.with_ (COk.with_ (Tryd.ok ..) _ _) _ _) ?_
      | (refine Cnd.mk (fun h => ?_) (fun h => ?_) <;> (first | (exfalso; simp only [decide_eq_true_eq, decide_eq_false_iff_not, Bool.not_eq_true', Bool.not_eq_false'] at h; omega) | (exfalso; simp at h; omega) | simp at h | skip))
      | refine And.intro (Kept.mk ?_) ?_
      | refine Two.mk (And.intro ?_ ?_)
      | exact trivial
      | refine side ?_
      | refine sideL ?_
      | refine Or.inr ?_
      | refine sat_drawH (Tryd.ok ..) (by kernel_rfl) ?_
      | refine sat_drawH (COk.with_ (Tryd.ok ..) _ _) (by kernel_rfl) ?_
      | refine sat_drawH (COk.with_ (COk.with_ (Tryd.ok ..) _ _) _ _) (by kernel_rfl) ?_
      | refine Exists.intro [_] (And.intro (one_byte rfl) ?_)
      | refine Exists.intro [_] (And.intro (fun _ => one_byte rfl) ?_)
      | refine Exists.intro _ (And.intro (And.intro rfl rfl) ?_)
      | refine Exists.intro _ (And.intro (fun _ => And.intro rfl rfl) ?_)
      | refine Exists.intro _ (And.intro rfl ?_))
    refine ⟨(n + 1, A2, cap2), ⟨by show n + 1 ≤ mdN x; omega, by show mdN x - (n + 1) < mdN x - n; omega⟩, ?_, ?_, rfl⟩
    · dsimp only
      rw [e1, show (2 : Int) * ((n + 1 : Nat) : Int) = 2 * (n : Int) + 2 by omega]
      ((repeat' (first | exact trivial | exact rfl | refine And.intro ?_ ?_)) <;> (try (conv => whnf)) <;> (try simp only [SV.real, SV.r2, SV.r1]))
    · dsimp only
      rw [e2]
      ((repeat' (first | exact trivial | exact rfl | refine And.intro ?_ ?_)) <;> (try (conv => whnf)) <;> (try simp only [SV.real, SV.r2, SV.r1]))
  · have hn2 : n = mdN x := by omega
    by_cases h40 : n < 40
    · repeat' ((conv => whnf); first
        | refine walk (Tryd.ok ..) ?_
        | refine walk (COk.with_ (Tryd.ok ..) _ _) ?_
        | refine walk (COk.with_ (COk.with_ (Tryd.ok ..) _ _) _ _) ?_
        | (refine Cnd.mk (fun h => ?_) (fun h => ?_) <;> (first | (exfalso; simp only [decide_eq_true_eq, decide_eq_false_iff_not, Bool.not_eq_true', Bool.not_eq_false'] at h; omega) | (exfalso; simp at h; omega) | simp at h | skip))
        | refine And.intro (Kept.mk ?_) ?_
        | refine Two.mk (And.intro ?_ ?_)
        | exact trivial
        | refine side ?_
        | refine sideL ?_
        | refine Or.inr ?_
        | refine sat_drawH (Tryd.ok ..) (by kernel_rfl) ?_
        | refine sat_drawH (COk.with_ (Tryd.ok ..) _ _) (by kernel_rfl) ?_
        | refine sat_drawH (COk.with_ (COk.with_ (Tryd.ok ..) _ _) _ _) (by kernel_rfl) ?_
        | refine Exists.intro [_] (And.intro (one_byte rfl) ?_)
        | refine Exists.intro [_] (And.intro (fun _ => one_byte rfl) ?_)
        | refine Exists.intro _ (And.intro (And.intro rfl rfl) ?_)
        | refine Exists.intro _ (And.intro (fun _ => And.intro rfl rfl) ?_)
        | refine Exists.intro _ (And.intro rfl ?_))
      subst hn2
      exact done_row2 (mk := fun v => v) rfl rfl 44 A1 cap1 rfl (mdL_len x).symm rfl rfl
    · repeat' ((conv => whnf); first
        | refine walk (Tryd.ok ..) ?_
        | refine walk (COk.with_ (Tryd.ok ..) _ _) ?_
        | refine walk (COk.with_ (COk.with_ (Tryd.ok ..) _ _) _ _) ?_
        | (refine Cnd.mk (fun h => ?_) (fun h => ?_) <;> (first | (exfalso; simp only [decide_eq_true_eq, decide_eq_false_iff_not, Bool.not_eq_true', Bool.not_eq_false'] at h; omega) | (exfalso; simp at h; omega) | simp at h | skip))
        | refine And.intro (Kept.mk ?_) ?_
        | refine Two.mk (And.intro ?_ ?_)
        | exact trivial
        | refine side ?_
        | refine sideL ?_
        | refine Or.inr ?_
        | refine sat_drawH (Tryd.ok ..) (by kernel_rfl) ?_
        | refine sat_drawH (COk.with_ (Tryd.ok ..) _ _) (by kernel_rfl) ?_
        | refine sat_drawH (COk.with_ (COk.with_ (Tryd.ok ..) _ _) _ _) (by kernel_rfl) ?_
        | refine Exists.intro [_] (And.intro (one_byte rfl) ?_)
        | refine Exists.intro [_] (And.intro (fun _ => one_byte rfl) ?_)
        | refine Exists.intro _ (And.intro (And.intro rfl rfl) ?_)
        | refine Exists.intro _ (And.intro (fun _ => And.intro rfl rfl) ?_)
        | refine Exists.intro _ (And.intro rfl ?_))
      subst hn2
      exact done_row2 (mk := fun v => v) rfl rfl 44 A1 cap1 rfl (mdL_len x).symm rfl rfl
def wkN (x : List Int) : Nat := bhN (mdL x) 10080
def wkL (x : List Int) : List Sp := (mdL x).take (wkN x)
theorem md_ok {x : List Int} (h : U8 x) : okTo (mdL x) (mdL x).length = true := mdTo_ok h (mdN_le x)
theorem wkL_get {x : List Int} {k : Nat} {s : Sp} (hs : (wkL x)[k]? = some s) : k < wkN x ∧ (mdL x)[k]? = some s := by
  unfold wkL at hs
  rw [List.getElem?_take] at hs
  split at hs
  · rename_i h
    exact ⟨h, hs⟩
  · cases hs
theorem wk_len {x : List Int} (h : U8 x) : (wkL x).length = wkN x := by
  unfold wkL
  rw [List.length_take]
  have := (bhN_is (md_ok h) 10080).le
  unfold wkN
  omega
theorem okTo_take {l : List Sp} (h : okTo l l.length = true) (n : Nat) : okTo (l.take n) (l.take n).length = true := by
  unfold okTo
  rw [List.all_eq_true]
  intro i hi
  rw [List.mem_range, List.length_take] at hi
  have h1 := okTo_at h (show i < l.length by omega)
  unfold okAt at h1 ⊢
  have q1 : (l.take n)[i]? = l[i]? := by rw [List.getElem?_take, if_pos (by omega)]
  rw [q1]
  cases i with
  | zero => exact h1
  | succ i =>
    have q2 : (l.take n)[i]? = l[i]? := by rw [List.getElem?_take, if_pos (by omega)]
    simp only [q2]
    exact h1
theorem wk_cal {x y : List Int} (h : U8 x) (h2 : U8 y) : calOk (wkL x) (mdL y) = true := by
  have a1 := md_apart h2
  have a0 : apart (wkL x) = true := by
    unfold apart
    rw [show okTo (wkL x) (wkL x).length = true from okTo_take (md_ok h) _, decide_eq_true (show (wkL x).length ≤ 1000 by rw [wk_len h]; have := (bhN_is (md_ok h) 10080).le; rw [mdL_len] at this; have := mdN_le x; unfold wkN; omega)]
    rfl
  have n0 : (wkL x).length ≤ 50 := by rw [wk_len h]; have := (bhN_is (md_ok h) 10080).le; rw [mdL_len] at this; have := mdN_le x; unfold wkN; omega
  have n1 : (mdL y).length ≤ 200 := by rw [mdL_len]; have := mdN_le y; omega
  unfold calOk
  rw [a0, a1, decide_eq_true n0, decide_eq_true n1]
  cases hs : (wkL x)[(wkL x).length - 1]? with
  | none => rfl
  | some s =>
    obtain ⟨h3, h4⟩ := wkL_get hs
    have := (bhN_is (md_ok h) 10080).lo _ s h3 h4
    simpa using this
/-- a slice of the function's own that is shorter than its row -/
theorem done_cut {cx : Cx} {v : SV} {H : Heap} {e size m k : Nat} {xs xs' : List Value} {mk : Value → Value} (hn : cx.n0 = cx.W.heap.size) (hM : cx.M = []) (d : Nat) (A : Option (Nat × Nat)) (cap : Nat) (hf : hfind H d = some (.row A e size m cap xs')) (hx : xs' = xs) (h : v.real = mk (.slice (adr A) k cap)) :
    Done cx (fun e' w' => ∃ A cap, e' = .returned (mk (.slice (adr A) k cap)) ∧ w'.ownsRow cx.W.heap.size e size (.slice (adr A) m cap) m xs ∧ Below cx.W.heap.size cx.W w') v H :=
  ⟨fun w hw => ⟨A, cap, by rw [h], (by
    have h1 : (HB.row A e size m cap xs').holds cx w := hw.at_ hf
    rw [← hn, ← hx]
    exact h1), below_of hn hM hw⟩⟩
set_option maxRecDepth 100000 in
set_option maxHeartbeats 8000000 in
theorem week_any (x : List Int) (A : Option (Nat × Nat)) (cap : Nat) (w : World) (hA : Ro w A x.length 1 (u8s x)) (hx : U8 x) (hl : x.length ≤ 9223372036854775800) :
    Calls Tryd.prog 30 #[.slice (adr A) x.length cap] w fun e w' => ∃ A cap, e = .returned (.slice (adr A) (wkL x).length cap) ∧ w'.ownsRow w.heap.size 52 2 (.slice (adr A) (mdL x).length cap) (mdL x).length (sps (mdL x)) ∧ Below w.heap.size w w' := by
  refine calls_sat (cx := Tryd.cx 25 [] [] [] w) (Tryd.ok ..) Tryd.func30 rfl [.o 300 A x.length cap] rfl (by show 1 ≤ 25; omega) [(300, .ro A x.length 1 (u8s x))] (holds_ros rfl rfl ⟨hA, trivial⟩) ?_
  have hn40 := mdN_le x
  have hbh := bhN_is (md_ok hx) 10080
  have hwl := wk_len hx
  have hln := mdL_len x
  repeat' ((conv => whnf); first
    | refine walk (Tryd.ok ..) ?_
    | refine walk (COk.with_ (Tryd.ok ..) _ _) ?_
    | refine walk (COk.with_ (COk.with_ (Tryd.ok ..) _ _) _ _) ?_
    | (refine Cnd.mk (fun h => ?_) (fun h => ?_) <;> (first | (exfalso; simp only [decide_eq_true_eq, decide_eq_false_iff_not, Bool.not_eq_true', Bool.not_eq_false'] at h; omega) | (exfalso; simp at h; omega) | simp at h | skip))
    | refine And.intro (Kept.mk ?_) ?_
    | refine Two.mk (And.intro ?_ ?_)
    | exact trivial
    | refine side ?_
    | refine sideL ?_
    | refine Or.inr ?_
    | refine sat_drawH (Tryd.ok ..) (by kernel_rfl) ?_
    | refine sat_drawH (COk.with_ (Tryd.ok ..) _ _) (by kernel_rfl) ?_
    | refine sat_drawH (COk.with_ (COk.with_ (Tryd.ok ..) _ _) _ _) (by kernel_rfl) ?_
    | refine Exists.intro [_] (And.intro (one_byte rfl) ?_)
    | refine Exists.intro [_] (And.intro (fun _ => one_byte rfl) ?_)
    | refine Exists.intro _ (And.intro (And.intro rfl rfl) ?_)
    | refine Exists.intro _ (And.intro (fun _ => And.intro rfl rfl) ?_)
    | refine Exists.intro _ (And.intro rfl ?_))
  refine called_row 5 (fun v => v) (fun A cap => .o 5 A (mdL x).length cap) (fun A cap => rfl) (fun w' hh => made_any x A cap w' (ro_of_ro hh (id := 300) rfl) hx hl) ?_
  intro A1 cap1
  repeat' ((conv => whnf); first
    | refine walk (Tryd.ok ..) ?_
    | refine walk (COk.with_ (Tryd.ok ..) _ _) ?_
    | refine walk (COk.with_ (COk.with_ (Tryd.ok ..) _ _) _ _) ?_
    | (refine Cnd.mk (fun h => ?_) (fun h => ?_) <;> (first | (exfalso; simp only [decide_eq_true_eq, decide_eq_false_iff_not, Bool.not_eq_true', Bool.not_eq_false'] at h; omega) | (exfalso; simp at h; omega) | simp at h | skip))
    | refine And.intro (Kept.mk ?_) ?_
    | refine Two.mk (And.intro ?_ ?_)
    | exact trivial
    | refine side ?_
    | refine sideL ?_
    | refine Or.inr ?_
    | refine sat_drawH (Tryd.ok ..) (by kernel_rfl) ?_
    | refine sat_drawH (COk.with_ (Tryd.ok ..) _ _) (by kernel_rfl) ?_
    | refine sat_drawH (COk.with_ (COk.with_ (Tryd.ok ..) _ _) _ _) (by kernel_rfl) ?_
    | refine Exists.intro [_] (And.intro (one_byte rfl) ?_)
    | refine Exists.intro [_] (And.intro (fun _ => one_byte rfl) ?_)
    | refine Exists.intro _ (And.intro (And.intro rfl rfl) ?_)
    | refine Exists.intro _ (And.intro (fun _ => And.intro rfl rfl) ?_)
    | refine Exists.intro _ (And.intro rfl ?_))
  refine sat_row 5 rfl fun hcap1 _ => ?_
  refine sat_loop (Tryd.ok ..) (α := Nat) (fun k => ([(3, .yes, .o 5 A1 k cap1)], [(5, .row A1 52 2 (mdL x).length cap1 (sps (mdL x)))])) (fun k => wkN x ≤ k ∧ k ≤ (mdL x).length) (fun k => k) (fun _ => rfl) ?_ ?_
  · refine ⟨(mdL x).length, ⟨hbh.le, Nat.le_refl _⟩, ?_, ?_, rfl⟩
    all_goals ((repeat' (first | exact trivial | exact rfl | refine And.intro ?_ ?_)) <;> (try (conv => whnf)) <;> (try simp only [SV.real, SV.r2, SV.r1]))
  rintro k ⟨k1, k2⟩
  rcases Nat.eq_zero_or_pos k with h0 | h0
  · have hw0 : (wkL x).length = 0 := by omega
    subst h0
    repeat' ((conv => whnf); first
      | refine walk (Tryd.ok ..) ?_
      | refine walk (COk.with_ (Tryd.ok ..) _ _) ?_
      | refine walk (COk.with_ (COk.with_ (Tryd.ok ..) _ _) _ _) ?_
      | (refine Cnd.mk (fun h => ?_) (fun h => ?_) <;> (first | (exfalso; simp only [decide_eq_true_eq, decide_eq_false_iff_not, Bool.not_eq_true', Bool.not_eq_false'] at h; omega) | (exfalso; simp at h; omega) | simp at h | skip))
      | refine And.intro (Kept.mk ?_) ?_
      | refine Two.mk (And.intro ?_ ?_)
      | exact trivial
      | refine side ?_
      | refine sideL ?_
      | refine Or.inr ?_
      | refine sat_drawH (Tryd.ok ..) (by kernel_rfl) ?_
      | refine sat_drawH (COk.with_ (Tryd.ok ..) _ _) (by kernel_rfl) ?_
      | refine sat_drawH (COk.with_ (COk.with_ (Tryd.ok ..) _ _) _ _) (by kernel_rfl) ?_
      | refine Exists.intro [_] (And.intro (one_byte rfl) ?_)
      | refine Exists.intro [_] (And.intro (fun _ => one_byte rfl) ?_)
      | refine Exists.intro _ (And.intro (And.intro rfl rfl) ?_)
      | refine Exists.intro _ (And.intro (fun _ => And.intro rfl rfl) ?_)
      | refine Exists.intro _ (And.intro rfl ?_)
      | refine Exists.intro _ (And.intro (fun _ => (no_ld rfl)) ?_)
      | refine Exists.intro _ (And.intro (no_ld rfl) ?_))
    exact done_cut (mk := fun v => v) rfl rfl 5 A1 cap1 rfl rfl (by rw [hw0]; rfl)
  · obtain ⟨s, hs⟩ : ∃ s, (mdL x)[k - 1]? = some s := ⟨(mdL x)[k - 1]'(by omega), List.getElem?_eq_getElem _⟩
    have hlo := hbh.lo (k - 1) s
    have hhi := hbh.hi (k - 1) s
    repeat' ((conv => whnf); first
      | refine walk (Tryd.ok ..) ?_
      | refine walk (COk.with_ (Tryd.ok ..) _ _) ?_
      | refine walk (COk.with_ (COk.with_ (Tryd.ok ..) _ _) _ _) ?_
      | (refine Cnd.mk (fun h => ?_) (fun h => ?_) <;> (first | (exfalso; simp only [decide_eq_true_eq, decide_eq_false_iff_not, Bool.not_eq_true', Bool.not_eq_false'] at h; omega) | (exfalso; simp at h; omega) | simp at h | skip))
      | refine And.intro (Kept.mk ?_) ?_
      | refine Two.mk (And.intro ?_ ?_)
      | exact trivial
      | refine side ?_
      | refine sideL ?_
      | refine Or.inr ?_
      | refine sat_drawH (Tryd.ok ..) (by kernel_rfl) ?_
      | refine sat_drawH (COk.with_ (Tryd.ok ..) _ _) (by kernel_rfl) ?_
      | refine sat_drawH (COk.with_ (COk.with_ (Tryd.ok ..) _ _) _ _) (by kernel_rfl) ?_
      | refine Exists.intro [_] (And.intro (one_byte rfl) ?_)
      | refine Exists.intro [_] (And.intro (fun _ => one_byte rfl) ?_)
      | refine Exists.intro _ (And.intro (And.intro rfl rfl) ?_)
      | refine Exists.intro _ (And.intro (fun _ => And.intro rfl rfl) ?_)
      | refine Exists.intro _ (And.intro rfl ?_)
      | refine Exists.intro _ (And.intro (fun _ => (fun _ => at_t hs (by omega))) ?_)
      | refine Exists.intro _ (And.intro (fun _ => at_t hs (by omega)) ?_))
    · have hk : k ≠ wkN x := fun e => by
        have := hlo (by unfold wkN at e; omega) hs
        omega
      refine ⟨k - 1, ⟨⟨by omega, by omega⟩, by omega⟩, ?_, ?_, rfl⟩
      · dsimp only
        rw [show k - 1 = ((k : Int) - 1).toNat by omega]
        ((repeat' (first | exact trivial | exact rfl | refine And.intro ?_ ?_)) <;> (try (conv => whnf)) <;> (try simp only [SV.real, SV.r2, SV.r1]))
      · ((repeat' (first | exact trivial | exact rfl | refine And.intro ?_ ?_)) <;> (try (conv => whnf)) <;> (try simp only [SV.real, SV.r2, SV.r1]))
    · have hk : k = wkN x := by
        rcases Nat.lt_or_ge (k - 1) (wkN x) with h1 | h1
        · omega
        · have := hhi (by unfold wkN at h1; exact h1) hs
          have := h h0
          omega
      exact done_cut (mk := fun v => v) rfl rfl 5 A1 cap1 rfl rfl (by rw [hwl, ← hk]; rfl)
end Go.Proofs.YtodecgpjidlldaaDoor
