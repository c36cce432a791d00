/-
  The walks of the hydro package: the row behind a weight; the columns of a row.
-/
import Derived.Test.YtomhfakkebaciaaH4
set_option linter.unusedSimpArgs false
set_option linter.unusedVariables false
namespace Go.Proofs.Ytomhfakkebaciaa
open Go Sat Go.RowKit Go.PlainAid
def rwV (r : HRow) : Value := .agg #[.int .i64 r.d, .int .i64 r.k, .int .i64 r.b, .int .i64 r.m, .int .i64 r.t]
def cmpI (a b : Int) : Int := if a < b then -1 else if b < a then 1 else 0
theorem nan_any (n : Int) (w : World) : Calls Try.prog 66 #[.int .i64 n] w fun e w' => e = .returned (.bool false) ∧ Below w.heap.size w w' := by
  refine calls_sat (cx := Try.cx 6 [] [] [] w) (Try.ok ..) Try.func66 rfl [.v (.int .i64 n)] rfl (by show 1 ≤ 6; omega) [] (holds_nil (Nat.le_refl _)) ?_
  repeat' ((conv => whnf); first | refine walk (Try.ok ..) ?_ | (refine Cnd.mk (fun h => ?_) (fun h => ?_) <;> (first | exact cndT h (by (try dsimp only); omega) | exact cndF h (by (try dsimp only); omega) | (exfalso; simp at h; omega) | simp at h | skip)) | refine kp ?_ ?_ | refine tw ?_ ?_ | exact trivial | refine side2 ?_ | refine sideL2 ?_ | refine Or.inr ?_ | refine sat_drawH (Try.ok ..) (by kernel_rfl) ?_ | refine xi _ (And.intro rfl rfl) ?_ | refine xi _ (fun _ => And.intro rfl rfl) ?_ | refine xi _ rfl ?_)
  refine done_pure rfl rfl (congrArg Value.bool ?_)
  simp
theorem compare_any (a b : Int) (w : World) : Calls Try.prog 40 #[.int .i64 a, .int .i64 b] w fun e w' => e = .returned (.int .i64 (cmpI a b)) ∧ Below w.heap.size w w' := by
  refine calls_sat (cx := Try.cx 20 [] [] [] w) (Try.ok ..) Try.func40 rfl [.v (.int .i64 a), .v (.int .i64 b)] rfl (by show 2 ≤ 20; omega) [] (holds_nil (Nat.le_refl _)) ?_
  repeat' ((conv => whnf); first | refine walk (Try.ok ..) ?_ | (refine Cnd.mk (fun h => ?_) (fun h => ?_) <;> (first | exact cndT h (by (try dsimp only); omega) | exact cndF h (by (try dsimp only); omega) | (exfalso; simp at h; omega) | simp at h | skip)) | refine kp ?_ ?_ | refine tw ?_ ?_ | exact trivial | refine side2 ?_ | refine sideL2 ?_ | refine Or.inr ?_ | refine sat_drawH (Try.ok ..) (by kernel_rfl) ?_ | refine xi _ (And.intro rfl rfl) ?_ | refine xi _ (fun _ => And.intro rfl rfl) ?_ | refine xi _ rfl ?_)
  refine called_pure (.v (.bool false)) rfl (fun w' => nan_any _ w') ?_
  repeat' ((conv => whnf); first | refine walk (Try.ok ..) ?_ | (refine Cnd.mk (fun h => ?_) (fun h => ?_) <;> (first | exact cndT h (by (try dsimp only); omega) | exact cndF h (by (try dsimp only); omega) | (exfalso; simp at h; omega) | simp at h | skip)) | refine kp ?_ ?_ | refine tw ?_ ?_ | exact trivial | refine side2 ?_ | refine sideL2 ?_ | refine Or.inr ?_ | refine sat_drawH (Try.ok ..) (by kernel_rfl) ?_ | refine xi _ (And.intro rfl rfl) ?_ | refine xi _ (fun _ => And.intro rfl rfl) ?_ | refine xi _ rfl ?_)
  refine called_pure (.v (.bool false)) rfl (fun w' => nan_any _ w') ?_
  unfold cmpI
  by_cases h1 : a < b
  · rw [if_pos h1]
    repeat' ((conv => whnf); first | refine walk (Try.ok ..) ?_ | (refine Cnd.mk (fun h => ?_) (fun h => ?_) <;> (first | exact cndT h (by (try dsimp only); omega) | exact cndF h (by (try dsimp only); omega) | (exfalso; simp at h; omega) | simp at h | skip)) | refine kp ?_ ?_ | refine tw ?_ ?_ | exact trivial | refine side2 ?_ | refine sideL2 ?_ | refine Or.inr ?_ | refine sat_drawH (Try.ok ..) (by kernel_rfl) ?_ | refine xi _ (And.intro rfl rfl) ?_ | refine xi _ (fun _ => And.intro rfl rfl) ?_ | refine xi _ rfl ?_)
    exact done_pure rfl rfl rfl
  rw [if_neg h1]
  by_cases h2 : b < a
  · rw [if_pos h2]
    repeat' ((conv => whnf); first | refine walk (Try.ok ..) ?_ | (refine Cnd.mk (fun h => ?_) (fun h => ?_) <;> (first | exact cndT h (by (try dsimp only); omega) | exact cndF h (by (try dsimp only); omega) | (exfalso; simp at h; omega) | simp at h | skip)) | refine kp ?_ ?_ | refine tw ?_ ?_ | exact trivial | refine side2 ?_ | refine sideL2 ?_ | refine Or.inr ?_ | refine sat_drawH (Try.ok ..) (by kernel_rfl) ?_ | refine xi _ (And.intro rfl rfl) ?_ | refine xi _ (fun _ => And.intro rfl rfl) ?_ | refine xi _ rfl ?_)
    exact done_pure rfl rfl rfl
  rw [if_neg h2]
  repeat' ((conv => whnf); first | refine walk (Try.ok ..) ?_ | (refine Cnd.mk (fun h => ?_) (fun h => ?_) <;> (first | exact cndT h (by (try dsimp only); omega) | exact cndF h (by (try dsimp only); omega) | (exfalso; simp at h; omega) | simp at h | skip)) | refine kp ?_ ?_ | refine tw ?_ ?_ | exact trivial | refine side2 ?_ | refine sideL2 ?_ | refine Or.inr ?_ | refine sat_drawH (Try.ok ..) (by kernel_rfl) ?_ | refine xi _ (And.intro rfl rfl) ?_ | refine xi _ (fun _ => And.intro rfl rfl) ?_ | refine xi _ rfl ?_)
  exact done_pure rfl rfl rfl
theorem at1_any (r : HRow) (k : Int) (w : World) : Calls Try.prog 39 #[rwV r, .int .i64 k] w fun e w' => e = .returned (.int .i64 (cmpI r.k k)) ∧ Below w.heap.size w w' := by
  refine calls_sat (cx := Try.cx 9 [] [] [] w) (Try.ok ..) Try.func39 rfl [.a (rwC r), .v (.int .i64 k)] rfl (by show 2 ≤ 9; omega) [] (holds_nil (Nat.le_refl _)) ?_
  repeat' ((conv => whnf); first | refine walk (Try.ok ..) ?_ | (refine Cnd.mk (fun h => ?_) (fun h => ?_) <;> (first | exact cndT h (by (try dsimp only); omega) | exact cndF h (by (try dsimp only); omega) | (exfalso; simp at h; omega) | simp at h | skip)) | refine kp ?_ ?_ | refine tw ?_ ?_ | exact trivial | refine side2 ?_ | refine sideL2 ?_ | refine Or.inr ?_ | refine sat_drawH (Try.ok ..) (by kernel_rfl) ?_ | refine xi _ (And.intro rfl rfl) ?_ | refine xi _ (fun _ => And.intro rfl rfl) ?_ | refine xi _ rfl ?_ | intro g hg)
  (conv => whnf)
  refine called_pure (.v (.int .i64 (cmpI r.k k))) rfl (fun w' => compare_any _ _ w') ?_
  repeat' ((conv => whnf); first | refine walk (Try.ok ..) ?_ | (refine Cnd.mk (fun h => ?_) (fun h => ?_) <;> (first | exact cndT h (by (try dsimp only); omega) | exact cndF h (by (try dsimp only); omega) | (exfalso; simp at h; omega) | simp at h | skip)) | refine kp ?_ ?_ | refine tw ?_ ?_ | exact trivial | refine side2 ?_ | refine sideL2 ?_ | refine Or.inr ?_ | refine sat_drawH (Try.ok ..) (by kernel_rfl) ?_ | refine xi _ (And.intro rfl rfl) ?_ | refine xi _ (fun _ => And.intro rfl rfl) ?_ | refine xi _ rfl ?_)
  exact done_pure rfl rfl rfl
theorem col1_any (r : HRow) (w : World) : Calls Try.prog 67 #[rwV r] w fun e w' => e = .returned (.int .i64 r.d) ∧ Below w.heap.size w w' := by
  refine calls_sat (cx := Try.cx 5 [] [] [] w) (Try.ok ..) Try.func67 rfl [.a (rwC r)] rfl (by show 1 ≤ 5; omega) [] (holds_nil (Nat.le_refl _)) ?_
  repeat' ((conv => whnf); first | refine walk (Try.ok ..) ?_ | (refine Cnd.mk (fun h => ?_) (fun h => ?_) <;> (first | exact cndT h (by (try dsimp only); omega) | exact cndF h (by (try dsimp only); omega) | (exfalso; simp at h; omega) | simp at h | skip)) | refine kp ?_ ?_ | refine tw ?_ ?_ | exact trivial | refine side2 ?_ | refine sideL2 ?_ | refine Or.inr ?_ | refine sat_drawH (Try.ok ..) (by kernel_rfl) ?_ | refine xi _ (And.intro rfl rfl) ?_ | refine xi _ (fun _ => And.intro rfl rfl) ?_ | refine xi _ rfl ?_ | intro g hg)
  exact done_pure rfl rfl rfl
theorem col2_any (r : HRow) (w : World) : Calls Try.prog 68 #[rwV r] w fun e w' => e = .returned (.int .i64 r.b) ∧ Below w.heap.size w w' := by
  refine calls_sat (cx := Try.cx 5 [] [] [] w) (Try.ok ..) Try.func68 rfl [.a (rwC r)] rfl (by show 1 ≤ 5; omega) [] (holds_nil (Nat.le_refl _)) ?_
  repeat' ((conv => whnf); first | refine walk (Try.ok ..) ?_ | (refine Cnd.mk (fun h => ?_) (fun h => ?_) <;> (first | exact cndT h (by (try dsimp only); omega) | exact cndF h (by (try dsimp only); omega) | (exfalso; simp at h; omega) | simp at h | skip)) | refine kp ?_ ?_ | refine tw ?_ ?_ | exact trivial | refine side2 ?_ | refine sideL2 ?_ | refine Or.inr ?_ | refine sat_drawH (Try.ok ..) (by kernel_rfl) ?_ | refine xi _ (And.intro rfl rfl) ?_ | refine xi _ (fun _ => And.intro rfl rfl) ?_ | refine xi _ rfl ?_ | intro g hg)
  exact done_pure rfl rfl rfl
theorem col3_any (r : HRow) (w : World) : Calls Try.prog 69 #[rwV r] w fun e w' => e = .returned (.int .i64 r.m) ∧ Below w.heap.size w w' := by
  refine calls_sat (cx := Try.cx 5 [] [] [] w) (Try.ok ..) Try.func69 rfl [.a (rwC r)] rfl (by show 1 ≤ 5; omega) [] (holds_nil (Nat.le_refl _)) ?_
  repeat' ((conv => whnf); first | refine walk (Try.ok ..) ?_ | (refine Cnd.mk (fun h => ?_) (fun h => ?_) <;> (first | exact cndT h (by (try dsimp only); omega) | exact cndF h (by (try dsimp only); omega) | (exfalso; simp at h; omega) | simp at h | skip)) | refine kp ?_ ?_ | refine tw ?_ ?_ | exact trivial | refine side2 ?_ | refine sideL2 ?_ | refine Or.inr ?_ | refine sat_drawH (Try.ok ..) (by kernel_rfl) ?_ | refine xi _ (And.intro rfl rfl) ?_ | refine xi _ (fun _ => And.intro rfl rfl) ?_ | refine xi _ rfl ?_ | intro g hg)
  exact done_pure rfl rfl rfl
theorem col4_any (r : HRow) (w : World) : Calls Try.prog 70 #[rwV r] w fun e w' => e = .returned (.int .i64 r.t) ∧ Below w.heap.size w w' := by
  refine calls_sat (cx := Try.cx 5 [] [] [] w) (Try.ok ..) Try.func70 rfl [.a (rwC r)] rfl (by show 1 ≤ 5; omega) [] (holds_nil (Nat.le_refl _)) ?_
  repeat' ((conv => whnf); first | refine walk (Try.ok ..) ?_ | (refine Cnd.mk (fun h => ?_) (fun h => ?_) <;> (first | exact cndT h (by (try dsimp only); omega) | exact cndF h (by (try dsimp only); omega) | (exfalso; simp at h; omega) | simp at h | skip)) | refine kp ?_ ?_ | refine tw ?_ ?_ | exact trivial | refine side2 ?_ | refine sideL2 ?_ | refine Or.inr ?_ | refine sat_drawH (Try.ok ..) (by kernel_rfl) ?_ | refine xi _ (And.intro rfl rfl) ?_ | refine xi _ (fun _ => And.intro rfl rfl) ?_ | refine xi _ rfl ?_ | intro g hg)
  exact done_pure rfl rfl rfl
def colsV : Value := .agg #[.func (.func 67) #[] #[], .func (.func 68) #[] #[], .func (.func 69) #[] #[], .func (.func 70) #[] #[]]
theorem columns_any (w : World) : Calls Try.prog 41 #[] w fun e w' => e = .returned colsV ∧ Below w.heap.size w w' := by
  refine calls_sat (cx := Try.cx 2 [] [] [] w) (Try.ok ..) Try.func41 rfl [] rfl (by show 0 ≤ 2; omega) [] (holds_nil (Nat.le_refl _)) ?_
  repeat' ((conv => whnf); first | refine walk (Try.ok ..) ?_ | (refine Cnd.mk (fun h => ?_) (fun h => ?_) <;> (first | exact cndT h (by (try dsimp only); omega) | exact cndF h (by (try dsimp only); omega) | (exfalso; simp at h; omega) | simp at h | skip)) | refine kp ?_ ?_ | refine tw ?_ ?_ | exact trivial | refine side2 ?_ | refine sideL2 ?_ | refine Or.inr ?_ | refine sat_drawH (Try.ok ..) (by kernel_rfl) ?_ | refine xi _ (And.intro rfl rfl) ?_ | refine xi _ (fun _ => And.intro rfl rfl) ?_ | refine xi _ rfl ?_ | intro g hg)
  exact done_pure rfl rfl rfl
def foundH (l : List HRow) (x : Int) : Bool := match l[heavyI l x]? with
  | some r => decide (r.k = x)
  | none => false
set_option maxRecDepth 100000 in
set_option maxHeartbeats 8000000 in
theorem search_any (l : List HRow) (A : Option (Nat × Nat)) (cap : Nat) (x : Int) (w : World) (hro : Ro w A l.length 5 (rwL l)) (hr : rightH l = true) :
    Calls Try.prog 38 #[.slice (adr A) l.length cap, .int .i64 x, .func (.func 39) #[] #[]] w fun e w' => e = .returned (.tuple #[.int .i64 (heavyI l x), .bool (foundH l x)]) ∧ Below w.heap.size w w' := by
  have hR := right_is hr
  have hl := hR.most
  refine calls_sat (cx := Try.cx 49 [] [] [] w) (Try.ok ..) Try.func38 rfl [.o 100 A l.length cap, .v (.int .i64 x), .v (.func (.func 39) #[] #[])] rfl (by show 3 ≤ 49; omega) [(100, .ro A l.length 5 (rwL l))] (holds_ros rfl rfl ⟨hro, trivial⟩) ?_
  repeat' ((conv => whnf); first | refine walk (Try.ok ..) ?_ | (refine Cnd.mk (fun h => ?_) (fun h => ?_) <;> (first | exact cndT h (by (try dsimp only); omega) | exact cndF h (by (try dsimp only); omega) | (exfalso; simp at h; omega) | simp at h | skip)) | refine kp ?_ ?_ | refine tw ?_ ?_ | exact trivial | refine side2 ?_ | refine sideL2 ?_ | refine Or.inr ?_ | refine sat_drawH (Try.ok ..) (by kernel_rfl) ?_ | refine xi _ (And.intro rfl rfl) ?_ | refine xi _ (fun _ => And.intro rfl rfl) ?_ | refine xi _ rfl ?_)
  refine sat_loop (Try.ok ..) (α := Nat × Nat) (fun k => ([(0, .yes, .o 100 A l.length cap), (1, .yes, .v (.int .i64 x)), (2, .yes, .v (.func (.func 39) #[] #[])), (8, .yes, .v (.int .i64 l.length)), (9, .yes, .v (.int .i64 k.1)), (10, .yes, .v (.int .i64 k.2))], [(100, .ro A l.length 5 (rwL l))]))
    (fun k => k.1 ≤ k.2 ∧ k.2 ≤ l.length ∧ (∀ (j : Nat) (r : HRow), j < k.1 → l[j]? = some r → r.k < x) ∧ ∀ (j : Nat) (r : HRow), k.2 ≤ j → l[j]? = some r → x ≤ r.k) (fun k => k.2 - k.1) (fun _ => rfl) ?_ ?_
  · refine ⟨(0, l.length), ⟨by omega, by omega, fun j r h => absurd h (Nat.not_lt_zero _), fun j r h h2 => by rw [List.getElem?_eq_none h] at h2; cases h2⟩, ?_, ?_, rfl⟩
    all_goals ((repeat' (first | exact trivial | exact rfl | refine And.intro ?_ ?_)) <;> (try (conv => whnf)) <;> (try simp only [SV.real, SV.r2, SV.r1]))
  rintro ⟨lo, hi⟩ ⟨h1, h2, h3, h4⟩
  dsimp only at h1 h2 h3 h4
  by_cases hk1 : lo < hi
  · obtain ⟨m, hm⟩ : ∃ m : Nat, m = (lo + hi) / 2 := ⟨_, rfl⟩
    obtain ⟨s, hs⟩ : ∃ s, l[m]? = some s := ⟨l[m]'(by omega), List.getElem?_eq_getElem (by omega)⟩
    have hmv : ((lo : Int) + hi) / 2 ^ (1 : Int).toNat = m := by
      show ((lo : Int) + hi) / 2 = m
      omega
    have hin : InR .i64 (((lo : Int) + hi) / 2 ^ (1 : Int).toNat) := by
      rw [hmv]
      simp only [InR]
      omega
    repeat' ((conv => whnf); first | refine walk (Try.ok ..) ?_ | (refine Cnd.mk (fun h => ?_) (fun h => ?_) <;> (first | exact cndT h (by (try dsimp only); omega) | exact cndF h (by (try dsimp only); omega) | (exfalso; simp at h; omega) | simp at h | skip)) | refine kp ?_ ?_ | refine tw ?_ ?_ | exact trivial | refine side2 ?_ | refine sideL2 ?_ | refine Or.inr ?_ | refine sat_drawH (Try.ok ..) (by kernel_rfl) ?_ | refine xi _ (And.intro rfl rfl) ?_ | refine xi _ (fun _ => And.intro rfl rfl) ?_ | refine xi _ rfl ?_ | refine xi _ (fun _ => (rw_cells hs hmv)) ?_ | refine xi _ (rw_cells hs hmv) ?_)
    (conv => whnf)
    refine called_pure (.v (.int .i64 (cmpI s.k x))) rfl (fun w' => at1_any s x w') ?_
    unfold cmpI
    by_cases hsx : s.k < x
    · rw [if_pos hsx]
      repeat' ((conv => whnf); first | refine walk (Try.ok ..) ?_ | (refine Cnd.mk (fun h => ?_) (fun h => ?_) <;> (first | exact cndT h (by (try dsimp only); omega) | exact cndF h (by (try dsimp only); omega) | (exfalso; simp at h; omega) | simp at h | skip)) | refine kp ?_ ?_ | refine tw ?_ ?_ | exact trivial | refine side2 ?_ | refine sideL2 ?_ | refine Or.inr ?_ | refine sat_drawH (Try.ok ..) (by kernel_rfl) ?_ | refine xi _ (And.intro rfl rfl) ?_ | refine xi _ (fun _ => And.intro rfl rfl) ?_ | refine xi _ rfl ?_)
      refine ⟨(m + 1, hi), ⟨⟨by show m + 1 ≤ hi; omega, h2, fun j r hj hr => ?_, h4⟩, by show hi - (m + 1) < hi - lo; omega⟩, ?_, ?_, rfl⟩
      · rcases Nat.lt_or_eq_of_le (Nat.le_of_lt_succ hj) with h5 | h5
        · have := (hR.lt_of h5 hr hs).2
          omega
        · subst h5
          rw [hs] at hr
          cases hr
          exact hsx
      · dsimp only
        rw [hmv]
        ((repeat' (first | exact trivial | exact rfl | refine And.intro ?_ ?_)) <;> (try (conv => whnf)) <;> (try simp only [SV.real, SV.r2, SV.r1]))
      · ((repeat' (first | exact trivial | exact rfl | refine And.intro ?_ ?_)) <;> (try (conv => whnf)) <;> (try simp only [SV.real, SV.r2, SV.r1]))
    · rw [if_neg hsx]
      have h6 : ¬ (if x < s.k then (1 : Int) else 0) < 0 := by split <;> omega
      repeat' ((conv => whnf); first | refine walk (Try.ok ..) ?_ | (refine Cnd.mk (fun h => ?_) (fun h => ?_) <;> (first | exact cndT h (by (try dsimp only); omega) | exact cndF h (by (try dsimp only); omega) | (exfalso; simp at h; omega) | simp at h | skip)) | refine kp ?_ ?_ | refine tw ?_ ?_ | exact trivial | refine side2 ?_ | refine sideL2 ?_ | refine Or.inr ?_ | refine sat_drawH (Try.ok ..) (by kernel_rfl) ?_ | refine xi _ (And.intro rfl rfl) ?_ | refine xi _ (fun _ => And.intro rfl rfl) ?_ | refine xi _ rfl ?_)
      refine ⟨(lo, m), ⟨⟨by show lo ≤ m; omega, by show m ≤ l.length; omega, h3, fun j r hj hr => ?_⟩, by show m - lo < hi - lo; omega⟩, ?_, ?_, rfl⟩
      · rcases Nat.lt_or_eq_of_le hj with h5 | h5
        · have h7 : m < j := h5
          have := (hR.lt_of h7 hs hr).2
          omega
        · have h7 : m = j := h5
          subst h7
          rw [hs] at hr
          cases hr
          omega
      · dsimp only
        rw [hmv]
        ((repeat' (first | exact trivial | exact rfl | refine And.intro ?_ ?_)) <;> (try (conv => whnf)) <;> (try simp only [SV.real, SV.r2, SV.r1]))
      · ((repeat' (first | exact trivial | exact rfl | refine And.intro ?_ ?_)) <;> (try (conv => whnf)) <;> (try simp only [SV.real, SV.r2, SV.r1]))
  · obtain rfl : lo = hi := by omega
    have he := (heavy_is hR x).eq ⟨h2, h3, h4⟩
    by_cases hlo : lo < l.length
    · obtain ⟨s, hs⟩ : ∃ s, l[lo]? = some s := ⟨l[lo]'(by omega), List.getElem?_eq_getElem (by omega)⟩
      repeat' ((conv => whnf); first | refine walk (Try.ok ..) ?_ | (refine Cnd.mk (fun h => ?_) (fun h => ?_) <;> (first | exact cndT h (by (try dsimp only); omega) | exact cndF h (by (try dsimp only); omega) | (exfalso; simp at h; omega) | simp at h | skip)) | refine kp ?_ ?_ | refine tw ?_ ?_ | exact trivial | refine side2 ?_ | refine sideL2 ?_ | refine Or.inr ?_ | refine sat_drawH (Try.ok ..) (by kernel_rfl) ?_ | refine xi _ (And.intro rfl rfl) ?_ | refine xi _ (fun _ => And.intro rfl rfl) ?_ | refine xi _ rfl ?_ | refine xi _ (fun _ => (rw_cells hs rfl)) ?_ | refine xi _ (rw_cells hs rfl) ?_)
      (conv => whnf)
      refine calledQ_pure (.v (.int .i64 (cmpI s.k x))) rfl (fun _ w' => at1_any s x w') ?_
      repeat' ((conv => whnf); first | refine walk (Try.ok ..) ?_ | (refine Cnd.mk (fun h => ?_) (fun h => ?_) <;> (first | exact cndT h (by (try dsimp only); omega) | exact cndF h (by (try dsimp only); omega) | (exfalso; simp at h; omega) | simp at h | skip)) | refine kp ?_ ?_ | refine tw ?_ ?_ | exact trivial | refine side2 ?_ | refine sideL2 ?_ | refine Or.inr ?_ | refine sat_drawH (Try.ok ..) (by kernel_rfl) ?_ | refine xi _ (And.intro rfl rfl) ?_ | refine xi _ (fun _ => And.intro rfl rfl) ?_ | refine xi _ rfl ?_)
      refine done_pure rfl rfl ?_
      have hf : foundH l x = decide (s.k = x) := by unfold foundH; rw [he, hs]
      rw [hf, he]
      have hc : (cmpI s.k x == 0) = decide (s.k = x) := by
        unfold cmpI
        split
        · rw [decide_eq_false (by omega)]; rfl
        · split
          · rw [decide_eq_false (by omega)]; rfl
          · rw [decide_eq_true (by omega)]; rfl
      simp [SV.real, SV.r2, SV.r1, hc, hlo]
    · obtain rfl : lo = l.length := by omega
      have hno : ¬ ((l.length : Int) < l.length) := by omega
      repeat' ((conv => whnf); first | refine walk (Try.ok ..) ?_ | (refine Cnd.mk (fun h => ?_) (fun h => ?_) <;> (first | exact cndT h (by (try dsimp only); omega) | exact cndF h (by (try dsimp only); omega) | (exfalso; simp at h; omega) | simp at h | skip)) | refine kp ?_ ?_ | refine tw ?_ ?_ | exact trivial | refine side2 ?_ | refine sideL2 ?_ | refine Or.inr ?_ | refine sat_drawH (Try.ok ..) (by kernel_rfl) ?_ | refine xi _ (And.intro rfl rfl) ?_ | refine xi _ (fun _ => And.intro rfl rfl) ?_ | refine xi _ rfl ?_ | (refine @Exists.intro (List Value) _ (rwW ⟨0, 0, 0, 0, 0⟩) (And.intro (fun h => absurd (of_decide_eq_true h) hno) ?_)))
      (conv => whnf)
      refine calledQ_pure (.v (.int .i64 0)) rfl (fun hg => absurd (of_decide_eq_true hg) hno) ?_
      repeat' ((conv => whnf); first | refine walk (Try.ok ..) ?_ | (refine Cnd.mk (fun h => ?_) (fun h => ?_) <;> (first | exact cndT h (by (try dsimp only); omega) | exact cndF h (by (try dsimp only); omega) | (exfalso; simp at h; omega) | simp at h | skip)) | refine kp ?_ ?_ | refine tw ?_ ?_ | exact trivial | refine side2 ?_ | refine sideL2 ?_ | refine Or.inr ?_ | refine sat_drawH (Try.ok ..) (by kernel_rfl) ?_ | refine xi _ (And.intro rfl rfl) ?_ | refine xi _ (fun _ => And.intro rfl rfl) ?_ | refine xi _ rfl ?_)
      refine done_pure rfl rfl ?_
      have hf : foundH l x = false := by unfold foundH; rw [he, List.getElem?_eq_none (Nat.le_refl _)]
      rw [hf, he]
      simp [SV.real, SV.r2, SV.r1]
end Go.Proofs.Ytomhfakkebaciaa
