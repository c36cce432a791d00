/-
  The walks of the route package's reference: numbers as texts.
-/
import Derived.Test.YtbpklalkoocneaaDoorWf
import Derived.Lib.ItoaLen
namespace Go.Proofs.YtbpklalkoocneaaDoor
open Go Sat Go.RowKit Go.PlainAid
set_option linter.unusedSimpArgs false
set_option linter.unusedVariables false
theorem itB_len {n : Int} (h0 : 0 ≤ n) (h1 : n ≤ 9223372036854775807) : (itB n).size ≤ 21 := by
  have := Lib.itoa_length_le n (by omega) h1
  unfold itB
  show (Lib.itoa n).toArray.size ≤ 21
  simpa using this
theorem itB_small {n : Int} (h0 : 0 ≤ n) (h1 : n < 10) : itB n = ⟨#[UInt8.ofNat (48 + n.toNat)]⟩ := by
  unfold itB
  rw [itoa_pos h0]
  unfold Lib.decDigits
  rw [dif_pos (by omega)]
theorem itB_big {n : Int} (h1 : 10 ≤ n) : itB n = itB (n / 10) ++ ⟨#[UInt8.ofNat (48 + n.toNat % 10)]⟩ := by
  unfold itB
  rw [itoa_pos (by omega), itoa_pos (by omega)]
  rw [Lib.decDigits]
  rw [dif_neg (by omega)]
  have e : (n / 10).toNat = n.toNat / 10 := by omega
  rw [e]
  apply ba_ext
  simp
theorem one_str {x : Int} : Sat.strOf [x] = ⟨#[UInt8.ofNat x.toNat]⟩ := rfl
set_option maxRecDepth 100000 in
set_option maxHeartbeats 8000000 in
theorem digits_any : ∀ (m : Nat) (n : Int) (w : World), 0 ≤ n → n ≤ 9223372036854775807 → n.toNat ≤ m → Calls Tryd.prog 52 #[.int .i64 n] w fun e w' => e = .returned (.string (itB n)) ∧ Below w.heap.size w w' := by
  intro m
  induction m using Nat.strongRecOn with
  | _ m ih =>
  intro n w h0 h1 hm
  refine calls_sat (cx := Tryd.cx 18 [] [] [] w) (Tryd.ok ..) Tryd.func52 rfl [.v (.int .i64 n)] rfl (by show 1 ≤ 18; omega) [] (holds_nil (Nat.le_refl _)) ?_
  repeat' ((conv => whnf); first
    | refine walk (Tryd.ok ..) ?_
    | refine walk (COk.with_ (Tryd.ok ..) _ _) ?_
    | refine walk (COk.with_ (COk.with_ (Tryd.ok ..) _ _) _ _) ?_
    | (refine Cnd.mk (fun h => ?_) (fun h => ?_) <;> (first | (exfalso; simp only [decide_eq_true_eq, decide_eq_false_iff_not, Bool.not_eq_true', Bool.not_eq_false'] at h; omega) | (exfalso; simp at h; omega) | simp at h | skip))
    | refine And.intro (Kept.mk ?_) ?_
    | refine Two.mk (And.intro ?_ ?_)
    | exact trivial
    | refine side ?_
    | refine sideL ?_
    | refine Or.inr ?_
    | refine sat_drawH (Tryd.ok ..) (by kernel_rfl) ?_
    | refine sat_drawH (COk.with_ (Tryd.ok ..) _ _) (by kernel_rfl) ?_
    | refine sat_drawH (COk.with_ (COk.with_ (Tryd.ok ..) _ _) _ _) (by kernel_rfl) ?_
    | refine Exists.intro [_] (And.intro (one_byte rfl) ?_)
    | refine Exists.intro [_] (And.intro (fun _ => one_byte rfl) ?_)
    | refine Exists.intro _ (And.intro (And.intro rfl rfl) ?_)
    | refine Exists.intro _ (And.intro (fun _ => And.intro rfl rfl) ?_)
    | refine Exists.intro _ (And.intro rfl ?_))
  intro g8 hg8
  repeat' ((conv => whnf); first
    | refine walk (Tryd.ok ..) ?_
    | refine walk (COk.with_ (Tryd.ok ..) _ _) ?_
    | refine walk (COk.with_ (COk.with_ (Tryd.ok ..) _ _) _ _) ?_
    | (refine Cnd.mk (fun h => ?_) (fun h => ?_) <;> (first | (exfalso; simp only [decide_eq_true_eq, decide_eq_false_iff_not, Bool.not_eq_true', Bool.not_eq_false'] at h; omega) | (exfalso; simp at h; omega) | simp at h | skip))
    | refine And.intro (Kept.mk ?_) ?_
    | refine Two.mk (And.intro ?_ ?_)
    | exact trivial
    | refine side ?_
    | refine sideL ?_
    | refine Or.inr ?_
    | refine sat_drawH (Tryd.ok ..) (by kernel_rfl) ?_
    | refine sat_drawH (COk.with_ (Tryd.ok ..) _ _) (by kernel_rfl) ?_
    | refine sat_drawH (COk.with_ (COk.with_ (Tryd.ok ..) _ _) _ _) (by kernel_rfl) ?_
    | refine Exists.intro [_] (And.intro (one_byte rfl) ?_)
    | refine Exists.intro [_] (And.intro (fun _ => one_byte rfl) ?_)
    | refine Exists.intro _ (And.intro (And.intro rfl rfl) ?_)
    | refine Exists.intro _ (And.intro (fun _ => And.intro rfl rfl) ?_)
    | refine Exists.intro _ (And.intro rfl ?_))
  · have hl := itB_len (n := n / 10) (by omega) (by omega)
    refine called_pure (.v (.string (itB (n / 10)))) rfl (fun w' => ih (n / 10).toNat (by omega) (n / 10) w' (by omega) (by omega) (Nat.le_refl _)) ?_
    repeat' ((conv => whnf); first
      | refine walk (Tryd.ok ..) ?_
      | refine walk (COk.with_ (Tryd.ok ..) _ _) ?_
      | refine walk (COk.with_ (COk.with_ (Tryd.ok ..) _ _) _ _) ?_
      | (refine Cnd.mk (fun h => ?_) (fun h => ?_) <;> (first | (exfalso; simp only [decide_eq_true_eq, decide_eq_false_iff_not, Bool.not_eq_true', Bool.not_eq_false'] at h; omega) | (exfalso; simp at h; omega) | simp at h | skip))
      | refine And.intro (Kept.mk ?_) ?_
      | refine Two.mk (And.intro ?_ ?_)
      | exact trivial
      | refine side ?_
      | refine sideL ?_
      | refine Or.inr ?_
      | refine sat_drawH (Tryd.ok ..) (by kernel_rfl) ?_
      | refine sat_drawH (COk.with_ (Tryd.ok ..) _ _) (by kernel_rfl) ?_
      | refine sat_drawH (COk.with_ (COk.with_ (Tryd.ok ..) _ _) _ _) (by kernel_rfl) ?_
      | refine Exists.intro [_] (And.intro (one_byte rfl) ?_)
      | refine Exists.intro [_] (And.intro (fun _ => one_byte rfl) ?_)
      | refine Exists.intro _ (And.intro (And.intro rfl rfl) ?_)
      | refine Exists.intro _ (And.intro (fun _ => And.intro rfl rfl) ?_)
      | refine Exists.intro _ (And.intro rfl ?_))
    refine done_pure rfl rfl (congrArg Value.string ?_)
    rw [itB_big (n := n) (by omega), one_str, show (48 + n % 10).toNat = 48 + n.toNat % 10 by omega]
  · refine done_pure rfl rfl (congrArg Value.string ?_)
    rw [itB_small h0 (by omega), one_str, show (48 + n % 10).toNat = 48 + n.toNat by omega]
theorem digits_of (n : Int) (w : World) (h0 : 0 ≤ n) (h1 : n ≤ 9223372036854775807) : Calls Tryd.prog 52 #[.int .i64 n] w fun e w' => e = .returned (.string (itB n)) ∧ Below w.heap.size w w' := digits_any n.toNat n w h0 h1 (Nat.le_refl _)
end Go.Proofs.YtbpklalkoocneaaDoor

