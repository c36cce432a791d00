/-
  The walk of IsoSmall.
-/
import Derived.Test.YtedpadjlkddgjaaDoorTab
import Derived.Test.YtedpadjlkddgjaaDoorP
namespace Go.Proofs.YtedpadjlkddgjaaDoor
open Go Sat Go.RowKit Go.PlainAid
set_option linter.unusedSimpArgs false
set_option linter.unusedVariables false
theorem still {P : Program} {n : Nat} {args : Array Value} {w : World} {v : Ending} (h : Calls P n args w fun e w' => e = v ∧ w = w') : Calls P n args w fun e w' => e = v ∧ Below w.heap.size w w' :=
  h.mono (by rintro e w' ⟨he, rfl⟩; exact ⟨he, below_self _⟩)
theorem bytes4 (a b c d : Int) : 4 = [a, b, c, d].length ∧ ∀ (j : Nat) (u : Value), ([a, b, c, d].map (Value.int .u8))[j]? = some u → ([SV.v (.int .u8 a), SV.v (.int .u8 b), SV.v (.int .u8 c), SV.v (.int .u8 d)] : List SV)[0 + j]? = some (.v u) :=
  ⟨rfl, fun j u hu => by
    match j with
    | 0 => simp at hu; subst hu; rfl
    | 1 => simp at hu; subst hu; rfl
    | 2 => simp at hu; subst hu; rfl
    | 3 => simp at hu; subst hu; rfl
    | j + 4 => simp at hu⟩
theorem rep_size (s : ByteArray) (n : Nat) : (⟨(Lib.repeatL s.data.toList n).toArray⟩ : ByteArray).size = n * s.size := by
  show (Lib.repeatL s.data.toList n).toArray.size = _
  rw [List.size_toArray, Lib.repeatL_length]
  rfl
theorem rep_any (s : ByteArray) (n : Nat) (hs : s.size = 1) (hn : n ≤ 1000) : ∃ r : ByteArray, r.size = n ∧ ∀ w, Calls Tryd.prog 26 #[.string s, .int .i64 n] w fun e w' => e = .returned (.string r) ∧ Below w.heap.size w w' :=
  ⟨_, (rep_size s n).trans (by rw [hs, Nat.mul_one]), fun w => Tryd.strings_Repeat s n w (by omega) (by rw [hs]; omega)⟩
def five : List SV := [.v (.string ⟨#[67, 83, 81, 85, 51, 48, 53, 52, 51, 56, 51]⟩), .v (.string ⟨#[65, 65, 65, 85, 48, 48, 48, 48, 48, 48, 48]⟩), .v (.string ⟨#[90, 90, 90, 90, 57, 57, 57, 57, 57, 57, 57]⟩), .v (.string ⟨#[75, 85, 76, 74, 49, 50, 51, 52, 53, 54, 48]⟩), .v (.string ⟨#[72, 76, 88, 85, 50, 48, 48, 48, 48, 48, 53]⟩)]
theorem five_get {k : Nat} (h : k < 5) : ∃ s, (five[0 + k]? = some (.v (.string s)) ∧ (SV.v (.string s)).scal = true) ∧ s.size = 11 := by
  match k, h with
  | 0, _ => exact ⟨_, ⟨rfl, rfl⟩, rfl⟩
  | 1, _ => exact ⟨_, ⟨rfl, rfl⟩, rfl⟩
  | 2, _ => exact ⟨_, ⟨rfl, rfl⟩, rfl⟩
  | 3, _ => exact ⟨_, ⟨rfl, rfl⟩, rfl⟩
  | 4, _ => exact ⟨_, ⟨rfl, rfl⟩, rfl⟩
set_option maxRecDepth 100000 in
set_option maxHeartbeats 8000000 in
theorem isoSmall_any (w : World) (b o c : Nat) (hk : Kin w b o c) :
    Calls Tryd.prog 9 #[] w fun e w' => e = .returned (.bool true) ∧ Below w.heap.size w w' := by
  have hlit5 : (⟨#[53]⟩ : ByteArray).size = 1 := rfl
  have hlit11 : (⟨#[67, 83, 81, 85, 51, 48, 53, 52, 51, 56, 51]⟩ : ByteArray).size = 11 := rfl
  have hlit10 : (⟨#[67, 83, 81, 85, 51, 48, 53, 52, 51, 56]⟩ : ByteArray).size = 10 := rfl
  have hlit1 : (⟨#[51]⟩ : ByteArray).size = 1 := rfl
  refine calls_sat (cx := Tryd.cx 209 [] [] [] w) (Tryd.ok ..) Tryd.func9 rfl [] rfl (by show 0 ≤ 209; omega) [] (holds_nil (Nat.le_refl _)) ?_
  repeat' ((conv => whnf); first
    | refine walk (Tryd.ok ..) ?_
    | (refine Cnd.mk (fun h => ?_) (fun h => ?_) <;> (first | (exfalso; simp only [decide_eq_true_eq, decide_eq_false_iff_not, Bool.not_eq_true', Bool.not_eq_false'] at h; omega) | simp at h | skip))
    | refine And.intro (Kept.mk ?_) ?_
    | exact trivial
    | refine And.intro (by (first | rfl | (intro h; exact h) | (intro h; exact absurd h Bool.false_ne_true) | omega | exact h | exact congrArg Bool.not h | exact ⟨rfl, rfl⟩ | exact ⟨⟨rfl, rfl⟩, rfl⟩ | exact ⟨⟨rfl, rfl, rfl, rfl⟩, rfl, rfl⟩ | exact trivial | exact ⟨rfl, rfl, rfl, rfl⟩ | exact ⟨⟨rfl, rfl⟩, rfl, rfl⟩ | exact ⟨rfl, Nat.le_of_ble_eq_true rfl, rfl⟩ | exact Nat.le_of_ble_eq_true rfl | (simp only [Grd.ob, Grd.and, InR, kb, Int.toNat_natCast, ByteArray.size_append, ByteArray.size_extract, Sat.strOf_len, List.length_cons, List.length_nil] <;> omega) | (simp only [Grd.ob, Grd.and, InR, kb, Int.toNat_natCast, ByteArray.size_append, ByteArray.size_extract, Sat.strOf_len, List.length_cons, List.length_nil]; intro h; simp at h; omega) | (refine And.intro (by omega) ?_; simp only [ByteArray.size, List.size_toArray, List.length_cons, List.length_nil]; omega) | kernel_rfl)) ?_
    | refine Or.inl (And.intro (by (first | rfl | (intro h; exact h) | (intro h; exact absurd h Bool.false_ne_true) | omega | exact h | exact congrArg Bool.not h | exact ⟨rfl, rfl⟩ | exact ⟨⟨rfl, rfl⟩, rfl⟩ | exact ⟨⟨rfl, rfl, rfl, rfl⟩, rfl, rfl⟩ | exact trivial | exact ⟨rfl, rfl, rfl, rfl⟩ | exact ⟨⟨rfl, rfl⟩, rfl, rfl⟩ | exact ⟨rfl, Nat.le_of_ble_eq_true rfl, rfl⟩ | exact Nat.le_of_ble_eq_true rfl | (simp only [Grd.ob, Grd.and, InR, kb, Int.toNat_natCast, ByteArray.size_append, ByteArray.size_extract, Sat.strOf_len, List.length_cons, List.length_nil] <;> omega) | (simp only [Grd.ob, Grd.and, InR, kb, Int.toNat_natCast, ByteArray.size_append, ByteArray.size_extract, Sat.strOf_len, List.length_cons, List.length_nil]; intro h; simp at h; omega) | (refine And.intro (by omega) ?_; simp only [ByteArray.size, List.size_toArray, List.length_cons, List.length_nil]; omega) | kernel_rfl)) ?_)
    | refine Or.inr ?_
    | refine sat_drawH (Tryd.ok ..) (by kernel_rfl) ?_
    | refine Exists.intro [_] (And.intro (one_byte rfl) ?_)
    | refine Exists.intro [_] (And.intro (fun _ => one_byte rfl) ?_)
    | refine Exists.intro _ (And.intro (And.intro rfl rfl) ?_)
    | refine Exists.intro _ (And.intro (fun _ => And.intro rfl rfl) ?_)
    | refine Exists.intro _ (And.intro rfl ?_))
  refine sat_loop (Tryd.ok ..) (α := Nat) (fun k => ([(1, .yes, .v (.int .i64 k))], [])) (fun k => k ≤ 256) (fun k => 256 - k) (fun _ => rfl) ?_ ?_
  · refine ⟨0, Nat.zero_le _, ?_, ?_⟩
    all_goals ((repeat' (first | exact trivial | exact rfl | refine And.intro ?_ ?_)) <;> (try (conv => whnf)) <;> (try simp only [SV.real, SV.r2, SV.r1]))
  intro k hkk
  by_cases hlt : k < 256
  · repeat' ((conv => whnf); first
      | refine walk (Tryd.ok ..) ?_
      | (refine Cnd.mk (fun h => ?_) (fun h => ?_) <;> (first | (exfalso; simp only [decide_eq_true_eq, decide_eq_false_iff_not, Bool.not_eq_true', Bool.not_eq_false'] at h; omega) | simp at h | skip))
      | refine And.intro (Kept.mk ?_) ?_
      | exact trivial
      | refine And.intro (by (first | rfl | (intro h; exact h) | (intro h; exact absurd h Bool.false_ne_true) | omega | exact h | exact congrArg Bool.not h | exact ⟨rfl, rfl⟩ | exact ⟨⟨rfl, rfl⟩, rfl⟩ | exact ⟨⟨rfl, rfl, rfl, rfl⟩, rfl, rfl⟩ | exact trivial | exact ⟨rfl, rfl, rfl, rfl⟩ | exact ⟨⟨rfl, rfl⟩, rfl, rfl⟩ | exact ⟨rfl, Nat.le_of_ble_eq_true rfl, rfl⟩ | exact Nat.le_of_ble_eq_true rfl | (simp only [Grd.ob, Grd.and, InR, kb, Int.toNat_natCast, ByteArray.size_append, ByteArray.size_extract, Sat.strOf_len, List.length_cons, List.length_nil] <;> omega) | (simp only [Grd.ob, Grd.and, InR, kb, Int.toNat_natCast, ByteArray.size_append, ByteArray.size_extract, Sat.strOf_len, List.length_cons, List.length_nil]; intro h; simp at h; omega) | (refine And.intro (by omega) ?_; simp only [ByteArray.size, List.size_toArray, List.length_cons, List.length_nil]; omega) | kernel_rfl)) ?_
      | refine Or.inl (And.intro (by (first | rfl | (intro h; exact h) | (intro h; exact absurd h Bool.false_ne_true) | omega | exact h | exact congrArg Bool.not h | exact ⟨rfl, rfl⟩ | exact ⟨⟨rfl, rfl⟩, rfl⟩ | exact ⟨⟨rfl, rfl, rfl, rfl⟩, rfl, rfl⟩ | exact trivial | exact ⟨rfl, rfl, rfl, rfl⟩ | exact ⟨⟨rfl, rfl⟩, rfl, rfl⟩ | exact ⟨rfl, Nat.le_of_ble_eq_true rfl, rfl⟩ | exact Nat.le_of_ble_eq_true rfl | (simp only [Grd.ob, Grd.and, InR, kb, Int.toNat_natCast, ByteArray.size_append, ByteArray.size_extract, Sat.strOf_len, List.length_cons, List.length_nil] <;> omega) | (simp only [Grd.ob, Grd.and, InR, kb, Int.toNat_natCast, ByteArray.size_append, ByteArray.size_extract, Sat.strOf_len, List.length_cons, List.length_nil]; intro h; simp at h; omega) | (refine And.intro (by omega) ?_; simp only [ByteArray.size, List.size_toArray, List.length_cons, List.length_nil]; omega) | kernel_rfl)) ?_)
      | refine Or.inr ?_
      | refine sat_drawH (Tryd.ok ..) (by kernel_rfl) ?_
      | refine Exists.intro [_] (And.intro (one_byte rfl) ?_)
      | refine Exists.intro [_] (And.intro (fun _ => one_byte rfl) ?_)
      | refine Exists.intro _ (And.intro (And.intro rfl rfl) ?_)
      | refine Exists.intro _ (And.intro (fun _ => And.intro rfl rfl) ?_)
      | refine Exists.intro _ (And.intro rfl ?_))
    refine called_pure (.t [.v (.int .i64 (vI k)), .v (.bool (okB k))]) rfl (fun w' => still (value_any k w' (by omega) (by omega))) ?_
    repeat' ((conv => whnf); first
      | refine walk (Tryd.ok ..) ?_
      | (refine Cnd.mk (fun h => ?_) (fun h => ?_) <;> (first | (exfalso; simp only [decide_eq_true_eq, decide_eq_false_iff_not, Bool.not_eq_true', Bool.not_eq_false'] at h; omega) | simp at h | skip))
      | refine And.intro (Kept.mk ?_) ?_
      | exact trivial
      | refine And.intro (by (first | rfl | (intro h; exact h) | (intro h; exact absurd h Bool.false_ne_true) | omega | exact h | exact congrArg Bool.not h | exact ⟨rfl, rfl⟩ | exact ⟨⟨rfl, rfl⟩, rfl⟩ | exact ⟨⟨rfl, rfl, rfl, rfl⟩, rfl, rfl⟩ | exact trivial | exact ⟨rfl, rfl, rfl, rfl⟩ | exact ⟨⟨rfl, rfl⟩, rfl, rfl⟩ | exact ⟨rfl, Nat.le_of_ble_eq_true rfl, rfl⟩ | exact Nat.le_of_ble_eq_true rfl | (simp only [Grd.ob, Grd.and, InR, kb, Int.toNat_natCast, ByteArray.size_append, ByteArray.size_extract, Sat.strOf_len, List.length_cons, List.length_nil] <;> omega) | (simp only [Grd.ob, Grd.and, InR, kb, Int.toNat_natCast, ByteArray.size_append, ByteArray.size_extract, Sat.strOf_len, List.length_cons, List.length_nil]; intro h; simp at h; omega) | (refine And.intro (by omega) ?_; simp only [ByteArray.size, List.size_toArray, List.length_cons, List.length_nil]; omega) | kernel_rfl)) ?_
      | refine Or.inl (And.intro (by (first | rfl | (intro h; exact h) | (intro h; exact absurd h Bool.false_ne_true) | omega | exact h | exact congrArg Bool.not h | exact ⟨rfl, rfl⟩ | exact ⟨⟨rfl, rfl⟩, rfl⟩ | exact ⟨⟨rfl, rfl, rfl, rfl⟩, rfl, rfl⟩ | exact trivial | exact ⟨rfl, rfl, rfl, rfl⟩ | exact ⟨⟨rfl, rfl⟩, rfl, rfl⟩ | exact ⟨rfl, Nat.le_of_ble_eq_true rfl, rfl⟩ | exact Nat.le_of_ble_eq_true rfl | (simp only [Grd.ob, Grd.and, InR, kb, Int.toNat_natCast, ByteArray.size_append, ByteArray.size_extract, Sat.strOf_len, List.length_cons, List.length_nil] <;> omega) | (simp only [Grd.ob, Grd.and, InR, kb, Int.toNat_natCast, ByteArray.size_append, ByteArray.size_extract, Sat.strOf_len, List.length_cons, List.length_nil]; intro h; simp at h; omega) | (refine And.intro (by omega) ?_; simp only [ByteArray.size, List.size_toArray, List.length_cons, List.length_nil]; omega) | kernel_rfl)) ?_)
      | refine Or.inr ?_
      | refine sat_drawH (Tryd.ok ..) (by kernel_rfl) ?_
      | refine Exists.intro [_] (And.intro (one_byte rfl) ?_)
      | refine Exists.intro [_] (And.intro (fun _ => one_byte rfl) ?_)
      | refine Exists.intro _ (And.intro (And.intro rfl rfl) ?_)
      | refine Exists.intro _ (And.intro (fun _ => And.intro rfl rfl) ?_)
      | refine Exists.intro _ (And.intro rfl ?_))
    refine called_pure (.t [.v (.int .i64 (vI k)), .v (.bool (okB k))]) rfl (fun w' => still (rvalue_any k w' (by omega) (by omega))) ?_
    repeat' ((conv => whnf); first
      | refine walk (Tryd.ok ..) ?_
      | (refine Cnd.mk (fun h => ?_) (fun h => ?_) <;> (first | (exfalso; simp only [decide_eq_true_eq, decide_eq_false_iff_not, Bool.not_eq_true', Bool.not_eq_false'] at h; omega) | simp at h | skip))
      | refine And.intro (Kept.mk ?_) ?_
      | exact trivial
      | refine And.intro (by (first | rfl | (intro h; exact h) | (intro h; exact absurd h Bool.false_ne_true) | omega | exact h | exact congrArg Bool.not h | exact ⟨rfl, rfl⟩ | exact ⟨⟨rfl, rfl⟩, rfl⟩ | exact ⟨⟨rfl, rfl, rfl, rfl⟩, rfl, rfl⟩ | exact trivial | exact ⟨rfl, rfl, rfl, rfl⟩ | exact ⟨⟨rfl, rfl⟩, rfl, rfl⟩ | exact ⟨rfl, Nat.le_of_ble_eq_true rfl, rfl⟩ | exact Nat.le_of_ble_eq_true rfl | (simp only [Grd.ob, Grd.and, InR, kb, Int.toNat_natCast, ByteArray.size_append, ByteArray.size_extract, Sat.strOf_len, List.length_cons, List.length_nil] <;> omega) | (simp only [Grd.ob, Grd.and, InR, kb, Int.toNat_natCast, ByteArray.size_append, ByteArray.size_extract, Sat.strOf_len, List.length_cons, List.length_nil]; intro h; simp at h; omega) | (refine And.intro (by omega) ?_; simp only [ByteArray.size, List.size_toArray, List.length_cons, List.length_nil]; omega) | kernel_rfl)) ?_
      | refine Or.inl (And.intro (by (first | rfl | (intro h; exact h) | (intro h; exact absurd h Bool.false_ne_true) | omega | exact h | exact congrArg Bool.not h | exact ⟨rfl, rfl⟩ | exact ⟨⟨rfl, rfl⟩, rfl⟩ | exact ⟨⟨rfl, rfl, rfl, rfl⟩, rfl, rfl⟩ | exact trivial | exact ⟨rfl, rfl, rfl, rfl⟩ | exact ⟨⟨rfl, rfl⟩, rfl, rfl⟩ | exact ⟨rfl, Nat.le_of_ble_eq_true rfl, rfl⟩ | exact Nat.le_of_ble_eq_true rfl | (simp only [Grd.ob, Grd.and, InR, kb, Int.toNat_natCast, ByteArray.size_append, ByteArray.size_extract, Sat.strOf_len, List.length_cons, List.length_nil] <;> omega) | (simp only [Grd.ob, Grd.and, InR, kb, Int.toNat_natCast, ByteArray.size_append, ByteArray.size_extract, Sat.strOf_len, List.length_cons, List.length_nil]; intro h; simp at h; omega) | (refine And.intro (by omega) ?_; simp only [ByteArray.size, List.size_toArray, List.length_cons, List.length_nil]; omega) | kernel_rfl)) ?_)
      | refine Or.inr ?_
      | refine sat_drawH (Tryd.ok ..) (by kernel_rfl) ?_
      | refine Exists.intro [_] (And.intro (one_byte rfl) ?_)
      | refine Exists.intro [_] (And.intro (fun _ => one_byte rfl) ?_)
      | refine Exists.intro _ (And.intro (And.intro rfl rfl) ?_)
      | refine Exists.intro _ (And.intro (fun _ => And.intro rfl rfl) ?_)
      | refine Exists.intro _ (And.intro rfl ?_))
    refine calledQ_at (.v (.bool true)) rfl (fun _ w' hw => coded_any _ _ _ w' b o c (hk.below (below_of rfl rfl hw))) ?_
    repeat' ((conv => whnf); first
      | refine walk (Tryd.ok ..) ?_
      | (refine Cnd.mk (fun h => ?_) (fun h => ?_) <;> (first | (exfalso; simp only [decide_eq_true_eq, decide_eq_false_iff_not, Bool.not_eq_true', Bool.not_eq_false'] at h; omega) | simp at h | skip))
      | refine And.intro (Kept.mk ?_) ?_
      | exact trivial
      | refine And.intro (by (first | rfl | (intro h; exact h) | (intro h; exact absurd h Bool.false_ne_true) | omega | exact h | exact congrArg Bool.not h | exact ⟨rfl, rfl⟩ | exact ⟨⟨rfl, rfl⟩, rfl⟩ | exact ⟨⟨rfl, rfl, rfl, rfl⟩, rfl, rfl⟩ | exact trivial | exact ⟨rfl, rfl, rfl, rfl⟩ | exact ⟨⟨rfl, rfl⟩, rfl, rfl⟩ | exact ⟨rfl, Nat.le_of_ble_eq_true rfl, rfl⟩ | exact Nat.le_of_ble_eq_true rfl | (simp only [Grd.ob, Grd.and, InR, kb, Int.toNat_natCast, ByteArray.size_append, ByteArray.size_extract, Sat.strOf_len, List.length_cons, List.length_nil] <;> omega) | (simp only [Grd.ob, Grd.and, InR, kb, Int.toNat_natCast, ByteArray.size_append, ByteArray.size_extract, Sat.strOf_len, List.length_cons, List.length_nil]; intro h; simp at h; omega) | (refine And.intro (by omega) ?_; simp only [ByteArray.size, List.size_toArray, List.length_cons, List.length_nil]; omega) | kernel_rfl)) ?_
      | refine Or.inl (And.intro (by (first | rfl | (intro h; exact h) | (intro h; exact absurd h Bool.false_ne_true) | omega | exact h | exact congrArg Bool.not h | exact ⟨rfl, rfl⟩ | exact ⟨⟨rfl, rfl⟩, rfl⟩ | exact ⟨⟨rfl, rfl, rfl, rfl⟩, rfl, rfl⟩ | exact trivial | exact ⟨rfl, rfl, rfl, rfl⟩ | exact ⟨⟨rfl, rfl⟩, rfl, rfl⟩ | exact ⟨rfl, Nat.le_of_ble_eq_true rfl, rfl⟩ | exact Nat.le_of_ble_eq_true rfl | (simp only [Grd.ob, Grd.and, InR, kb, Int.toNat_natCast, ByteArray.size_append, ByteArray.size_extract, Sat.strOf_len, List.length_cons, List.length_nil] <;> omega) | (simp only [Grd.ob, Grd.and, InR, kb, Int.toNat_natCast, ByteArray.size_append, ByteArray.size_extract, Sat.strOf_len, List.length_cons, List.length_nil]; intro h; simp at h; omega) | (refine And.intro (by omega) ?_; simp only [ByteArray.size, List.size_toArray, List.length_cons, List.length_nil]; omega) | kernel_rfl)) ?_)
      | refine Or.inr ?_
      | refine sat_drawH (Tryd.ok ..) (by kernel_rfl) ?_
      | refine Exists.intro [_] (And.intro (one_byte rfl) ?_)
      | refine Exists.intro [_] (And.intro (fun _ => one_byte rfl) ?_)
      | refine Exists.intro _ (And.intro (And.intro rfl rfl) ?_)
      | refine Exists.intro _ (And.intro (fun _ => And.intro rfl rfl) ?_)
      | refine Exists.intro _ (And.intro rfl ?_))
    refine calledQ_at (.v (.bool true)) rfl (fun _ w' hw => coded_any _ _ _ w' b o c (hk.below (below_of rfl rfl hw))) ?_
    repeat' ((conv => whnf); first
      | refine walk (Tryd.ok ..) ?_
      | (refine Cnd.mk (fun h => ?_) (fun h => ?_) <;> (first | (exfalso; simp only [decide_eq_true_eq, decide_eq_false_iff_not, Bool.not_eq_true', Bool.not_eq_false'] at h; omega) | simp at h | skip))
      | refine And.intro (Kept.mk ?_) ?_
      | exact trivial
      | refine And.intro (by (first | rfl | (intro h; exact h) | (intro h; exact absurd h Bool.false_ne_true) | omega | exact h | exact congrArg Bool.not h | exact ⟨rfl, rfl⟩ | exact ⟨⟨rfl, rfl⟩, rfl⟩ | exact ⟨⟨rfl, rfl, rfl, rfl⟩, rfl, rfl⟩ | exact trivial | exact ⟨rfl, rfl, rfl, rfl⟩ | exact ⟨⟨rfl, rfl⟩, rfl, rfl⟩ | exact ⟨rfl, Nat.le_of_ble_eq_true rfl, rfl⟩ | exact Nat.le_of_ble_eq_true rfl | (simp only [Grd.ob, Grd.and, InR, kb, Int.toNat_natCast, ByteArray.size_append, ByteArray.size_extract, Sat.strOf_len, List.length_cons, List.length_nil] <;> omega) | (simp only [Grd.ob, Grd.and, InR, kb, Int.toNat_natCast, ByteArray.size_append, ByteArray.size_extract, Sat.strOf_len, List.length_cons, List.length_nil]; intro h; simp at h; omega) | (refine And.intro (by omega) ?_; simp only [ByteArray.size, List.size_toArray, List.length_cons, List.length_nil]; omega) | kernel_rfl)) ?_
      | refine Or.inl (And.intro (by (first | rfl | (intro h; exact h) | (intro h; exact absurd h Bool.false_ne_true) | omega | exact h | exact congrArg Bool.not h | exact ⟨rfl, rfl⟩ | exact ⟨⟨rfl, rfl⟩, rfl⟩ | exact ⟨⟨rfl, rfl, rfl, rfl⟩, rfl, rfl⟩ | exact trivial | exact ⟨rfl, rfl, rfl, rfl⟩ | exact ⟨⟨rfl, rfl⟩, rfl, rfl⟩ | exact ⟨rfl, Nat.le_of_ble_eq_true rfl, rfl⟩ | exact Nat.le_of_ble_eq_true rfl | (simp only [Grd.ob, Grd.and, InR, kb, Int.toNat_natCast, ByteArray.size_append, ByteArray.size_extract, Sat.strOf_len, List.length_cons, List.length_nil] <;> omega) | (simp only [Grd.ob, Grd.and, InR, kb, Int.toNat_natCast, ByteArray.size_append, ByteArray.size_extract, Sat.strOf_len, List.length_cons, List.length_nil]; intro h; simp at h; omega) | (refine And.intro (by omega) ?_; simp only [ByteArray.size, List.size_toArray, List.length_cons, List.length_nil]; omega) | kernel_rfl)) ?_)
      | refine Or.inr ?_
      | refine sat_drawH (Tryd.ok ..) (by kernel_rfl) ?_
      | refine Exists.intro [_] (And.intro (one_byte rfl) ?_)
      | refine Exists.intro [_] (And.intro (fun _ => one_byte rfl) ?_)
      | refine Exists.intro _ (And.intro (And.intro rfl rfl) ?_)
      | refine Exists.intro _ (And.intro (fun _ => And.intro rfl rfl) ?_)
      | refine Exists.intro _ (And.intro rfl ?_))
    refine calledQ_at (.v (.bool true)) rfl (fun _ w' hw => coded_any _ _ _ w' b o c (hk.below (below_of rfl rfl hw))) ?_
    repeat' ((conv => whnf); first
      | refine walk (Tryd.ok ..) ?_
      | (refine Cnd.mk (fun h => ?_) (fun h => ?_) <;> (first | (exfalso; simp only [decide_eq_true_eq, decide_eq_false_iff_not, Bool.not_eq_true', Bool.not_eq_false'] at h; omega) | simp at h | skip))
      | refine And.intro (Kept.mk ?_) ?_
      | exact trivial
      | refine And.intro (by (first | rfl | (intro h; exact h) | (intro h; exact absurd h Bool.false_ne_true) | omega | exact h | exact congrArg Bool.not h | exact ⟨rfl, rfl⟩ | exact ⟨⟨rfl, rfl⟩, rfl⟩ | exact ⟨⟨rfl, rfl, rfl, rfl⟩, rfl, rfl⟩ | exact trivial | exact ⟨rfl, rfl, rfl, rfl⟩ | exact ⟨⟨rfl, rfl⟩, rfl, rfl⟩ | exact ⟨rfl, Nat.le_of_ble_eq_true rfl, rfl⟩ | exact Nat.le_of_ble_eq_true rfl | (simp only [Grd.ob, Grd.and, InR, kb, Int.toNat_natCast, ByteArray.size_append, ByteArray.size_extract, Sat.strOf_len, List.length_cons, List.length_nil] <;> omega) | (simp only [Grd.ob, Grd.and, InR, kb, Int.toNat_natCast, ByteArray.size_append, ByteArray.size_extract, Sat.strOf_len, List.length_cons, List.length_nil]; intro h; simp at h; omega) | (refine And.intro (by omega) ?_; simp only [ByteArray.size, List.size_toArray, List.length_cons, List.length_nil]; omega) | kernel_rfl)) ?_
      | refine Or.inl (And.intro (by (first | rfl | (intro h; exact h) | (intro h; exact absurd h Bool.false_ne_true) | omega | exact h | exact congrArg Bool.not h | exact ⟨rfl, rfl⟩ | exact ⟨⟨rfl, rfl⟩, rfl⟩ | exact ⟨⟨rfl, rfl, rfl, rfl⟩, rfl, rfl⟩ | exact trivial | exact ⟨rfl, rfl, rfl, rfl⟩ | exact ⟨⟨rfl, rfl⟩, rfl, rfl⟩ | exact ⟨rfl, Nat.le_of_ble_eq_true rfl, rfl⟩ | exact Nat.le_of_ble_eq_true rfl | (simp only [Grd.ob, Grd.and, InR, kb, Int.toNat_natCast, ByteArray.size_append, ByteArray.size_extract, Sat.strOf_len, List.length_cons, List.length_nil] <;> omega) | (simp only [Grd.ob, Grd.and, InR, kb, Int.toNat_natCast, ByteArray.size_append, ByteArray.size_extract, Sat.strOf_len, List.length_cons, List.length_nil]; intro h; simp at h; omega) | (refine And.intro (by omega) ?_; simp only [ByteArray.size, List.size_toArray, List.length_cons, List.length_nil]; omega) | kernel_rfl)) ?_)
      | refine Or.inr ?_
      | refine sat_drawH (Tryd.ok ..) (by kernel_rfl) ?_
      | refine Exists.intro [_] (And.intro (one_byte rfl) ?_)
      | refine Exists.intro [_] (And.intro (fun _ => one_byte rfl) ?_)
      | refine Exists.intro _ (And.intro (And.intro rfl rfl) ?_)
      | refine Exists.intro _ (And.intro (fun _ => And.intro rfl rfl) ?_)
      | refine Exists.intro _ (And.intro rfl ?_))
    refine ⟨k + 1, ⟨by omega, by omega⟩, ?_, ?_⟩
    all_goals ((repeat' (first | exact trivial | exact rfl | refine And.intro ?_ ?_)) <;> (try (conv => whnf)) <;> (try simp only [SV.real, SV.r2, SV.r1]))
  obtain rfl : k = 256 := by omega
  clear hkk hlt
  repeat' ((conv => whnf); first
    | refine walk (Tryd.ok ..) ?_
    | (refine Cnd.mk (fun h => ?_) (fun h => ?_) <;> (first | (exfalso; simp only [decide_eq_true_eq, decide_eq_false_iff_not, Bool.not_eq_true', Bool.not_eq_false'] at h; omega) | simp at h | skip))
    | refine And.intro (Kept.mk ?_) ?_
    | exact trivial
    | refine And.intro (by (first | rfl | (intro h; exact h) | (intro h; exact absurd h Bool.false_ne_true) | omega | exact h | exact congrArg Bool.not h | exact ⟨rfl, rfl⟩ | exact ⟨⟨rfl, rfl⟩, rfl⟩ | exact ⟨⟨rfl, rfl, rfl, rfl⟩, rfl, rfl⟩ | exact trivial | exact ⟨rfl, rfl, rfl, rfl⟩ | exact ⟨⟨rfl, rfl⟩, rfl, rfl⟩ | exact ⟨rfl, Nat.le_of_ble_eq_true rfl, rfl⟩ | exact Nat.le_of_ble_eq_true rfl | (simp only [Grd.ob, Grd.and, InR, kb, Int.toNat_natCast, ByteArray.size_append, ByteArray.size_extract, Sat.strOf_len, List.length_cons, List.length_nil] <;> omega) | (simp only [Grd.ob, Grd.and, InR, kb, Int.toNat_natCast, ByteArray.size_append, ByteArray.size_extract, Sat.strOf_len, List.length_cons, List.length_nil]; intro h; simp at h; omega) | (refine And.intro (by omega) ?_; simp only [ByteArray.size, List.size_toArray, List.length_cons, List.length_nil]; omega) | kernel_rfl)) ?_
    | refine Or.inl (And.intro (by (first | rfl | (intro h; exact h) | (intro h; exact absurd h Bool.false_ne_true) | omega | exact h | exact congrArg Bool.not h | exact ⟨rfl, rfl⟩ | exact ⟨⟨rfl, rfl⟩, rfl⟩ | exact ⟨⟨rfl, rfl, rfl, rfl⟩, rfl, rfl⟩ | exact trivial | exact ⟨rfl, rfl, rfl, rfl⟩ | exact ⟨⟨rfl, rfl⟩, rfl, rfl⟩ | exact ⟨rfl, Nat.le_of_ble_eq_true rfl, rfl⟩ | exact Nat.le_of_ble_eq_true rfl | (simp only [Grd.ob, Grd.and, InR, kb, Int.toNat_natCast, ByteArray.size_append, ByteArray.size_extract, Sat.strOf_len, List.length_cons, List.length_nil] <;> omega) | (simp only [Grd.ob, Grd.and, InR, kb, Int.toNat_natCast, ByteArray.size_append, ByteArray.size_extract, Sat.strOf_len, List.length_cons, List.length_nil]; intro h; simp at h; omega) | (refine And.intro (by omega) ?_; simp only [ByteArray.size, List.size_toArray, List.length_cons, List.length_nil]; omega) | kernel_rfl)) ?_)
    | refine Or.inr ?_
    | refine sat_drawH (Tryd.ok ..) (by kernel_rfl) ?_
    | refine Exists.intro [_] (And.intro (one_byte rfl) ?_)
    | refine Exists.intro [_] (And.intro (fun _ => one_byte rfl) ?_)
    | refine Exists.intro _ (And.intro (And.intro rfl rfl) ?_)
    | refine Exists.intro _ (And.intro (fun _ => And.intro rfl rfl) ?_)
    | refine Exists.intro _ (And.intro rfl ?_))
  intro g hg
  repeat' ((conv => whnf); first
    | refine walk (Tryd.ok ..) ?_
    | (refine Cnd.mk (fun h => ?_) (fun h => ?_) <;> (first | (exfalso; simp only [decide_eq_true_eq, decide_eq_false_iff_not, Bool.not_eq_true', Bool.not_eq_false'] at h; omega) | simp at h | skip))
    | refine And.intro (Kept.mk ?_) ?_
    | exact trivial
    | refine And.intro (by (first | rfl | (intro h; exact h) | (intro h; exact absurd h Bool.false_ne_true) | omega | exact h | exact congrArg Bool.not h | exact ⟨rfl, rfl⟩ | exact ⟨⟨rfl, rfl⟩, rfl⟩ | exact ⟨⟨rfl, rfl, rfl, rfl⟩, rfl, rfl⟩ | exact trivial | exact ⟨rfl, rfl, rfl, rfl⟩ | exact ⟨⟨rfl, rfl⟩, rfl, rfl⟩ | exact ⟨rfl, Nat.le_of_ble_eq_true rfl, rfl⟩ | exact Nat.le_of_ble_eq_true rfl | (simp only [Grd.ob, Grd.and, InR, kb, Int.toNat_natCast, ByteArray.size_append, ByteArray.size_extract, Sat.strOf_len, List.length_cons, List.length_nil] <;> omega) | (simp only [Grd.ob, Grd.and, InR, kb, Int.toNat_natCast, ByteArray.size_append, ByteArray.size_extract, Sat.strOf_len, List.length_cons, List.length_nil]; intro h; simp at h; omega) | (refine And.intro (by omega) ?_; simp only [ByteArray.size, List.size_toArray, List.length_cons, List.length_nil]; omega) | kernel_rfl)) ?_
    | refine Or.inl (And.intro (by (first | rfl | (intro h; exact h) | (intro h; exact absurd h Bool.false_ne_true) | omega | exact h | exact congrArg Bool.not h | exact ⟨rfl, rfl⟩ | exact ⟨⟨rfl, rfl⟩, rfl⟩ | exact ⟨⟨rfl, rfl, rfl, rfl⟩, rfl, rfl⟩ | exact trivial | exact ⟨rfl, rfl, rfl, rfl⟩ | exact ⟨⟨rfl, rfl⟩, rfl, rfl⟩ | exact ⟨rfl, Nat.le_of_ble_eq_true rfl, rfl⟩ | exact Nat.le_of_ble_eq_true rfl | (simp only [Grd.ob, Grd.and, InR, kb, Int.toNat_natCast, ByteArray.size_append, ByteArray.size_extract, Sat.strOf_len, List.length_cons, List.length_nil] <;> omega) | (simp only [Grd.ob, Grd.and, InR, kb, Int.toNat_natCast, ByteArray.size_append, ByteArray.size_extract, Sat.strOf_len, List.length_cons, List.length_nil]; intro h; simp at h; omega) | (refine And.intro (by omega) ?_; simp only [ByteArray.size, List.size_toArray, List.length_cons, List.length_nil]; omega) | kernel_rfl)) ?_)
    | refine Or.inr ?_
    | refine sat_drawH (Tryd.ok ..) (by kernel_rfl) ?_
    | refine Exists.intro [_] (And.intro (one_byte rfl) ?_)
    | refine Exists.intro [_] (And.intro (fun _ => one_byte rfl) ?_)
    | refine Exists.intro _ (And.intro (And.intro rfl rfl) ?_)
    | refine Exists.intro _ (And.intro (fun _ => And.intro rfl rfl) ?_)
    | refine Exists.intro _ (And.intro rfl ?_))
  refine sat_loop (Tryd.ok ..) (α := Nat) (fun k => ([(63, .yes, .s 63 g 0 0 5 5), (64, .yes, .v (.int .i64 5)), (65, .yes, .v (.int .i64 k))], [(63, .blk g 9 five)])) (fun k => k ≤ 5) (fun k => 5 - k) (fun _ => rfl) ?_ ?_
  · refine ⟨0, Nat.zero_le _, ?_, ?_⟩
    all_goals ((repeat' (first | exact trivial | exact rfl | refine And.intro ?_ ?_)) <;> (try (conv => whnf)) <;> (try simp only [SV.real, SV.r2, SV.r1]))
  intro k hkk
  by_cases hlt : k < 5
  · obtain ⟨s, hf, hz⟩ := five_get hlt
    repeat' ((conv => whnf); first
      | refine walk (Tryd.ok ..) ?_
      | (refine Cnd.mk (fun h => ?_) (fun h => ?_) <;> (first | (exfalso; simp only [decide_eq_true_eq, decide_eq_false_iff_not, Bool.not_eq_true', Bool.not_eq_false'] at h; omega) | simp at h | skip))
      | refine And.intro (Kept.mk ?_) ?_
      | exact trivial
      | refine And.intro (by (first | rfl | (intro h; exact h) | (intro h; exact absurd h Bool.false_ne_true) | omega | exact h | exact congrArg Bool.not h | exact ⟨rfl, rfl⟩ | exact ⟨⟨rfl, rfl⟩, rfl⟩ | exact ⟨⟨rfl, rfl, rfl, rfl⟩, rfl, rfl⟩ | exact trivial | exact ⟨rfl, rfl, rfl, rfl⟩ | exact ⟨⟨rfl, rfl⟩, rfl, rfl⟩ | exact ⟨rfl, Nat.le_of_ble_eq_true rfl, rfl⟩ | exact Nat.le_of_ble_eq_true rfl | (simp only [Grd.ob, Grd.and, InR, kb, Int.toNat_natCast, ByteArray.size_append, ByteArray.size_extract, Sat.strOf_len, List.length_cons, List.length_nil] <;> omega) | (simp only [Grd.ob, Grd.and, InR, kb, Int.toNat_natCast, ByteArray.size_append, ByteArray.size_extract, Sat.strOf_len, List.length_cons, List.length_nil]; intro h; simp at h; omega) | (refine And.intro (by omega) ?_; simp only [ByteArray.size, List.size_toArray, List.length_cons, List.length_nil]; omega) | kernel_rfl)) ?_
      | refine Or.inl (And.intro (by (first | rfl | (intro h; exact h) | (intro h; exact absurd h Bool.false_ne_true) | omega | exact h | exact congrArg Bool.not h | exact ⟨rfl, rfl⟩ | exact ⟨⟨rfl, rfl⟩, rfl⟩ | exact ⟨⟨rfl, rfl, rfl, rfl⟩, rfl, rfl⟩ | exact trivial | exact ⟨rfl, rfl, rfl, rfl⟩ | exact ⟨⟨rfl, rfl⟩, rfl, rfl⟩ | exact ⟨rfl, Nat.le_of_ble_eq_true rfl, rfl⟩ | exact Nat.le_of_ble_eq_true rfl | (simp only [Grd.ob, Grd.and, InR, kb, Int.toNat_natCast, ByteArray.size_append, ByteArray.size_extract, Sat.strOf_len, List.length_cons, List.length_nil] <;> omega) | (simp only [Grd.ob, Grd.and, InR, kb, Int.toNat_natCast, ByteArray.size_append, ByteArray.size_extract, Sat.strOf_len, List.length_cons, List.length_nil]; intro h; simp at h; omega) | (refine And.intro (by omega) ?_; simp only [ByteArray.size, List.size_toArray, List.length_cons, List.length_nil]; omega) | kernel_rfl)) ?_)
      | refine Or.inr ?_
      | refine sat_drawH (Tryd.ok ..) (by kernel_rfl) ?_
      | refine Exists.intro [_] (And.intro (one_byte rfl) ?_)
      | refine Exists.intro [_] (And.intro (fun _ => one_byte rfl) ?_)
      | refine Exists.intro _ (And.intro (And.intro rfl rfl) ?_)
      | refine Exists.intro _ (And.intro (fun _ => And.intro rfl rfl) ?_)
      | refine Exists.intro _ (And.intro rfl ?_)
      | refine Exists.intro _ (And.intro (fun _ => hf) ?_)
      | refine Exists.intro _ (And.intro hf ?_))
    refine sat_loop (Tryd.ok ..) (α := Nat) (fun i => ([(63, .yes, .s 63 g 0 0 5 5), (64, .yes, .v (.int .i64 5)), (65, .yes, .v (.int .i64 k)), (7, .yes, .v (.string s)), (8, .yes, .v (.int .i64 i))], [(63, .blk g 9 five)])) (fun k => k ≤ 11) (fun k => 11 - k) (fun _ => rfl) ?_ ?_
    · refine ⟨0, Nat.zero_le _, ?_, ?_⟩
      all_goals ((repeat' (first | exact trivial | exact rfl | refine And.intro ?_ ?_)) <;> (try (conv => whnf)) <;> (try simp only [SV.real, SV.r2, SV.r1]))
    intro i hii
    by_cases hil : i < 11
    · repeat' ((conv => whnf); first
        | refine walk (Tryd.ok ..) ?_
        | (refine Cnd.mk (fun h => ?_) (fun h => ?_) <;> (first | (exfalso; simp only [decide_eq_true_eq, decide_eq_false_iff_not, Bool.not_eq_true', Bool.not_eq_false'] at h; omega) | simp at h | skip))
        | refine And.intro (Kept.mk ?_) ?_
        | exact trivial
        | refine And.intro (by (first | rfl | (intro h; exact h) | (intro h; exact absurd h Bool.false_ne_true) | omega | exact h | exact congrArg Bool.not h | exact ⟨rfl, rfl⟩ | exact ⟨⟨rfl, rfl⟩, rfl⟩ | exact ⟨⟨rfl, rfl, rfl, rfl⟩, rfl, rfl⟩ | exact trivial | exact ⟨rfl, rfl, rfl, rfl⟩ | exact ⟨⟨rfl, rfl⟩, rfl, rfl⟩ | exact ⟨rfl, Nat.le_of_ble_eq_true rfl, rfl⟩ | exact Nat.le_of_ble_eq_true rfl | (simp only [Grd.ob, Grd.and, InR, kb, Int.toNat_natCast, ByteArray.size_append, ByteArray.size_extract, Sat.strOf_len, List.length_cons, List.length_nil] <;> omega) | (simp only [Grd.ob, Grd.and, InR, kb, Int.toNat_natCast, ByteArray.size_append, ByteArray.size_extract, Sat.strOf_len, List.length_cons, List.length_nil]; intro h; simp at h; omega) | (refine And.intro (by omega) ?_; simp only [ByteArray.size, List.size_toArray, List.length_cons, List.length_nil]; omega) | kernel_rfl)) ?_
        | refine Or.inl (And.intro (by (first | rfl | (intro h; exact h) | (intro h; exact absurd h Bool.false_ne_true) | omega | exact h | exact congrArg Bool.not h | exact ⟨rfl, rfl⟩ | exact ⟨⟨rfl, rfl⟩, rfl⟩ | exact ⟨⟨rfl, rfl, rfl, rfl⟩, rfl, rfl⟩ | exact trivial | exact ⟨rfl, rfl, rfl, rfl⟩ | exact ⟨⟨rfl, rfl⟩, rfl, rfl⟩ | exact ⟨rfl, Nat.le_of_ble_eq_true rfl, rfl⟩ | exact Nat.le_of_ble_eq_true rfl | (simp only [Grd.ob, Grd.and, InR, kb, Int.toNat_natCast, ByteArray.size_append, ByteArray.size_extract, Sat.strOf_len, List.length_cons, List.length_nil] <;> omega) | (simp only [Grd.ob, Grd.and, InR, kb, Int.toNat_natCast, ByteArray.size_append, ByteArray.size_extract, Sat.strOf_len, List.length_cons, List.length_nil]; intro h; simp at h; omega) | (refine And.intro (by omega) ?_; simp only [ByteArray.size, List.size_toArray, List.length_cons, List.length_nil]; omega) | kernel_rfl)) ?_)
        | refine Or.inr ?_
        | refine sat_drawH (Tryd.ok ..) (by kernel_rfl) ?_
        | refine Exists.intro [_] (And.intro (one_byte rfl) ?_)
        | refine Exists.intro [_] (And.intro (fun _ => one_byte rfl) ?_)
        | refine Exists.intro _ (And.intro (And.intro rfl rfl) ?_)
        | refine Exists.intro _ (And.intro (fun _ => And.intro rfl rfl) ?_)
        | refine Exists.intro _ (And.intro rfl ?_))
      refine sat_loop (Tryd.ok ..) (α := Nat) (fun x => ([(63, .yes, .s 63 g 0 0 5 5), (64, .yes, .v (.int .i64 5)), (65, .yes, .v (.int .i64 k)), (7, .yes, .v (.string s)), (8, .yes, .v (.int .i64 i)), (9, .yes, .v (.int .i64 x))], [(63, .blk g 9 five)])) (fun k => k ≤ 256) (fun k => 256 - k) (fun _ => rfl) ?_ ?_
      · refine ⟨0, Nat.zero_le _, ?_, ?_⟩
        all_goals ((repeat' (first | exact trivial | exact rfl | refine And.intro ?_ ?_)) <;> (try (conv => whnf)) <;> (try simp only [SV.real, SV.r2, SV.r1]))
      · intro x hxx
        by_cases hxl : x < 256
        · repeat' ((conv => whnf); first
            | refine walk (Tryd.ok ..) ?_
            | (refine Cnd.mk (fun h => ?_) (fun h => ?_) <;> (first | (exfalso; simp only [decide_eq_true_eq, decide_eq_false_iff_not, Bool.not_eq_true', Bool.not_eq_false'] at h; omega) | simp at h | skip))
            | refine And.intro (Kept.mk ?_) ?_
            | exact trivial
            | refine And.intro (by (first | rfl | (intro h; exact h) | (intro h; exact absurd h Bool.false_ne_true) | omega | exact h | exact congrArg Bool.not h | exact ⟨rfl, rfl⟩ | exact ⟨⟨rfl, rfl⟩, rfl⟩ | exact ⟨⟨rfl, rfl, rfl, rfl⟩, rfl, rfl⟩ | exact trivial | exact ⟨rfl, rfl, rfl, rfl⟩ | exact ⟨⟨rfl, rfl⟩, rfl, rfl⟩ | exact ⟨rfl, Nat.le_of_ble_eq_true rfl, rfl⟩ | exact Nat.le_of_ble_eq_true rfl | (simp only [Grd.ob, Grd.and, InR, kb, Int.toNat_natCast, ByteArray.size_append, ByteArray.size_extract, Sat.strOf_len, List.length_cons, List.length_nil] <;> omega) | (simp only [Grd.ob, Grd.and, InR, kb, Int.toNat_natCast, ByteArray.size_append, ByteArray.size_extract, Sat.strOf_len, List.length_cons, List.length_nil]; intro h; simp at h; omega) | (refine And.intro (by omega) ?_; simp only [ByteArray.size, List.size_toArray, List.length_cons, List.length_nil]; omega) | kernel_rfl)) ?_
            | refine Or.inl (And.intro (by (first | rfl | (intro h; exact h) | (intro h; exact absurd h Bool.false_ne_true) | omega | exact h | exact congrArg Bool.not h | exact ⟨rfl, rfl⟩ | exact ⟨⟨rfl, rfl⟩, rfl⟩ | exact ⟨⟨rfl, rfl, rfl, rfl⟩, rfl, rfl⟩ | exact trivial | exact ⟨rfl, rfl, rfl, rfl⟩ | exact ⟨⟨rfl, rfl⟩, rfl, rfl⟩ | exact ⟨rfl, Nat.le_of_ble_eq_true rfl, rfl⟩ | exact Nat.le_of_ble_eq_true rfl | (simp only [Grd.ob, Grd.and, InR, kb, Int.toNat_natCast, ByteArray.size_append, ByteArray.size_extract, Sat.strOf_len, List.length_cons, List.length_nil] <;> omega) | (simp only [Grd.ob, Grd.and, InR, kb, Int.toNat_natCast, ByteArray.size_append, ByteArray.size_extract, Sat.strOf_len, List.length_cons, List.length_nil]; intro h; simp at h; omega) | (refine And.intro (by omega) ?_; simp only [ByteArray.size, List.size_toArray, List.length_cons, List.length_nil]; omega) | kernel_rfl)) ?_)
            | refine Or.inr ?_
            | refine sat_drawH (Tryd.ok ..) (by kernel_rfl) ?_
            | refine Exists.intro [_] (And.intro (one_byte rfl) ?_)
            | refine Exists.intro [_] (And.intro (fun _ => one_byte rfl) ?_)
            | refine Exists.intro _ (And.intro (And.intro rfl rfl) ?_)
            | refine Exists.intro _ (And.intro (fun _ => And.intro rfl rfl) ?_)
            | refine Exists.intro _ (And.intro rfl ?_))
          intro g2 hg2
          repeat' ((conv => whnf); first
            | refine walk (Tryd.ok ..) ?_
            | (refine Cnd.mk (fun h => ?_) (fun h => ?_) <;> (first | (exfalso; simp only [decide_eq_true_eq, decide_eq_false_iff_not, Bool.not_eq_true', Bool.not_eq_false'] at h; omega) | simp at h | skip))
            | refine And.intro (Kept.mk ?_) ?_
            | exact trivial
            | refine And.intro (by (first | rfl | (intro h; exact h) | (intro h; exact absurd h Bool.false_ne_true) | omega | exact h | exact congrArg Bool.not h | exact ⟨rfl, rfl⟩ | exact ⟨⟨rfl, rfl⟩, rfl⟩ | exact ⟨⟨rfl, rfl, rfl, rfl⟩, rfl, rfl⟩ | exact trivial | exact ⟨rfl, rfl, rfl, rfl⟩ | exact ⟨⟨rfl, rfl⟩, rfl, rfl⟩ | exact ⟨rfl, Nat.le_of_ble_eq_true rfl, rfl⟩ | exact Nat.le_of_ble_eq_true rfl | (simp only [Grd.ob, Grd.and, InR, kb, Int.toNat_natCast, ByteArray.size_append, ByteArray.size_extract, Sat.strOf_len, List.length_cons, List.length_nil] <;> omega) | (simp only [Grd.ob, Grd.and, InR, kb, Int.toNat_natCast, ByteArray.size_append, ByteArray.size_extract, Sat.strOf_len, List.length_cons, List.length_nil]; intro h; simp at h; omega) | (refine And.intro (by omega) ?_; simp only [ByteArray.size, List.size_toArray, List.length_cons, List.length_nil]; omega) | kernel_rfl)) ?_
            | refine Or.inl (And.intro (by (first | rfl | (intro h; exact h) | (intro h; exact absurd h Bool.false_ne_true) | omega | exact h | exact congrArg Bool.not h | exact ⟨rfl, rfl⟩ | exact ⟨⟨rfl, rfl⟩, rfl⟩ | exact ⟨⟨rfl, rfl, rfl, rfl⟩, rfl, rfl⟩ | exact trivial | exact ⟨rfl, rfl, rfl, rfl⟩ | exact ⟨⟨rfl, rfl⟩, rfl, rfl⟩ | exact ⟨rfl, Nat.le_of_ble_eq_true rfl, rfl⟩ | exact Nat.le_of_ble_eq_true rfl | (simp only [Grd.ob, Grd.and, InR, kb, Int.toNat_natCast, ByteArray.size_append, ByteArray.size_extract, Sat.strOf_len, List.length_cons, List.length_nil] <;> omega) | (simp only [Grd.ob, Grd.and, InR, kb, Int.toNat_natCast, ByteArray.size_append, ByteArray.size_extract, Sat.strOf_len, List.length_cons, List.length_nil]; intro h; simp at h; omega) | (refine And.intro (by omega) ?_; simp only [ByteArray.size, List.size_toArray, List.length_cons, List.length_nil]; omega) | kernel_rfl)) ?_)
            | refine Or.inr ?_
            | refine sat_drawH (Tryd.ok ..) (by kernel_rfl) ?_
            | refine Exists.intro [_] (And.intro (one_byte rfl) ?_)
            | refine Exists.intro [_] (And.intro (fun _ => one_byte rfl) ?_)
            | refine Exists.intro _ (And.intro (And.intro rfl rfl) ?_)
            | refine Exists.intro _ (And.intro (fun _ => And.intro rfl rfl) ?_)
            | refine Exists.intro _ (And.intro rfl ?_))
          refine calledQ_at (.v (.bool true)) rfl (fun _ w' hw => tells_any _ w' b o c (hk.below (below_of rfl rfl hw)) (by try simp only [ByteArray.size_append, ByteArray.size_extract, Sat.strOf_len, rep_size, List.length_cons, List.length_nil]; unfold maxLen; omega)) ?_
          repeat' ((conv => whnf); first
            | refine walk (Tryd.ok ..) ?_
            | (refine Cnd.mk (fun h => ?_) (fun h => ?_) <;> (first | (exfalso; simp only [decide_eq_true_eq, decide_eq_false_iff_not, Bool.not_eq_true', Bool.not_eq_false'] at h; omega) | simp at h | skip))
            | refine And.intro (Kept.mk ?_) ?_
            | exact trivial
            | refine And.intro (by (first | rfl | (intro h; exact h) | (intro h; exact absurd h Bool.false_ne_true) | omega | exact h | exact congrArg Bool.not h | exact ⟨rfl, rfl⟩ | exact ⟨⟨rfl, rfl⟩, rfl⟩ | exact ⟨⟨rfl, rfl, rfl, rfl⟩, rfl, rfl⟩ | exact trivial | exact ⟨rfl, rfl, rfl, rfl⟩ | exact ⟨⟨rfl, rfl⟩, rfl, rfl⟩ | exact ⟨rfl, Nat.le_of_ble_eq_true rfl, rfl⟩ | exact Nat.le_of_ble_eq_true rfl | (simp only [Grd.ob, Grd.and, InR, kb, Int.toNat_natCast, ByteArray.size_append, ByteArray.size_extract, Sat.strOf_len, List.length_cons, List.length_nil] <;> omega) | (simp only [Grd.ob, Grd.and, InR, kb, Int.toNat_natCast, ByteArray.size_append, ByteArray.size_extract, Sat.strOf_len, List.length_cons, List.length_nil]; intro h; simp at h; omega) | (refine And.intro (by omega) ?_; simp only [ByteArray.size, List.size_toArray, List.length_cons, List.length_nil]; omega) | kernel_rfl)) ?_
            | refine Or.inl (And.intro (by (first | rfl | (intro h; exact h) | (intro h; exact absurd h Bool.false_ne_true) | omega | exact h | exact congrArg Bool.not h | exact ⟨rfl, rfl⟩ | exact ⟨⟨rfl, rfl⟩, rfl⟩ | exact ⟨⟨rfl, rfl, rfl, rfl⟩, rfl, rfl⟩ | exact trivial | exact ⟨rfl, rfl, rfl, rfl⟩ | exact ⟨⟨rfl, rfl⟩, rfl, rfl⟩ | exact ⟨rfl, Nat.le_of_ble_eq_true rfl, rfl⟩ | exact Nat.le_of_ble_eq_true rfl | (simp only [Grd.ob, Grd.and, InR, kb, Int.toNat_natCast, ByteArray.size_append, ByteArray.size_extract, Sat.strOf_len, List.length_cons, List.length_nil] <;> omega) | (simp only [Grd.ob, Grd.and, InR, kb, Int.toNat_natCast, ByteArray.size_append, ByteArray.size_extract, Sat.strOf_len, List.length_cons, List.length_nil]; intro h; simp at h; omega) | (refine And.intro (by omega) ?_; simp only [ByteArray.size, List.size_toArray, List.length_cons, List.length_nil]; omega) | kernel_rfl)) ?_)
            | refine Or.inr ?_
            | refine sat_drawH (Tryd.ok ..) (by kernel_rfl) ?_
            | refine Exists.intro [_] (And.intro (one_byte rfl) ?_)
            | refine Exists.intro [_] (And.intro (fun _ => one_byte rfl) ?_)
            | refine Exists.intro _ (And.intro (And.intro rfl rfl) ?_)
            | refine Exists.intro _ (And.intro (fun _ => And.intro rfl rfl) ?_)
            | refine Exists.intro _ (And.intro rfl ?_))
          refine calledQ_at (.v (.bool true)) rfl (fun _ w' hw => tells_any _ w' b o c (hk.below (below_of rfl rfl hw)) (by try simp only [ByteArray.size_append, ByteArray.size_extract, Sat.strOf_len, rep_size, List.length_cons, List.length_nil]; unfold maxLen; omega)) ?_
          repeat' ((conv => whnf); first
            | refine walk (Tryd.ok ..) ?_
            | (refine Cnd.mk (fun h => ?_) (fun h => ?_) <;> (first | (exfalso; simp only [decide_eq_true_eq, decide_eq_false_iff_not, Bool.not_eq_true', Bool.not_eq_false'] at h; omega) | simp at h | skip))
            | refine And.intro (Kept.mk ?_) ?_
            | exact trivial
            | refine And.intro (by (first | rfl | (intro h; exact h) | (intro h; exact absurd h Bool.false_ne_true) | omega | exact h | exact congrArg Bool.not h | exact ⟨rfl, rfl⟩ | exact ⟨⟨rfl, rfl⟩, rfl⟩ | exact ⟨⟨rfl, rfl, rfl, rfl⟩, rfl, rfl⟩ | exact trivial | exact ⟨rfl, rfl, rfl, rfl⟩ | exact ⟨⟨rfl, rfl⟩, rfl, rfl⟩ | exact ⟨rfl, Nat.le_of_ble_eq_true rfl, rfl⟩ | exact Nat.le_of_ble_eq_true rfl | (simp only [Grd.ob, Grd.and, InR, kb, Int.toNat_natCast, ByteArray.size_append, ByteArray.size_extract, Sat.strOf_len, List.length_cons, List.length_nil] <;> omega) | (simp only [Grd.ob, Grd.and, InR, kb, Int.toNat_natCast, ByteArray.size_append, ByteArray.size_extract, Sat.strOf_len, List.length_cons, List.length_nil]; intro h; simp at h; omega) | (refine And.intro (by omega) ?_; simp only [ByteArray.size, List.size_toArray, List.length_cons, List.length_nil]; omega) | kernel_rfl)) ?_
            | refine Or.inl (And.intro (by (first | rfl | (intro h; exact h) | (intro h; exact absurd h Bool.false_ne_true) | omega | exact h | exact congrArg Bool.not h | exact ⟨rfl, rfl⟩ | exact ⟨⟨rfl, rfl⟩, rfl⟩ | exact ⟨⟨rfl, rfl, rfl, rfl⟩, rfl, rfl⟩ | exact trivial | exact ⟨rfl, rfl, rfl, rfl⟩ | exact ⟨⟨rfl, rfl⟩, rfl, rfl⟩ | exact ⟨rfl, Nat.le_of_ble_eq_true rfl, rfl⟩ | exact Nat.le_of_ble_eq_true rfl | (simp only [Grd.ob, Grd.and, InR, kb, Int.toNat_natCast, ByteArray.size_append, ByteArray.size_extract, Sat.strOf_len, List.length_cons, List.length_nil] <;> omega) | (simp only [Grd.ob, Grd.and, InR, kb, Int.toNat_natCast, ByteArray.size_append, ByteArray.size_extract, Sat.strOf_len, List.length_cons, List.length_nil]; intro h; simp at h; omega) | (refine And.intro (by omega) ?_; simp only [ByteArray.size, List.size_toArray, List.length_cons, List.length_nil]; omega) | kernel_rfl)) ?_)
            | refine Or.inr ?_
            | refine sat_drawH (Tryd.ok ..) (by kernel_rfl) ?_
            | refine Exists.intro [_] (And.intro (one_byte rfl) ?_)
            | refine Exists.intro [_] (And.intro (fun _ => one_byte rfl) ?_)
            | refine Exists.intro _ (And.intro (And.intro rfl rfl) ?_)
            | refine Exists.intro _ (And.intro (fun _ => And.intro rfl rfl) ?_)
            | refine Exists.intro _ (And.intro rfl ?_))
          refine calledQ_at (.v (.bool true)) rfl (fun _ w' hw => tells_any _ w' b o c (hk.below (below_of rfl rfl hw)) (by try simp only [ByteArray.size_append, ByteArray.size_extract, Sat.strOf_len, rep_size, List.length_cons, List.length_nil]; unfold maxLen; omega)) ?_
          repeat' ((conv => whnf); first
            | refine walk (Tryd.ok ..) ?_
            | (refine Cnd.mk (fun h => ?_) (fun h => ?_) <;> (first | (exfalso; simp only [decide_eq_true_eq, decide_eq_false_iff_not, Bool.not_eq_true', Bool.not_eq_false'] at h; omega) | simp at h | skip))
            | refine And.intro (Kept.mk ?_) ?_
            | exact trivial
            | refine And.intro (by (first | rfl | (intro h; exact h) | (intro h; exact absurd h Bool.false_ne_true) | omega | exact h | exact congrArg Bool.not h | exact ⟨rfl, rfl⟩ | exact ⟨⟨rfl, rfl⟩, rfl⟩ | exact ⟨⟨rfl, rfl, rfl, rfl⟩, rfl, rfl⟩ | exact trivial | exact ⟨rfl, rfl, rfl, rfl⟩ | exact ⟨⟨rfl, rfl⟩, rfl, rfl⟩ | exact ⟨rfl, Nat.le_of_ble_eq_true rfl, rfl⟩ | exact Nat.le_of_ble_eq_true rfl | (simp only [Grd.ob, Grd.and, InR, kb, Int.toNat_natCast, ByteArray.size_append, ByteArray.size_extract, Sat.strOf_len, List.length_cons, List.length_nil] <;> omega) | (simp only [Grd.ob, Grd.and, InR, kb, Int.toNat_natCast, ByteArray.size_append, ByteArray.size_extract, Sat.strOf_len, List.length_cons, List.length_nil]; intro h; simp at h; omega) | (refine And.intro (by omega) ?_; simp only [ByteArray.size, List.size_toArray, List.length_cons, List.length_nil]; omega) | kernel_rfl)) ?_
            | refine Or.inl (And.intro (by (first | rfl | (intro h; exact h) | (intro h; exact absurd h Bool.false_ne_true) | omega | exact h | exact congrArg Bool.not h | exact ⟨rfl, rfl⟩ | exact ⟨⟨rfl, rfl⟩, rfl⟩ | exact ⟨⟨rfl, rfl, rfl, rfl⟩, rfl, rfl⟩ | exact trivial | exact ⟨rfl, rfl, rfl, rfl⟩ | exact ⟨⟨rfl, rfl⟩, rfl, rfl⟩ | exact ⟨rfl, Nat.le_of_ble_eq_true rfl, rfl⟩ | exact Nat.le_of_ble_eq_true rfl | (simp only [Grd.ob, Grd.and, InR, kb, Int.toNat_natCast, ByteArray.size_append, ByteArray.size_extract, Sat.strOf_len, List.length_cons, List.length_nil] <;> omega) | (simp only [Grd.ob, Grd.and, InR, kb, Int.toNat_natCast, ByteArray.size_append, ByteArray.size_extract, Sat.strOf_len, List.length_cons, List.length_nil]; intro h; simp at h; omega) | (refine And.intro (by omega) ?_; simp only [ByteArray.size, List.size_toArray, List.length_cons, List.length_nil]; omega) | kernel_rfl)) ?_)
            | refine Or.inr ?_
            | refine sat_drawH (Tryd.ok ..) (by kernel_rfl) ?_
            | refine Exists.intro [_] (And.intro (one_byte rfl) ?_)
            | refine Exists.intro [_] (And.intro (fun _ => one_byte rfl) ?_)
            | refine Exists.intro _ (And.intro (And.intro rfl rfl) ?_)
            | refine Exists.intro _ (And.intro (fun _ => And.intro rfl rfl) ?_)
            | refine Exists.intro _ (And.intro rfl ?_))
          refine ⟨x + 1, ⟨by omega, by omega⟩, ?_, ?_⟩
          all_goals ((repeat' (first | exact trivial | exact rfl | refine And.intro ?_ ?_)) <;> (try (conv => whnf)) <;> (try simp only [SV.real, SV.r2, SV.r1]))
        · obtain rfl : x = 256 := by omega
          clear hxx hxl
          repeat' ((conv => whnf); first
            | refine walk (Tryd.ok ..) ?_
            | (refine Cnd.mk (fun h => ?_) (fun h => ?_) <;> (first | (exfalso; simp only [decide_eq_true_eq, decide_eq_false_iff_not, Bool.not_eq_true', Bool.not_eq_false'] at h; omega) | simp at h | skip))
            | refine And.intro (Kept.mk ?_) ?_
            | exact trivial
            | refine And.intro (by (first | rfl | (intro h; exact h) | (intro h; exact absurd h Bool.false_ne_true) | omega | exact h | exact congrArg Bool.not h | exact ⟨rfl, rfl⟩ | exact ⟨⟨rfl, rfl⟩, rfl⟩ | exact ⟨⟨rfl, rfl, rfl, rfl⟩, rfl, rfl⟩ | exact trivial | exact ⟨rfl, rfl, rfl, rfl⟩ | exact ⟨⟨rfl, rfl⟩, rfl, rfl⟩ | exact ⟨rfl, Nat.le_of_ble_eq_true rfl, rfl⟩ | exact Nat.le_of_ble_eq_true rfl | (simp only [Grd.ob, Grd.and, InR, kb, Int.toNat_natCast, ByteArray.size_append, ByteArray.size_extract, Sat.strOf_len, List.length_cons, List.length_nil] <;> omega) | (simp only [Grd.ob, Grd.and, InR, kb, Int.toNat_natCast, ByteArray.size_append, ByteArray.size_extract, Sat.strOf_len, List.length_cons, List.length_nil]; intro h; simp at h; omega) | (refine And.intro (by omega) ?_; simp only [ByteArray.size, List.size_toArray, List.length_cons, List.length_nil]; omega) | kernel_rfl)) ?_
            | refine Or.inl (And.intro (by (first | rfl | (intro h; exact h) | (intro h; exact absurd h Bool.false_ne_true) | omega | exact h | exact congrArg Bool.not h | exact ⟨rfl, rfl⟩ | exact ⟨⟨rfl, rfl⟩, rfl⟩ | exact ⟨⟨rfl, rfl, rfl, rfl⟩, rfl, rfl⟩ | exact trivial | exact ⟨rfl, rfl, rfl, rfl⟩ | exact ⟨⟨rfl, rfl⟩, rfl, rfl⟩ | exact ⟨rfl, Nat.le_of_ble_eq_true rfl, rfl⟩ | exact Nat.le_of_ble_eq_true rfl | (simp only [Grd.ob, Grd.and, InR, kb, Int.toNat_natCast, ByteArray.size_append, ByteArray.size_extract, Sat.strOf_len, List.length_cons, List.length_nil] <;> omega) | (simp only [Grd.ob, Grd.and, InR, kb, Int.toNat_natCast, ByteArray.size_append, ByteArray.size_extract, Sat.strOf_len, List.length_cons, List.length_nil]; intro h; simp at h; omega) | (refine And.intro (by omega) ?_; simp only [ByteArray.size, List.size_toArray, List.length_cons, List.length_nil]; omega) | kernel_rfl)) ?_)
            | refine Or.inr ?_
            | refine sat_drawH (Tryd.ok ..) (by kernel_rfl) ?_
            | refine Exists.intro [_] (And.intro (one_byte rfl) ?_)
            | refine Exists.intro [_] (And.intro (fun _ => one_byte rfl) ?_)
            | refine Exists.intro _ (And.intro (And.intro rfl rfl) ?_)
            | refine Exists.intro _ (And.intro (fun _ => And.intro rfl rfl) ?_)
            | refine Exists.intro _ (And.intro rfl ?_))
          refine sat_loop (Tryd.ok ..) (α := Nat) (fun x => ([(63, .yes, .s 63 g 0 0 5 5), (64, .yes, .v (.int .i64 5)), (65, .yes, .v (.int .i64 k)), (7, .yes, .v (.string s)), (8, .yes, .v (.int .i64 i)), (11, .yes, .v (.int .i64 x))], [(63, .blk g 9 five)])) (fun k => k ≤ 10) (fun k => 10 - k) (fun _ => rfl) ?_ ?_
          · refine ⟨0, Nat.zero_le _, ?_, ?_⟩
            all_goals ((repeat' (first | exact trivial | exact rfl | refine And.intro ?_ ?_)) <;> (try (conv => whnf)) <;> (try simp only [SV.real, SV.r2, SV.r1]))
          intro x hxx
          by_cases hxl : x < 10
          · repeat' ((conv => whnf); first
              | refine walk (Tryd.ok ..) ?_
              | (refine Cnd.mk (fun h => ?_) (fun h => ?_) <;> (first | (exfalso; simp only [decide_eq_true_eq, decide_eq_false_iff_not, Bool.not_eq_true', Bool.not_eq_false'] at h; omega) | simp at h | skip))
              | refine And.intro (Kept.mk ?_) ?_
              | exact trivial
              | refine And.intro (by (first | rfl | (intro h; exact h) | (intro h; exact absurd h Bool.false_ne_true) | omega | exact h | exact congrArg Bool.not h | exact ⟨rfl, rfl⟩ | exact ⟨⟨rfl, rfl⟩, rfl⟩ | exact ⟨⟨rfl, rfl, rfl, rfl⟩, rfl, rfl⟩ | exact trivial | exact ⟨rfl, rfl, rfl, rfl⟩ | exact ⟨⟨rfl, rfl⟩, rfl, rfl⟩ | exact ⟨rfl, Nat.le_of_ble_eq_true rfl, rfl⟩ | exact Nat.le_of_ble_eq_true rfl | (simp only [Grd.ob, Grd.and, InR, kb, Int.toNat_natCast, ByteArray.size_append, ByteArray.size_extract, Sat.strOf_len, List.length_cons, List.length_nil] <;> omega) | (simp only [Grd.ob, Grd.and, InR, kb, Int.toNat_natCast, ByteArray.size_append, ByteArray.size_extract, Sat.strOf_len, List.length_cons, List.length_nil]; intro h; simp at h; omega) | (refine And.intro (by omega) ?_; simp only [ByteArray.size, List.size_toArray, List.length_cons, List.length_nil]; omega) | kernel_rfl)) ?_
              | refine Or.inl (And.intro (by (first | rfl | (intro h; exact h) | (intro h; exact absurd h Bool.false_ne_true) | omega | exact h | exact congrArg Bool.not h | exact ⟨rfl, rfl⟩ | exact ⟨⟨rfl, rfl⟩, rfl⟩ | exact ⟨⟨rfl, rfl, rfl, rfl⟩, rfl, rfl⟩ | exact trivial | exact ⟨rfl, rfl, rfl, rfl⟩ | exact ⟨⟨rfl, rfl⟩, rfl, rfl⟩ | exact ⟨rfl, Nat.le_of_ble_eq_true rfl, rfl⟩ | exact Nat.le_of_ble_eq_true rfl | (simp only [Grd.ob, Grd.and, InR, kb, Int.toNat_natCast, ByteArray.size_append, ByteArray.size_extract, Sat.strOf_len, List.length_cons, List.length_nil] <;> omega) | (simp only [Grd.ob, Grd.and, InR, kb, Int.toNat_natCast, ByteArray.size_append, ByteArray.size_extract, Sat.strOf_len, List.length_cons, List.length_nil]; intro h; simp at h; omega) | (refine And.intro (by omega) ?_; simp only [ByteArray.size, List.size_toArray, List.length_cons, List.length_nil]; omega) | kernel_rfl)) ?_)
              | refine Or.inr ?_
              | refine sat_drawH (Tryd.ok ..) (by kernel_rfl) ?_
              | refine Exists.intro [_] (And.intro (one_byte rfl) ?_)
              | refine Exists.intro [_] (And.intro (fun _ => one_byte rfl) ?_)
              | refine Exists.intro _ (And.intro (And.intro rfl rfl) ?_)
              | refine Exists.intro _ (And.intro (fun _ => And.intro rfl rfl) ?_)
              | refine Exists.intro _ (And.intro rfl ?_))
            intro g2 hg2
            repeat' ((conv => whnf); first
              | refine walk (Tryd.ok ..) ?_
              | (refine Cnd.mk (fun h => ?_) (fun h => ?_) <;> (first | (exfalso; simp only [decide_eq_true_eq, decide_eq_false_iff_not, Bool.not_eq_true', Bool.not_eq_false'] at h; omega) | simp at h | skip))
              | refine And.intro (Kept.mk ?_) ?_
              | exact trivial
              | refine And.intro (by (first | rfl | (intro h; exact h) | (intro h; exact absurd h Bool.false_ne_true) | omega | exact h | exact congrArg Bool.not h | exact ⟨rfl, rfl⟩ | exact ⟨⟨rfl, rfl⟩, rfl⟩ | exact ⟨⟨rfl, rfl, rfl, rfl⟩, rfl, rfl⟩ | exact trivial | exact ⟨rfl, rfl, rfl, rfl⟩ | exact ⟨⟨rfl, rfl⟩, rfl, rfl⟩ | exact ⟨rfl, Nat.le_of_ble_eq_true rfl, rfl⟩ | exact Nat.le_of_ble_eq_true rfl | (simp only [Grd.ob, Grd.and, InR, kb, Int.toNat_natCast, ByteArray.size_append, ByteArray.size_extract, Sat.strOf_len, List.length_cons, List.length_nil] <;> omega) | (simp only [Grd.ob, Grd.and, InR, kb, Int.toNat_natCast, ByteArray.size_append, ByteArray.size_extract, Sat.strOf_len, List.length_cons, List.length_nil]; intro h; simp at h; omega) | (refine And.intro (by omega) ?_; simp only [ByteArray.size, List.size_toArray, List.length_cons, List.length_nil]; omega) | kernel_rfl)) ?_
              | refine Or.inl (And.intro (by (first | rfl | (intro h; exact h) | (intro h; exact absurd h Bool.false_ne_true) | omega | exact h | exact congrArg Bool.not h | exact ⟨rfl, rfl⟩ | exact ⟨⟨rfl, rfl⟩, rfl⟩ | exact ⟨⟨rfl, rfl, rfl, rfl⟩, rfl, rfl⟩ | exact trivial | exact ⟨rfl, rfl, rfl, rfl⟩ | exact ⟨⟨rfl, rfl⟩, rfl, rfl⟩ | exact ⟨rfl, Nat.le_of_ble_eq_true rfl, rfl⟩ | exact Nat.le_of_ble_eq_true rfl | (simp only [Grd.ob, Grd.and, InR, kb, Int.toNat_natCast, ByteArray.size_append, ByteArray.size_extract, Sat.strOf_len, List.length_cons, List.length_nil] <;> omega) | (simp only [Grd.ob, Grd.and, InR, kb, Int.toNat_natCast, ByteArray.size_append, ByteArray.size_extract, Sat.strOf_len, List.length_cons, List.length_nil]; intro h; simp at h; omega) | (refine And.intro (by omega) ?_; simp only [ByteArray.size, List.size_toArray, List.length_cons, List.length_nil]; omega) | kernel_rfl)) ?_)
              | refine Or.inr ?_
              | refine sat_drawH (Tryd.ok ..) (by kernel_rfl) ?_
              | refine Exists.intro [_] (And.intro (one_byte rfl) ?_)
              | refine Exists.intro [_] (And.intro (fun _ => one_byte rfl) ?_)
              | refine Exists.intro _ (And.intro (And.intro rfl rfl) ?_)
              | refine Exists.intro _ (And.intro (fun _ => And.intro rfl rfl) ?_)
              | refine Exists.intro _ (And.intro rfl ?_))
            refine calledQ_at (.v (.bool true)) rfl (fun _ w' hw => lawmisses_any (s.extract 0 10 ++ Sat.strOf [48 + (x : Int)]) w' (by try simp only [ByteArray.size_append, ByteArray.size_extract, Sat.strOf_len, List.length_cons, List.length_nil]; unfold maxLen; omega)) ?_
            repeat' ((conv => whnf); first
              | refine walk (Tryd.ok ..) ?_
              | (refine Cnd.mk (fun h => ?_) (fun h => ?_) <;> (first | (exfalso; simp only [decide_eq_true_eq, decide_eq_false_iff_not, Bool.not_eq_true', Bool.not_eq_false'] at h; omega) | simp at h | skip))
              | refine And.intro (Kept.mk ?_) ?_
              | exact trivial
              | refine And.intro (by (first | rfl | (intro h; exact h) | (intro h; exact absurd h Bool.false_ne_true) | omega | exact h | exact congrArg Bool.not h | exact ⟨rfl, rfl⟩ | exact ⟨⟨rfl, rfl⟩, rfl⟩ | exact ⟨⟨rfl, rfl, rfl, rfl⟩, rfl, rfl⟩ | exact trivial | exact ⟨rfl, rfl, rfl, rfl⟩ | exact ⟨⟨rfl, rfl⟩, rfl, rfl⟩ | exact ⟨rfl, Nat.le_of_ble_eq_true rfl, rfl⟩ | exact Nat.le_of_ble_eq_true rfl | (simp only [Grd.ob, Grd.and, InR, kb, Int.toNat_natCast, ByteArray.size_append, ByteArray.size_extract, Sat.strOf_len, List.length_cons, List.length_nil] <;> omega) | (simp only [Grd.ob, Grd.and, InR, kb, Int.toNat_natCast, ByteArray.size_append, ByteArray.size_extract, Sat.strOf_len, List.length_cons, List.length_nil]; intro h; simp at h; omega) | (refine And.intro (by omega) ?_; simp only [ByteArray.size, List.size_toArray, List.length_cons, List.length_nil]; omega) | kernel_rfl)) ?_
              | refine Or.inl (And.intro (by (first | rfl | (intro h; exact h) | (intro h; exact absurd h Bool.false_ne_true) | omega | exact h | exact congrArg Bool.not h | exact ⟨rfl, rfl⟩ | exact ⟨⟨rfl, rfl⟩, rfl⟩ | exact ⟨⟨rfl, rfl, rfl, rfl⟩, rfl, rfl⟩ | exact trivial | exact ⟨rfl, rfl, rfl, rfl⟩ | exact ⟨⟨rfl, rfl⟩, rfl, rfl⟩ | exact ⟨rfl, Nat.le_of_ble_eq_true rfl, rfl⟩ | exact Nat.le_of_ble_eq_true rfl | (simp only [Grd.ob, Grd.and, InR, kb, Int.toNat_natCast, ByteArray.size_append, ByteArray.size_extract, Sat.strOf_len, List.length_cons, List.length_nil] <;> omega) | (simp only [Grd.ob, Grd.and, InR, kb, Int.toNat_natCast, ByteArray.size_append, ByteArray.size_extract, Sat.strOf_len, List.length_cons, List.length_nil]; intro h; simp at h; omega) | (refine And.intro (by omega) ?_; simp only [ByteArray.size, List.size_toArray, List.length_cons, List.length_nil]; omega) | kernel_rfl)) ?_)
              | refine Or.inr ?_
              | refine sat_drawH (Tryd.ok ..) (by kernel_rfl) ?_
              | refine Exists.intro [_] (And.intro (one_byte rfl) ?_)
              | refine Exists.intro [_] (And.intro (fun _ => one_byte rfl) ?_)
              | refine Exists.intro _ (And.intro (And.intro rfl rfl) ?_)
              | refine Exists.intro _ (And.intro (fun _ => And.intro rfl rfl) ?_)
              | refine Exists.intro _ (And.intro rfl ?_))
            refine calledQ_at (.v (.bool true)) rfl (fun _ w' hw => lawmisses_any _ w' (by try simp only [ByteArray.size_append, ByteArray.size_extract, Sat.strOf_len, List.length_cons, List.length_nil]; unfold maxLen; omega)) ?_
            repeat' ((conv => whnf); first
              | refine walk (Tryd.ok ..) ?_
              | (refine Cnd.mk (fun h => ?_) (fun h => ?_) <;> (first | (exfalso; simp only [decide_eq_true_eq, decide_eq_false_iff_not, Bool.not_eq_true', Bool.not_eq_false'] at h; omega) | simp at h | skip))
              | refine And.intro (Kept.mk ?_) ?_
              | exact trivial
              | refine And.intro (by (first | rfl | (intro h; exact h) | (intro h; exact absurd h Bool.false_ne_true) | omega | exact h | exact congrArg Bool.not h | exact ⟨rfl, rfl⟩ | exact ⟨⟨rfl, rfl⟩, rfl⟩ | exact ⟨⟨rfl, rfl, rfl, rfl⟩, rfl, rfl⟩ | exact trivial | exact ⟨rfl, rfl, rfl, rfl⟩ | exact ⟨⟨rfl, rfl⟩, rfl, rfl⟩ | exact ⟨rfl, Nat.le_of_ble_eq_true rfl, rfl⟩ | exact Nat.le_of_ble_eq_true rfl | (simp only [Grd.ob, Grd.and, InR, kb, Int.toNat_natCast, ByteArray.size_append, ByteArray.size_extract, Sat.strOf_len, List.length_cons, List.length_nil] <;> omega) | (simp only [Grd.ob, Grd.and, InR, kb, Int.toNat_natCast, ByteArray.size_append, ByteArray.size_extract, Sat.strOf_len, List.length_cons, List.length_nil]; intro h; simp at h; omega) | (refine And.intro (by omega) ?_; simp only [ByteArray.size, List.size_toArray, List.length_cons, List.length_nil]; omega) | kernel_rfl)) ?_
              | refine Or.inl (And.intro (by (first | rfl | (intro h; exact h) | (intro h; exact absurd h Bool.false_ne_true) | omega | exact h | exact congrArg Bool.not h | exact ⟨rfl, rfl⟩ | exact ⟨⟨rfl, rfl⟩, rfl⟩ | exact ⟨⟨rfl, rfl, rfl, rfl⟩, rfl, rfl⟩ | exact trivial | exact ⟨rfl, rfl, rfl, rfl⟩ | exact ⟨⟨rfl, rfl⟩, rfl, rfl⟩ | exact ⟨rfl, Nat.le_of_ble_eq_true rfl, rfl⟩ | exact Nat.le_of_ble_eq_true rfl | (simp only [Grd.ob, Grd.and, InR, kb, Int.toNat_natCast, ByteArray.size_append, ByteArray.size_extract, Sat.strOf_len, List.length_cons, List.length_nil] <;> omega) | (simp only [Grd.ob, Grd.and, InR, kb, Int.toNat_natCast, ByteArray.size_append, ByteArray.size_extract, Sat.strOf_len, List.length_cons, List.length_nil]; intro h; simp at h; omega) | (refine And.intro (by omega) ?_; simp only [ByteArray.size, List.size_toArray, List.length_cons, List.length_nil]; omega) | kernel_rfl)) ?_)
              | refine Or.inr ?_
              | refine sat_drawH (Tryd.ok ..) (by kernel_rfl) ?_
              | refine Exists.intro [_] (And.intro (one_byte rfl) ?_)
              | refine Exists.intro [_] (And.intro (fun _ => one_byte rfl) ?_)
              | refine Exists.intro _ (And.intro (And.intro rfl rfl) ?_)
              | refine Exists.intro _ (And.intro (fun _ => And.intro rfl rfl) ?_)
              | refine Exists.intro _ (And.intro rfl ?_))
            refine ⟨x + 1, ⟨by omega, by omega⟩, ?_, ?_⟩
            all_goals ((repeat' (first | exact trivial | exact rfl | refine And.intro ?_ ?_)) <;> (try (conv => whnf)) <;> (try simp only [SV.real, SV.r2, SV.r1]))
          · obtain rfl : x = 10 := by omega
            clear hxx hxl
            repeat' ((conv => whnf); first
              | refine walk (Tryd.ok ..) ?_
              | (refine Cnd.mk (fun h => ?_) (fun h => ?_) <;> (first | (exfalso; simp only [decide_eq_true_eq, decide_eq_false_iff_not, Bool.not_eq_true', Bool.not_eq_false'] at h; omega) | simp at h | skip))
              | refine And.intro (Kept.mk ?_) ?_
              | exact trivial
              | refine And.intro (by (first | rfl | (intro h; exact h) | (intro h; exact absurd h Bool.false_ne_true) | omega | exact h | exact congrArg Bool.not h | exact ⟨rfl, rfl⟩ | exact ⟨⟨rfl, rfl⟩, rfl⟩ | exact ⟨⟨rfl, rfl, rfl, rfl⟩, rfl, rfl⟩ | exact trivial | exact ⟨rfl, rfl, rfl, rfl⟩ | exact ⟨⟨rfl, rfl⟩, rfl, rfl⟩ | exact ⟨rfl, Nat.le_of_ble_eq_true rfl, rfl⟩ | exact Nat.le_of_ble_eq_true rfl | (simp only [Grd.ob, Grd.and, InR, kb, Int.toNat_natCast, ByteArray.size_append, ByteArray.size_extract, Sat.strOf_len, List.length_cons, List.length_nil] <;> omega) | (simp only [Grd.ob, Grd.and, InR, kb, Int.toNat_natCast, ByteArray.size_append, ByteArray.size_extract, Sat.strOf_len, List.length_cons, List.length_nil]; intro h; simp at h; omega) | (refine And.intro (by omega) ?_; simp only [ByteArray.size, List.size_toArray, List.length_cons, List.length_nil]; omega) | kernel_rfl)) ?_
              | refine Or.inl (And.intro (by (first | rfl | (intro h; exact h) | (intro h; exact absurd h Bool.false_ne_true) | omega | exact h | exact congrArg Bool.not h | exact ⟨rfl, rfl⟩ | exact ⟨⟨rfl, rfl⟩, rfl⟩ | exact ⟨⟨rfl, rfl, rfl, rfl⟩, rfl, rfl⟩ | exact trivial | exact ⟨rfl, rfl, rfl, rfl⟩ | exact ⟨⟨rfl, rfl⟩, rfl, rfl⟩ | exact ⟨rfl, Nat.le_of_ble_eq_true rfl, rfl⟩ | exact Nat.le_of_ble_eq_true rfl | (simp only [Grd.ob, Grd.and, InR, kb, Int.toNat_natCast, ByteArray.size_append, ByteArray.size_extract, Sat.strOf_len, List.length_cons, List.length_nil] <;> omega) | (simp only [Grd.ob, Grd.and, InR, kb, Int.toNat_natCast, ByteArray.size_append, ByteArray.size_extract, Sat.strOf_len, List.length_cons, List.length_nil]; intro h; simp at h; omega) | (refine And.intro (by omega) ?_; simp only [ByteArray.size, List.size_toArray, List.length_cons, List.length_nil]; omega) | kernel_rfl)) ?_)
              | refine Or.inr ?_
              | refine sat_drawH (Tryd.ok ..) (by kernel_rfl) ?_
              | refine Exists.intro [_] (And.intro (one_byte rfl) ?_)
              | refine Exists.intro [_] (And.intro (fun _ => one_byte rfl) ?_)
              | refine Exists.intro _ (And.intro (And.intro rfl rfl) ?_)
              | refine Exists.intro _ (And.intro (fun _ => And.intro rfl rfl) ?_)
              | refine Exists.intro _ (And.intro rfl ?_))
            refine calledQ_at (.v (.bool true)) rfl (fun _ w' hw => tells_any _ w' b o c (hk.below (below_of rfl rfl hw)) (by try simp only [ByteArray.size_append, ByteArray.size_extract, Sat.strOf_len, rep_size, List.length_cons, List.length_nil]; unfold maxLen; omega)) ?_
            repeat' ((conv => whnf); first
              | refine walk (Tryd.ok ..) ?_
              | (refine Cnd.mk (fun h => ?_) (fun h => ?_) <;> (first | (exfalso; simp only [decide_eq_true_eq, decide_eq_false_iff_not, Bool.not_eq_true', Bool.not_eq_false'] at h; omega) | simp at h | skip))
              | refine And.intro (Kept.mk ?_) ?_
              | exact trivial
              | refine And.intro (by (first | rfl | (intro h; exact h) | (intro h; exact absurd h Bool.false_ne_true) | omega | exact h | exact congrArg Bool.not h | exact ⟨rfl, rfl⟩ | exact ⟨⟨rfl, rfl⟩, rfl⟩ | exact ⟨⟨rfl, rfl, rfl, rfl⟩, rfl, rfl⟩ | exact trivial | exact ⟨rfl, rfl, rfl, rfl⟩ | exact ⟨⟨rfl, rfl⟩, rfl, rfl⟩ | exact ⟨rfl, Nat.le_of_ble_eq_true rfl, rfl⟩ | exact Nat.le_of_ble_eq_true rfl | (simp only [Grd.ob, Grd.and, InR, kb, Int.toNat_natCast, ByteArray.size_append, ByteArray.size_extract, Sat.strOf_len, List.length_cons, List.length_nil] <;> omega) | (simp only [Grd.ob, Grd.and, InR, kb, Int.toNat_natCast, ByteArray.size_append, ByteArray.size_extract, Sat.strOf_len, List.length_cons, List.length_nil]; intro h; simp at h; omega) | (refine And.intro (by omega) ?_; simp only [ByteArray.size, List.size_toArray, List.length_cons, List.length_nil]; omega) | kernel_rfl)) ?_
              | refine Or.inl (And.intro (by (first | rfl | (intro h; exact h) | (intro h; exact absurd h Bool.false_ne_true) | omega | exact h | exact congrArg Bool.not h | exact ⟨rfl, rfl⟩ | exact ⟨⟨rfl, rfl⟩, rfl⟩ | exact ⟨⟨rfl, rfl, rfl, rfl⟩, rfl, rfl⟩ | exact trivial | exact ⟨rfl, rfl, rfl, rfl⟩ | exact ⟨⟨rfl, rfl⟩, rfl, rfl⟩ | exact ⟨rfl, Nat.le_of_ble_eq_true rfl, rfl⟩ | exact Nat.le_of_ble_eq_true rfl | (simp only [Grd.ob, Grd.and, InR, kb, Int.toNat_natCast, ByteArray.size_append, ByteArray.size_extract, Sat.strOf_len, List.length_cons, List.length_nil] <;> omega) | (simp only [Grd.ob, Grd.and, InR, kb, Int.toNat_natCast, ByteArray.size_append, ByteArray.size_extract, Sat.strOf_len, List.length_cons, List.length_nil]; intro h; simp at h; omega) | (refine And.intro (by omega) ?_; simp only [ByteArray.size, List.size_toArray, List.length_cons, List.length_nil]; omega) | kernel_rfl)) ?_)
              | refine Or.inr ?_
              | refine sat_drawH (Tryd.ok ..) (by kernel_rfl) ?_
              | refine Exists.intro [_] (And.intro (one_byte rfl) ?_)
              | refine Exists.intro [_] (And.intro (fun _ => one_byte rfl) ?_)
              | refine Exists.intro _ (And.intro (And.intro rfl rfl) ?_)
              | refine Exists.intro _ (And.intro (fun _ => And.intro rfl rfl) ?_)
              | refine Exists.intro _ (And.intro rfl ?_))
            refine calledQ_at (.v (.bool true)) rfl (fun _ w' hw => lawmisses_any _ w' (by try simp only [ByteArray.size_append, ByteArray.size_extract, Sat.strOf_len, List.length_cons, List.length_nil]; unfold maxLen; omega)) ?_
            repeat' ((conv => whnf); first
              | refine walk (Tryd.ok ..) ?_
              | (refine Cnd.mk (fun h => ?_) (fun h => ?_) <;> (first | (exfalso; simp only [decide_eq_true_eq, decide_eq_false_iff_not, Bool.not_eq_true', Bool.not_eq_false'] at h; omega) | simp at h | skip))
              | refine And.intro (Kept.mk ?_) ?_
              | exact trivial
              | refine And.intro (by (first | rfl | (intro h; exact h) | (intro h; exact absurd h Bool.false_ne_true) | omega | exact h | exact congrArg Bool.not h | exact ⟨rfl, rfl⟩ | exact ⟨⟨rfl, rfl⟩, rfl⟩ | exact ⟨⟨rfl, rfl, rfl, rfl⟩, rfl, rfl⟩ | exact trivial | exact ⟨rfl, rfl, rfl, rfl⟩ | exact ⟨⟨rfl, rfl⟩, rfl, rfl⟩ | exact ⟨rfl, Nat.le_of_ble_eq_true rfl, rfl⟩ | exact Nat.le_of_ble_eq_true rfl | (simp only [Grd.ob, Grd.and, InR, kb, Int.toNat_natCast, ByteArray.size_append, ByteArray.size_extract, Sat.strOf_len, List.length_cons, List.length_nil] <;> omega) | (simp only [Grd.ob, Grd.and, InR, kb, Int.toNat_natCast, ByteArray.size_append, ByteArray.size_extract, Sat.strOf_len, List.length_cons, List.length_nil]; intro h; simp at h; omega) | (refine And.intro (by omega) ?_; simp only [ByteArray.size, List.size_toArray, List.length_cons, List.length_nil]; omega) | kernel_rfl)) ?_
              | refine Or.inl (And.intro (by (first | rfl | (intro h; exact h) | (intro h; exact absurd h Bool.false_ne_true) | omega | exact h | exact congrArg Bool.not h | exact ⟨rfl, rfl⟩ | exact ⟨⟨rfl, rfl⟩, rfl⟩ | exact ⟨⟨rfl, rfl, rfl, rfl⟩, rfl, rfl⟩ | exact trivial | exact ⟨rfl, rfl, rfl, rfl⟩ | exact ⟨⟨rfl, rfl⟩, rfl, rfl⟩ | exact ⟨rfl, Nat.le_of_ble_eq_true rfl, rfl⟩ | exact Nat.le_of_ble_eq_true rfl | (simp only [Grd.ob, Grd.and, InR, kb, Int.toNat_natCast, ByteArray.size_append, ByteArray.size_extract, Sat.strOf_len, List.length_cons, List.length_nil] <;> omega) | (simp only [Grd.ob, Grd.and, InR, kb, Int.toNat_natCast, ByteArray.size_append, ByteArray.size_extract, Sat.strOf_len, List.length_cons, List.length_nil]; intro h; simp at h; omega) | (refine And.intro (by omega) ?_; simp only [ByteArray.size, List.size_toArray, List.length_cons, List.length_nil]; omega) | kernel_rfl)) ?_)
              | refine Or.inr ?_
              | refine sat_drawH (Tryd.ok ..) (by kernel_rfl) ?_
              | refine Exists.intro [_] (And.intro (one_byte rfl) ?_)
              | refine Exists.intro [_] (And.intro (fun _ => one_byte rfl) ?_)
              | refine Exists.intro _ (And.intro (And.intro rfl rfl) ?_)
              | refine Exists.intro _ (And.intro (fun _ => And.intro rfl rfl) ?_)
              | refine Exists.intro _ (And.intro rfl ?_))
            refine ⟨i + 1, ⟨by omega, by omega⟩, ?_, ?_⟩
            all_goals ((repeat' (first | exact trivial | exact rfl | refine And.intro ?_ ?_)) <;> (try (conv => whnf)) <;> (try simp only [SV.real, SV.r2, SV.r1]))
    · obtain rfl : i = 11 := by omega
      clear hii hil
      repeat' ((conv => whnf); first
        | refine walk (Tryd.ok ..) ?_
        | (refine Cnd.mk (fun h => ?_) (fun h => ?_) <;> (first | (exfalso; simp only [decide_eq_true_eq, decide_eq_false_iff_not, Bool.not_eq_true', Bool.not_eq_false'] at h; omega) | simp at h | skip))
        | refine And.intro (Kept.mk ?_) ?_
        | exact trivial
        | refine And.intro (by (first | rfl | (intro h; exact h) | (intro h; exact absurd h Bool.false_ne_true) | omega | exact h | exact congrArg Bool.not h | exact ⟨rfl, rfl⟩ | exact ⟨⟨rfl, rfl⟩, rfl⟩ | exact ⟨⟨rfl, rfl, rfl, rfl⟩, rfl, rfl⟩ | exact trivial | exact ⟨rfl, rfl, rfl, rfl⟩ | exact ⟨⟨rfl, rfl⟩, rfl, rfl⟩ | exact ⟨rfl, Nat.le_of_ble_eq_true rfl, rfl⟩ | exact Nat.le_of_ble_eq_true rfl | (simp only [Grd.ob, Grd.and, InR, kb, Int.toNat_natCast, ByteArray.size_append, ByteArray.size_extract, Sat.strOf_len, List.length_cons, List.length_nil] <;> omega) | (simp only [Grd.ob, Grd.and, InR, kb, Int.toNat_natCast, ByteArray.size_append, ByteArray.size_extract, Sat.strOf_len, List.length_cons, List.length_nil]; intro h; simp at h; omega) | (refine And.intro (by omega) ?_; simp only [ByteArray.size, List.size_toArray, List.length_cons, List.length_nil]; omega) | kernel_rfl)) ?_
        | refine Or.inl (And.intro (by (first | rfl | (intro h; exact h) | (intro h; exact absurd h Bool.false_ne_true) | omega | exact h | exact congrArg Bool.not h | exact ⟨rfl, rfl⟩ | exact ⟨⟨rfl, rfl⟩, rfl⟩ | exact ⟨⟨rfl, rfl, rfl, rfl⟩, rfl, rfl⟩ | exact trivial | exact ⟨rfl, rfl, rfl, rfl⟩ | exact ⟨⟨rfl, rfl⟩, rfl, rfl⟩ | exact ⟨rfl, Nat.le_of_ble_eq_true rfl, rfl⟩ | exact Nat.le_of_ble_eq_true rfl | (simp only [Grd.ob, Grd.and, InR, kb, Int.toNat_natCast, ByteArray.size_append, ByteArray.size_extract, Sat.strOf_len, List.length_cons, List.length_nil] <;> omega) | (simp only [Grd.ob, Grd.and, InR, kb, Int.toNat_natCast, ByteArray.size_append, ByteArray.size_extract, Sat.strOf_len, List.length_cons, List.length_nil]; intro h; simp at h; omega) | (refine And.intro (by omega) ?_; simp only [ByteArray.size, List.size_toArray, List.length_cons, List.length_nil]; omega) | kernel_rfl)) ?_)
        | refine Or.inr ?_
        | refine sat_drawH (Tryd.ok ..) (by kernel_rfl) ?_
        | refine Exists.intro [_] (And.intro (one_byte rfl) ?_)
        | refine Exists.intro [_] (And.intro (fun _ => one_byte rfl) ?_)
        | refine Exists.intro _ (And.intro (And.intro rfl rfl) ?_)
        | refine Exists.intro _ (And.intro (fun _ => And.intro rfl rfl) ?_)
        | refine Exists.intro _ (And.intro rfl ?_))
      refine ⟨k + 1, ⟨by omega, by omega⟩, ?_, ?_⟩
      all_goals ((repeat' (first | exact trivial | exact rfl | refine And.intro ?_ ?_)) <;> (try (conv => whnf)) <;> (try simp only [SV.real, SV.r2, SV.r1]))
  obtain rfl : k = 5 := by omega
  clear hkk hlt
  repeat' ((conv => whnf); first
    | refine walk (Tryd.ok ..) ?_
    | (refine Cnd.mk (fun h => ?_) (fun h => ?_) <;> (first | (exfalso; simp only [decide_eq_true_eq, decide_eq_false_iff_not, Bool.not_eq_true', Bool.not_eq_false'] at h; omega) | simp at h | skip))
    | refine And.intro (Kept.mk ?_) ?_
    | exact trivial
    | refine And.intro (by (first | rfl | (intro h; exact h) | (intro h; exact absurd h Bool.false_ne_true) | omega | exact h | exact congrArg Bool.not h | exact ⟨rfl, rfl⟩ | exact ⟨⟨rfl, rfl⟩, rfl⟩ | exact ⟨⟨rfl, rfl, rfl, rfl⟩, rfl, rfl⟩ | exact trivial | exact ⟨rfl, rfl, rfl, rfl⟩ | exact ⟨⟨rfl, rfl⟩, rfl, rfl⟩ | exact ⟨rfl, Nat.le_of_ble_eq_true rfl, rfl⟩ | exact Nat.le_of_ble_eq_true rfl | (simp only [Grd.ob, Grd.and, InR, kb, Int.toNat_natCast, ByteArray.size_append, ByteArray.size_extract, Sat.strOf_len, List.length_cons, List.length_nil] <;> omega) | (simp only [Grd.ob, Grd.and, InR, kb, Int.toNat_natCast, ByteArray.size_append, ByteArray.size_extract, Sat.strOf_len, List.length_cons, List.length_nil]; intro h; simp at h; omega) | (refine And.intro (by omega) ?_; simp only [ByteArray.size, List.size_toArray, List.length_cons, List.length_nil]; omega) | kernel_rfl)) ?_
    | refine Or.inl (And.intro (by (first | rfl | (intro h; exact h) | (intro h; exact absurd h Bool.false_ne_true) | omega | exact h | exact congrArg Bool.not h | exact ⟨rfl, rfl⟩ | exact ⟨⟨rfl, rfl⟩, rfl⟩ | exact ⟨⟨rfl, rfl, rfl, rfl⟩, rfl, rfl⟩ | exact trivial | exact ⟨rfl, rfl, rfl, rfl⟩ | exact ⟨⟨rfl, rfl⟩, rfl, rfl⟩ | exact ⟨rfl, Nat.le_of_ble_eq_true rfl, rfl⟩ | exact Nat.le_of_ble_eq_true rfl | (simp only [Grd.ob, Grd.and, InR, kb, Int.toNat_natCast, ByteArray.size_append, ByteArray.size_extract, Sat.strOf_len, List.length_cons, List.length_nil] <;> omega) | (simp only [Grd.ob, Grd.and, InR, kb, Int.toNat_natCast, ByteArray.size_append, ByteArray.size_extract, Sat.strOf_len, List.length_cons, List.length_nil]; intro h; simp at h; omega) | (refine And.intro (by omega) ?_; simp only [ByteArray.size, List.size_toArray, List.length_cons, List.length_nil]; omega) | kernel_rfl)) ?_)
    | refine Or.inr ?_
    | refine sat_drawH (Tryd.ok ..) (by kernel_rfl) ?_
    | refine Exists.intro [_] (And.intro (one_byte rfl) ?_)
    | refine Exists.intro [_] (And.intro (fun _ => one_byte rfl) ?_)
    | refine Exists.intro _ (And.intro (And.intro rfl rfl) ?_)
    | refine Exists.intro _ (And.intro (fun _ => And.intro rfl rfl) ?_)
    | refine Exists.intro _ (And.intro rfl ?_))
  refine sat_loop (Tryd.ok ..) (α := Nat) (fun k => ([(13, .yes, .v (.int .i64 k))], [])) (fun k => k ≤ 10000) (fun k => 10000 - k) (fun _ => rfl) ?_ ?_
  · refine ⟨0, Nat.zero_le _, ?_, ?_⟩
    all_goals ((repeat' (first | exact trivial | exact rfl | refine And.intro ?_ ?_)) <;> (try (conv => whnf)) <;> (try simp only [SV.real, SV.r2, SV.r1]))
  intro k hkk
  by_cases hlt : k < 10000
  · repeat' ((conv => whnf); first
      | refine walk (Tryd.ok ..) ?_
      | (refine Cnd.mk (fun h => ?_) (fun h => ?_) <;> (first | (exfalso; simp only [decide_eq_true_eq, decide_eq_false_iff_not, Bool.not_eq_true', Bool.not_eq_false'] at h; omega) | simp at h | skip))
      | refine And.intro (Kept.mk ?_) ?_
      | exact trivial
      | refine And.intro (by (first | rfl | (intro h; exact h) | (intro h; exact absurd h Bool.false_ne_true) | omega | exact h | exact congrArg Bool.not h | exact ⟨rfl, rfl⟩ | exact ⟨⟨rfl, rfl⟩, rfl⟩ | exact ⟨⟨rfl, rfl, rfl, rfl⟩, rfl, rfl⟩ | exact trivial | exact ⟨rfl, rfl, rfl, rfl⟩ | exact ⟨⟨rfl, rfl⟩, rfl, rfl⟩ | exact ⟨rfl, Nat.le_of_ble_eq_true rfl, rfl⟩ | exact Nat.le_of_ble_eq_true rfl | (simp only [Grd.ob, Grd.and, InR, kb, Int.toNat_natCast, ByteArray.size_append, ByteArray.size_extract, Sat.strOf_len, List.length_cons, List.length_nil] <;> omega) | (simp only [Grd.ob, Grd.and, InR, kb, Int.toNat_natCast, ByteArray.size_append, ByteArray.size_extract, Sat.strOf_len, List.length_cons, List.length_nil]; intro h; simp at h; omega) | (refine And.intro (by omega) ?_; simp only [ByteArray.size, List.size_toArray, List.length_cons, List.length_nil]; omega) | kernel_rfl)) ?_
      | refine Or.inl (And.intro (by (first | rfl | (intro h; exact h) | (intro h; exact absurd h Bool.false_ne_true) | omega | exact h | exact congrArg Bool.not h | exact ⟨rfl, rfl⟩ | exact ⟨⟨rfl, rfl⟩, rfl⟩ | exact ⟨⟨rfl, rfl, rfl, rfl⟩, rfl, rfl⟩ | exact trivial | exact ⟨rfl, rfl, rfl, rfl⟩ | exact ⟨⟨rfl, rfl⟩, rfl, rfl⟩ | exact ⟨rfl, Nat.le_of_ble_eq_true rfl, rfl⟩ | exact Nat.le_of_ble_eq_true rfl | (simp only [Grd.ob, Grd.and, InR, kb, Int.toNat_natCast, ByteArray.size_append, ByteArray.size_extract, Sat.strOf_len, List.length_cons, List.length_nil] <;> omega) | (simp only [Grd.ob, Grd.and, InR, kb, Int.toNat_natCast, ByteArray.size_append, ByteArray.size_extract, Sat.strOf_len, List.length_cons, List.length_nil]; intro h; simp at h; omega) | (refine And.intro (by omega) ?_; simp only [ByteArray.size, List.size_toArray, List.length_cons, List.length_nil]; omega) | kernel_rfl)) ?_)
      | refine Or.inr ?_
      | refine sat_drawH (Tryd.ok ..) (by kernel_rfl) ?_
      | refine Exists.intro [_] (And.intro (one_byte rfl) ?_)
      | refine Exists.intro [_] (And.intro (fun _ => one_byte rfl) ?_)
      | refine Exists.intro _ (And.intro (And.intro rfl rfl) ?_)
      | refine Exists.intro _ (And.intro (fun _ => And.intro rfl rfl) ?_)
      | refine Exists.intro _ (And.intro rfl ?_)
      | refine Exists.intro _ (And.intro (fun _ => (bytes4 _ _ _ _)) ?_)
      | refine Exists.intro _ (And.intro (bytes4 _ _ _ _) ?_))
    intro g2 hg2
    repeat' ((conv => whnf); first
      | refine walk (Tryd.ok ..) ?_
      | (refine Cnd.mk (fun h => ?_) (fun h => ?_) <;> (first | (exfalso; simp only [decide_eq_true_eq, decide_eq_false_iff_not, Bool.not_eq_true', Bool.not_eq_false'] at h; omega) | simp at h | skip))
      | refine And.intro (Kept.mk ?_) ?_
      | exact trivial
      | refine And.intro (by (first | rfl | (intro h; exact h) | (intro h; exact absurd h Bool.false_ne_true) | omega | exact h | exact congrArg Bool.not h | exact ⟨rfl, rfl⟩ | exact ⟨⟨rfl, rfl⟩, rfl⟩ | exact ⟨⟨rfl, rfl, rfl, rfl⟩, rfl, rfl⟩ | exact trivial | exact ⟨rfl, rfl, rfl, rfl⟩ | exact ⟨⟨rfl, rfl⟩, rfl, rfl⟩ | exact ⟨rfl, Nat.le_of_ble_eq_true rfl, rfl⟩ | exact Nat.le_of_ble_eq_true rfl | (simp only [Grd.ob, Grd.and, InR, kb, Int.toNat_natCast, ByteArray.size_append, ByteArray.size_extract, Sat.strOf_len, List.length_cons, List.length_nil] <;> omega) | (simp only [Grd.ob, Grd.and, InR, kb, Int.toNat_natCast, ByteArray.size_append, ByteArray.size_extract, Sat.strOf_len, List.length_cons, List.length_nil]; intro h; simp at h; omega) | (refine And.intro (by omega) ?_; simp only [ByteArray.size, List.size_toArray, List.length_cons, List.length_nil]; omega) | kernel_rfl)) ?_
      | refine Or.inl (And.intro (by (first | rfl | (intro h; exact h) | (intro h; exact absurd h Bool.false_ne_true) | omega | exact h | exact congrArg Bool.not h | exact ⟨rfl, rfl⟩ | exact ⟨⟨rfl, rfl⟩, rfl⟩ | exact ⟨⟨rfl, rfl, rfl, rfl⟩, rfl, rfl⟩ | exact trivial | exact ⟨rfl, rfl, rfl, rfl⟩ | exact ⟨⟨rfl, rfl⟩, rfl, rfl⟩ | exact ⟨rfl, Nat.le_of_ble_eq_true rfl, rfl⟩ | exact Nat.le_of_ble_eq_true rfl | (simp only [Grd.ob, Grd.and, InR, kb, Int.toNat_natCast, ByteArray.size_append, ByteArray.size_extract, Sat.strOf_len, List.length_cons, List.length_nil] <;> omega) | (simp only [Grd.ob, Grd.and, InR, kb, Int.toNat_natCast, ByteArray.size_append, ByteArray.size_extract, Sat.strOf_len, List.length_cons, List.length_nil]; intro h; simp at h; omega) | (refine And.intro (by omega) ?_; simp only [ByteArray.size, List.size_toArray, List.length_cons, List.length_nil]; omega) | kernel_rfl)) ?_)
      | refine Or.inr ?_
      | refine sat_drawH (Tryd.ok ..) (by kernel_rfl) ?_
      | refine Exists.intro [_] (And.intro (one_byte rfl) ?_)
      | refine Exists.intro [_] (And.intro (fun _ => one_byte rfl) ?_)
      | refine Exists.intro _ (And.intro (And.intro rfl rfl) ?_)
      | refine Exists.intro _ (And.intro (fun _ => And.intro rfl rfl) ?_)
      | refine Exists.intro _ (And.intro rfl ?_)
      | refine Exists.intro _ (And.intro (fun _ => (bytes4 _ _ _ _)) ?_)
      | refine Exists.intro _ (And.intro (bytes4 _ _ _ _) ?_))
    refine called_at (.v (.bool true)) rfl (fun w' hw => tells_any _ w' b o c (hk.below (below_of rfl rfl hw)) (by try simp only [ByteArray.size_append, ByteArray.size_extract, Sat.strOf_len, rep_size, List.length_cons, List.length_nil]; unfold maxLen; omega)) ?_
    repeat' ((conv => whnf); first
      | refine walk (Tryd.ok ..) ?_
      | (refine Cnd.mk (fun h => ?_) (fun h => ?_) <;> (first | (exfalso; simp only [decide_eq_true_eq, decide_eq_false_iff_not, Bool.not_eq_true', Bool.not_eq_false'] at h; omega) | simp at h | skip))
      | refine And.intro (Kept.mk ?_) ?_
      | exact trivial
      | refine And.intro (by (first | rfl | (intro h; exact h) | (intro h; exact absurd h Bool.false_ne_true) | omega | exact h | exact congrArg Bool.not h | exact ⟨rfl, rfl⟩ | exact ⟨⟨rfl, rfl⟩, rfl⟩ | exact ⟨⟨rfl, rfl, rfl, rfl⟩, rfl, rfl⟩ | exact trivial | exact ⟨rfl, rfl, rfl, rfl⟩ | exact ⟨⟨rfl, rfl⟩, rfl, rfl⟩ | exact ⟨rfl, Nat.le_of_ble_eq_true rfl, rfl⟩ | exact Nat.le_of_ble_eq_true rfl | (simp only [Grd.ob, Grd.and, InR, kb, Int.toNat_natCast, ByteArray.size_append, ByteArray.size_extract, Sat.strOf_len, List.length_cons, List.length_nil] <;> omega) | (simp only [Grd.ob, Grd.and, InR, kb, Int.toNat_natCast, ByteArray.size_append, ByteArray.size_extract, Sat.strOf_len, List.length_cons, List.length_nil]; intro h; simp at h; omega) | (refine And.intro (by omega) ?_; simp only [ByteArray.size, List.size_toArray, List.length_cons, List.length_nil]; omega) | kernel_rfl)) ?_
      | refine Or.inl (And.intro (by (first | rfl | (intro h; exact h) | (intro h; exact absurd h Bool.false_ne_true) | omega | exact h | exact congrArg Bool.not h | exact ⟨rfl, rfl⟩ | exact ⟨⟨rfl, rfl⟩, rfl⟩ | exact ⟨⟨rfl, rfl, rfl, rfl⟩, rfl, rfl⟩ | exact trivial | exact ⟨rfl, rfl, rfl, rfl⟩ | exact ⟨⟨rfl, rfl⟩, rfl, rfl⟩ | exact ⟨rfl, Nat.le_of_ble_eq_true rfl, rfl⟩ | exact Nat.le_of_ble_eq_true rfl | (simp only [Grd.ob, Grd.and, InR, kb, Int.toNat_natCast, ByteArray.size_append, ByteArray.size_extract, Sat.strOf_len, List.length_cons, List.length_nil] <;> omega) | (simp only [Grd.ob, Grd.and, InR, kb, Int.toNat_natCast, ByteArray.size_append, ByteArray.size_extract, Sat.strOf_len, List.length_cons, List.length_nil]; intro h; simp at h; omega) | (refine And.intro (by omega) ?_; simp only [ByteArray.size, List.size_toArray, List.length_cons, List.length_nil]; omega) | kernel_rfl)) ?_)
      | refine Or.inr ?_
      | refine sat_drawH (Tryd.ok ..) (by kernel_rfl) ?_
      | refine Exists.intro [_] (And.intro (one_byte rfl) ?_)
      | refine Exists.intro [_] (And.intro (fun _ => one_byte rfl) ?_)
      | refine Exists.intro _ (And.intro (And.intro rfl rfl) ?_)
      | refine Exists.intro _ (And.intro (fun _ => And.intro rfl rfl) ?_)
      | refine Exists.intro _ (And.intro rfl ?_))
    refine ⟨k + 1, ⟨by omega, by omega⟩, ?_, ?_⟩
    all_goals ((repeat' (first | exact trivial | exact rfl | refine And.intro ?_ ?_)) <;> (try (conv => whnf)) <;> (try simp only [SV.real, SV.r2, SV.r1]))
  obtain rfl : k = 10000 := by omega
  clear hkk hlt
  repeat' ((conv => whnf); first
    | refine walk (Tryd.ok ..) ?_
    | (refine Cnd.mk (fun h => ?_) (fun h => ?_) <;> (first | (exfalso; simp only [decide_eq_true_eq, decide_eq_false_iff_not, Bool.not_eq_true', Bool.not_eq_false'] at h; omega) | simp at h | skip))
    | refine And.intro (Kept.mk ?_) ?_
    | exact trivial
    | refine And.intro (by (first | rfl | (intro h; exact h) | (intro h; exact absurd h Bool.false_ne_true) | omega | exact h | exact congrArg Bool.not h | exact ⟨rfl, rfl⟩ | exact ⟨⟨rfl, rfl⟩, rfl⟩ | exact ⟨⟨rfl, rfl, rfl, rfl⟩, rfl, rfl⟩ | exact trivial | exact ⟨rfl, rfl, rfl, rfl⟩ | exact ⟨⟨rfl, rfl⟩, rfl, rfl⟩ | exact ⟨rfl, Nat.le_of_ble_eq_true rfl, rfl⟩ | exact Nat.le_of_ble_eq_true rfl | (simp only [Grd.ob, Grd.and, InR, kb, Int.toNat_natCast, ByteArray.size_append, ByteArray.size_extract, Sat.strOf_len, List.length_cons, List.length_nil] <;> omega) | (simp only [Grd.ob, Grd.and, InR, kb, Int.toNat_natCast, ByteArray.size_append, ByteArray.size_extract, Sat.strOf_len, List.length_cons, List.length_nil]; intro h; simp at h; omega) | (refine And.intro (by omega) ?_; simp only [ByteArray.size, List.size_toArray, List.length_cons, List.length_nil]; omega) | kernel_rfl)) ?_
    | refine Or.inl (And.intro (by (first | rfl | (intro h; exact h) | (intro h; exact absurd h Bool.false_ne_true) | omega | exact h | exact congrArg Bool.not h | exact ⟨rfl, rfl⟩ | exact ⟨⟨rfl, rfl⟩, rfl⟩ | exact ⟨⟨rfl, rfl, rfl, rfl⟩, rfl, rfl⟩ | exact trivial | exact ⟨rfl, rfl, rfl, rfl⟩ | exact ⟨⟨rfl, rfl⟩, rfl, rfl⟩ | exact ⟨rfl, Nat.le_of_ble_eq_true rfl, rfl⟩ | exact Nat.le_of_ble_eq_true rfl | (simp only [Grd.ob, Grd.and, InR, kb, Int.toNat_natCast, ByteArray.size_append, ByteArray.size_extract, Sat.strOf_len, List.length_cons, List.length_nil] <;> omega) | (simp only [Grd.ob, Grd.and, InR, kb, Int.toNat_natCast, ByteArray.size_append, ByteArray.size_extract, Sat.strOf_len, List.length_cons, List.length_nil]; intro h; simp at h; omega) | (refine And.intro (by omega) ?_; simp only [ByteArray.size, List.size_toArray, List.length_cons, List.length_nil]; omega) | kernel_rfl)) ?_)
    | refine Or.inr ?_
    | refine sat_drawH (Tryd.ok ..) (by kernel_rfl) ?_
    | refine Exists.intro [_] (And.intro (one_byte rfl) ?_)
    | refine Exists.intro [_] (And.intro (fun _ => one_byte rfl) ?_)
    | refine Exists.intro _ (And.intro (And.intro rfl rfl) ?_)
    | refine Exists.intro _ (And.intro (fun _ => And.intro rfl rfl) ?_)
    | refine Exists.intro _ (And.intro rfl ?_))
  refine sat_loop (Tryd.ok ..) (α := Nat) (fun k => ([(14, .yes, .v (.int .i64 k))], [])) (fun k => 27 ≤ k ∧ k ≤ 32) (fun k => 32 - k) (fun _ => rfl) ?_ ?_
  · refine ⟨27, ⟨by omega, by omega⟩, ?_, ?_⟩
    all_goals ((repeat' (first | exact trivial | exact rfl | refine And.intro ?_ ?_)) <;> (try (conv => whnf)) <;> (try simp only [SV.real, SV.r2, SV.r1]))
  rintro k ⟨hk0, hkk⟩
  by_cases hlt : k < 32
  · obtain ⟨r1, z1, h1⟩ := rep_any ⟨#[32]⟩ k rfl (by omega)
    obtain ⟨r2, z2, h2⟩ := rep_any ⟨#[45]⟩ k rfl (by omega)
    have y1 : (r1 ++ ⟨#[67, 83, 81, 85, 51, 48, 53, 52, 51, 56, 51]⟩).size ≤ maxLen := by rw [ByteArray.size_append, hlit11]; unfold maxLen; omega
    have y2 : ((⟨#[67, 83, 81, 85, 51, 48, 53, 52, 51, 56]⟩ : ByteArray) ++ r2 ++ ⟨#[51]⟩).size ≤ maxLen := by rw [ByteArray.size_append, ByteArray.size_append, hlit10, hlit1]; unfold maxLen; omega
    repeat' ((conv => whnf); first
      | refine walk (Tryd.ok ..) ?_
      | (refine Cnd.mk (fun h => ?_) (fun h => ?_) <;> (first | (exfalso; simp only [decide_eq_true_eq, decide_eq_false_iff_not, Bool.not_eq_true', Bool.not_eq_false'] at h; omega) | simp at h | skip))
      | refine And.intro (Kept.mk ?_) ?_
      | exact trivial
      | refine And.intro (by (first | rfl | (intro h; exact h) | (intro h; exact absurd h Bool.false_ne_true) | omega | exact h | exact congrArg Bool.not h | exact ⟨rfl, rfl⟩ | exact ⟨⟨rfl, rfl⟩, rfl⟩ | exact ⟨⟨rfl, rfl, rfl, rfl⟩, rfl, rfl⟩ | exact trivial | exact ⟨rfl, rfl, rfl, rfl⟩ | exact ⟨⟨rfl, rfl⟩, rfl, rfl⟩ | exact ⟨rfl, Nat.le_of_ble_eq_true rfl, rfl⟩ | exact Nat.le_of_ble_eq_true rfl | (simp only [Grd.ob, Grd.and, InR, kb, Int.toNat_natCast, ByteArray.size_append, ByteArray.size_extract, Sat.strOf_len, List.length_cons, List.length_nil] <;> omega) | (simp only [Grd.ob, Grd.and, InR, kb, Int.toNat_natCast, ByteArray.size_append, ByteArray.size_extract, Sat.strOf_len, List.length_cons, List.length_nil]; intro h; simp at h; omega) | (refine And.intro (by omega) ?_; simp only [ByteArray.size, List.size_toArray, List.length_cons, List.length_nil]; omega) | kernel_rfl)) ?_
      | refine Or.inl (And.intro (by (first | rfl | (intro h; exact h) | (intro h; exact absurd h Bool.false_ne_true) | omega | exact h | exact congrArg Bool.not h | exact ⟨rfl, rfl⟩ | exact ⟨⟨rfl, rfl⟩, rfl⟩ | exact ⟨⟨rfl, rfl, rfl, rfl⟩, rfl, rfl⟩ | exact trivial | exact ⟨rfl, rfl, rfl, rfl⟩ | exact ⟨⟨rfl, rfl⟩, rfl, rfl⟩ | exact ⟨rfl, Nat.le_of_ble_eq_true rfl, rfl⟩ | exact Nat.le_of_ble_eq_true rfl | (simp only [Grd.ob, Grd.and, InR, kb, Int.toNat_natCast, ByteArray.size_append, ByteArray.size_extract, Sat.strOf_len, List.length_cons, List.length_nil] <;> omega) | (simp only [Grd.ob, Grd.and, InR, kb, Int.toNat_natCast, ByteArray.size_append, ByteArray.size_extract, Sat.strOf_len, List.length_cons, List.length_nil]; intro h; simp at h; omega) | (refine And.intro (by omega) ?_; simp only [ByteArray.size, List.size_toArray, List.length_cons, List.length_nil]; omega) | kernel_rfl)) ?_)
      | refine Or.inr ?_
      | refine sat_drawH (Tryd.ok ..) (by kernel_rfl) ?_
      | refine Exists.intro [_] (And.intro (one_byte rfl) ?_)
      | refine Exists.intro [_] (And.intro (fun _ => one_byte rfl) ?_)
      | refine Exists.intro _ (And.intro (And.intro rfl rfl) ?_)
      | refine Exists.intro _ (And.intro (fun _ => And.intro rfl rfl) ?_)
      | refine Exists.intro _ (And.intro rfl ?_))
    refine called_pure (.v (.string r1)) rfl (fun w' => h1 w') ?_
    repeat' ((conv => whnf); first
      | refine walk (Tryd.ok ..) ?_
      | (refine Cnd.mk (fun h => ?_) (fun h => ?_) <;> (first | (exfalso; simp only [decide_eq_true_eq, decide_eq_false_iff_not, Bool.not_eq_true', Bool.not_eq_false'] at h; omega) | simp at h | skip))
      | refine And.intro (Kept.mk ?_) ?_
      | exact trivial
      | refine And.intro (by (first | rfl | (intro h; exact h) | (intro h; exact absurd h Bool.false_ne_true) | omega | exact h | exact congrArg Bool.not h | exact ⟨rfl, rfl⟩ | exact ⟨⟨rfl, rfl⟩, rfl⟩ | exact ⟨⟨rfl, rfl, rfl, rfl⟩, rfl, rfl⟩ | exact trivial | exact ⟨rfl, rfl, rfl, rfl⟩ | exact ⟨⟨rfl, rfl⟩, rfl, rfl⟩ | exact ⟨rfl, Nat.le_of_ble_eq_true rfl, rfl⟩ | exact Nat.le_of_ble_eq_true rfl | (simp only [Grd.ob, Grd.and, InR, kb, Int.toNat_natCast, ByteArray.size_append, ByteArray.size_extract, Sat.strOf_len, List.length_cons, List.length_nil] <;> omega) | (simp only [Grd.ob, Grd.and, InR, kb, Int.toNat_natCast, ByteArray.size_append, ByteArray.size_extract, Sat.strOf_len, List.length_cons, List.length_nil]; intro h; simp at h; omega) | (refine And.intro (by omega) ?_; simp only [ByteArray.size, List.size_toArray, List.length_cons, List.length_nil]; omega) | kernel_rfl)) ?_
      | refine Or.inl (And.intro (by (first | rfl | (intro h; exact h) | (intro h; exact absurd h Bool.false_ne_true) | omega | exact h | exact congrArg Bool.not h | exact ⟨rfl, rfl⟩ | exact ⟨⟨rfl, rfl⟩, rfl⟩ | exact ⟨⟨rfl, rfl, rfl, rfl⟩, rfl, rfl⟩ | exact trivial | exact ⟨rfl, rfl, rfl, rfl⟩ | exact ⟨⟨rfl, rfl⟩, rfl, rfl⟩ | exact ⟨rfl, Nat.le_of_ble_eq_true rfl, rfl⟩ | exact Nat.le_of_ble_eq_true rfl | (simp only [Grd.ob, Grd.and, InR, kb, Int.toNat_natCast, ByteArray.size_append, ByteArray.size_extract, Sat.strOf_len, List.length_cons, List.length_nil] <;> omega) | (simp only [Grd.ob, Grd.and, InR, kb, Int.toNat_natCast, ByteArray.size_append, ByteArray.size_extract, Sat.strOf_len, List.length_cons, List.length_nil]; intro h; simp at h; omega) | (refine And.intro (by omega) ?_; simp only [ByteArray.size, List.size_toArray, List.length_cons, List.length_nil]; omega) | kernel_rfl)) ?_)
      | refine Or.inr ?_
      | refine sat_drawH (Tryd.ok ..) (by kernel_rfl) ?_
      | refine Exists.intro [_] (And.intro (one_byte rfl) ?_)
      | refine Exists.intro [_] (And.intro (fun _ => one_byte rfl) ?_)
      | refine Exists.intro _ (And.intro (And.intro rfl rfl) ?_)
      | refine Exists.intro _ (And.intro (fun _ => And.intro rfl rfl) ?_)
      | refine Exists.intro _ (And.intro rfl ?_))
    refine called_at (.v (.bool true)) rfl (fun w' hw => tells_any _ w' b o c (hk.below (below_of rfl rfl hw)) y1) ?_
    repeat' ((conv => whnf); first
      | refine walk (Tryd.ok ..) ?_
      | (refine Cnd.mk (fun h => ?_) (fun h => ?_) <;> (first | (exfalso; simp only [decide_eq_true_eq, decide_eq_false_iff_not, Bool.not_eq_true', Bool.not_eq_false'] at h; omega) | simp at h | skip))
      | refine And.intro (Kept.mk ?_) ?_
      | exact trivial
      | refine And.intro (by (first | rfl | (intro h; exact h) | (intro h; exact absurd h Bool.false_ne_true) | omega | exact h | exact congrArg Bool.not h | exact ⟨rfl, rfl⟩ | exact ⟨⟨rfl, rfl⟩, rfl⟩ | exact ⟨⟨rfl, rfl, rfl, rfl⟩, rfl, rfl⟩ | exact trivial | exact ⟨rfl, rfl, rfl, rfl⟩ | exact ⟨⟨rfl, rfl⟩, rfl, rfl⟩ | exact ⟨rfl, Nat.le_of_ble_eq_true rfl, rfl⟩ | exact Nat.le_of_ble_eq_true rfl | (simp only [Grd.ob, Grd.and, InR, kb, Int.toNat_natCast, ByteArray.size_append, ByteArray.size_extract, Sat.strOf_len, List.length_cons, List.length_nil] <;> omega) | (simp only [Grd.ob, Grd.and, InR, kb, Int.toNat_natCast, ByteArray.size_append, ByteArray.size_extract, Sat.strOf_len, List.length_cons, List.length_nil]; intro h; simp at h; omega) | (refine And.intro (by omega) ?_; simp only [ByteArray.size, List.size_toArray, List.length_cons, List.length_nil]; omega) | kernel_rfl)) ?_
      | refine Or.inl (And.intro (by (first | rfl | (intro h; exact h) | (intro h; exact absurd h Bool.false_ne_true) | omega | exact h | exact congrArg Bool.not h | exact ⟨rfl, rfl⟩ | exact ⟨⟨rfl, rfl⟩, rfl⟩ | exact ⟨⟨rfl, rfl, rfl, rfl⟩, rfl, rfl⟩ | exact trivial | exact ⟨rfl, rfl, rfl, rfl⟩ | exact ⟨⟨rfl, rfl⟩, rfl, rfl⟩ | exact ⟨rfl, Nat.le_of_ble_eq_true rfl, rfl⟩ | exact Nat.le_of_ble_eq_true rfl | (simp only [Grd.ob, Grd.and, InR, kb, Int.toNat_natCast, ByteArray.size_append, ByteArray.size_extract, Sat.strOf_len, List.length_cons, List.length_nil] <;> omega) | (simp only [Grd.ob, Grd.and, InR, kb, Int.toNat_natCast, ByteArray.size_append, ByteArray.size_extract, Sat.strOf_len, List.length_cons, List.length_nil]; intro h; simp at h; omega) | (refine And.intro (by omega) ?_; simp only [ByteArray.size, List.size_toArray, List.length_cons, List.length_nil]; omega) | kernel_rfl)) ?_)
      | refine Or.inr ?_
      | refine sat_drawH (Tryd.ok ..) (by kernel_rfl) ?_
      | refine Exists.intro [_] (And.intro (one_byte rfl) ?_)
      | refine Exists.intro [_] (And.intro (fun _ => one_byte rfl) ?_)
      | refine Exists.intro _ (And.intro (And.intro rfl rfl) ?_)
      | refine Exists.intro _ (And.intro (fun _ => And.intro rfl rfl) ?_)
      | refine Exists.intro _ (And.intro rfl ?_))
    refine calledQ_pure (.v (.string r2)) rfl (fun _ w' => h2 w') ?_
    repeat' ((conv => whnf); first
      | refine walk (Tryd.ok ..) ?_
      | (refine Cnd.mk (fun h => ?_) (fun h => ?_) <;> (first | (exfalso; simp only [decide_eq_true_eq, decide_eq_false_iff_not, Bool.not_eq_true', Bool.not_eq_false'] at h; omega) | simp at h | skip))
      | refine And.intro (Kept.mk ?_) ?_
      | exact trivial
      | refine And.intro (by (first | rfl | (intro h; exact h) | (intro h; exact absurd h Bool.false_ne_true) | omega | exact h | exact congrArg Bool.not h | exact ⟨rfl, rfl⟩ | exact ⟨⟨rfl, rfl⟩, rfl⟩ | exact ⟨⟨rfl, rfl, rfl, rfl⟩, rfl, rfl⟩ | exact trivial | exact ⟨rfl, rfl, rfl, rfl⟩ | exact ⟨⟨rfl, rfl⟩, rfl, rfl⟩ | exact ⟨rfl, Nat.le_of_ble_eq_true rfl, rfl⟩ | exact Nat.le_of_ble_eq_true rfl | (simp only [Grd.ob, Grd.and, InR, kb, Int.toNat_natCast, ByteArray.size_append, ByteArray.size_extract, Sat.strOf_len, List.length_cons, List.length_nil] <;> omega) | (simp only [Grd.ob, Grd.and, InR, kb, Int.toNat_natCast, ByteArray.size_append, ByteArray.size_extract, Sat.strOf_len, List.length_cons, List.length_nil]; intro h; simp at h; omega) | (refine And.intro (by omega) ?_; simp only [ByteArray.size, List.size_toArray, List.length_cons, List.length_nil]; omega) | kernel_rfl)) ?_
      | refine Or.inl (And.intro (by (first | rfl | (intro h; exact h) | (intro h; exact absurd h Bool.false_ne_true) | omega | exact h | exact congrArg Bool.not h | exact ⟨rfl, rfl⟩ | exact ⟨⟨rfl, rfl⟩, rfl⟩ | exact ⟨⟨rfl, rfl, rfl, rfl⟩, rfl, rfl⟩ | exact trivial | exact ⟨rfl, rfl, rfl, rfl⟩ | exact ⟨⟨rfl, rfl⟩, rfl, rfl⟩ | exact ⟨rfl, Nat.le_of_ble_eq_true rfl, rfl⟩ | exact Nat.le_of_ble_eq_true rfl | (simp only [Grd.ob, Grd.and, InR, kb, Int.toNat_natCast, ByteArray.size_append, ByteArray.size_extract, Sat.strOf_len, List.length_cons, List.length_nil] <;> omega) | (simp only [Grd.ob, Grd.and, InR, kb, Int.toNat_natCast, ByteArray.size_append, ByteArray.size_extract, Sat.strOf_len, List.length_cons, List.length_nil]; intro h; simp at h; omega) | (refine And.intro (by omega) ?_; simp only [ByteArray.size, List.size_toArray, List.length_cons, List.length_nil]; omega) | kernel_rfl)) ?_)
      | refine Or.inr ?_
      | refine sat_drawH (Tryd.ok ..) (by kernel_rfl) ?_
      | refine Exists.intro [_] (And.intro (one_byte rfl) ?_)
      | refine Exists.intro [_] (And.intro (fun _ => one_byte rfl) ?_)
      | refine Exists.intro _ (And.intro (And.intro rfl rfl) ?_)
      | refine Exists.intro _ (And.intro (fun _ => And.intro rfl rfl) ?_)
      | refine Exists.intro _ (And.intro rfl ?_))
    refine calledQ_at (.v (.bool true)) rfl (fun _ w' hw => tells_any _ w' b o c (hk.below (below_of rfl rfl hw)) y2) ?_
    repeat' ((conv => whnf); first
      | refine walk (Tryd.ok ..) ?_
      | (refine Cnd.mk (fun h => ?_) (fun h => ?_) <;> (first | (exfalso; simp only [decide_eq_true_eq, decide_eq_false_iff_not, Bool.not_eq_true', Bool.not_eq_false'] at h; omega) | simp at h | skip))
      | refine And.intro (Kept.mk ?_) ?_
      | exact trivial
      | refine And.intro (by (first | rfl | (intro h; exact h) | (intro h; exact absurd h Bool.false_ne_true) | omega | exact h | exact congrArg Bool.not h | exact ⟨rfl, rfl⟩ | exact ⟨⟨rfl, rfl⟩, rfl⟩ | exact ⟨⟨rfl, rfl, rfl, rfl⟩, rfl, rfl⟩ | exact trivial | exact ⟨rfl, rfl, rfl, rfl⟩ | exact ⟨⟨rfl, rfl⟩, rfl, rfl⟩ | exact ⟨rfl, Nat.le_of_ble_eq_true rfl, rfl⟩ | exact Nat.le_of_ble_eq_true rfl | (simp only [Grd.ob, Grd.and, InR, kb, Int.toNat_natCast, ByteArray.size_append, ByteArray.size_extract, Sat.strOf_len, List.length_cons, List.length_nil] <;> omega) | (simp only [Grd.ob, Grd.and, InR, kb, Int.toNat_natCast, ByteArray.size_append, ByteArray.size_extract, Sat.strOf_len, List.length_cons, List.length_nil]; intro h; simp at h; omega) | (refine And.intro (by omega) ?_; simp only [ByteArray.size, List.size_toArray, List.length_cons, List.length_nil]; omega) | kernel_rfl)) ?_
      | refine Or.inl (And.intro (by (first | rfl | (intro h; exact h) | (intro h; exact absurd h Bool.false_ne_true) | omega | exact h | exact congrArg Bool.not h | exact ⟨rfl, rfl⟩ | exact ⟨⟨rfl, rfl⟩, rfl⟩ | exact ⟨⟨rfl, rfl, rfl, rfl⟩, rfl, rfl⟩ | exact trivial | exact ⟨rfl, rfl, rfl, rfl⟩ | exact ⟨⟨rfl, rfl⟩, rfl, rfl⟩ | exact ⟨rfl, Nat.le_of_ble_eq_true rfl, rfl⟩ | exact Nat.le_of_ble_eq_true rfl | (simp only [Grd.ob, Grd.and, InR, kb, Int.toNat_natCast, ByteArray.size_append, ByteArray.size_extract, Sat.strOf_len, List.length_cons, List.length_nil] <;> omega) | (simp only [Grd.ob, Grd.and, InR, kb, Int.toNat_natCast, ByteArray.size_append, ByteArray.size_extract, Sat.strOf_len, List.length_cons, List.length_nil]; intro h; simp at h; omega) | (refine And.intro (by omega) ?_; simp only [ByteArray.size, List.size_toArray, List.length_cons, List.length_nil]; omega) | kernel_rfl)) ?_)
      | refine Or.inr ?_
      | refine sat_drawH (Tryd.ok ..) (by kernel_rfl) ?_
      | refine Exists.intro [_] (And.intro (one_byte rfl) ?_)
      | refine Exists.intro [_] (And.intro (fun _ => one_byte rfl) ?_)
      | refine Exists.intro _ (And.intro (And.intro rfl rfl) ?_)
      | refine Exists.intro _ (And.intro (fun _ => And.intro rfl rfl) ?_)
      | refine Exists.intro _ (And.intro rfl ?_))
    refine ⟨k + 1, ⟨by omega, by omega⟩, ?_, ?_⟩
    all_goals ((repeat' (first | exact trivial | exact rfl | refine And.intro ?_ ?_)) <;> (try (conv => whnf)) <;> (try simp only [SV.real, SV.r2, SV.r1]))
  obtain rfl : k = 32 := by omega
  repeat' ((conv => whnf); first
    | refine walk (Tryd.ok ..) ?_
    | (refine Cnd.mk (fun h => ?_) (fun h => ?_) <;> (first | (exfalso; simp only [decide_eq_true_eq, decide_eq_false_iff_not, Bool.not_eq_true', Bool.not_eq_false'] at h; omega) | simp at h | skip))
    | refine And.intro (Kept.mk ?_) ?_
    | exact trivial
    | refine And.intro (by (first | rfl | (intro h; exact h) | (intro h; exact absurd h Bool.false_ne_true) | omega | exact h | exact congrArg Bool.not h | exact ⟨rfl, rfl⟩ | exact ⟨⟨rfl, rfl⟩, rfl⟩ | exact ⟨⟨rfl, rfl, rfl, rfl⟩, rfl, rfl⟩ | exact trivial | exact ⟨rfl, rfl, rfl, rfl⟩ | exact ⟨⟨rfl, rfl⟩, rfl, rfl⟩ | exact ⟨rfl, Nat.le_of_ble_eq_true rfl, rfl⟩ | exact Nat.le_of_ble_eq_true rfl | (simp only [Grd.ob, Grd.and, InR, kb, Int.toNat_natCast, ByteArray.size_append, ByteArray.size_extract, Sat.strOf_len, List.length_cons, List.length_nil] <;> omega) | (simp only [Grd.ob, Grd.and, InR, kb, Int.toNat_natCast, ByteArray.size_append, ByteArray.size_extract, Sat.strOf_len, List.length_cons, List.length_nil]; intro h; simp at h; omega) | (refine And.intro (by omega) ?_; simp only [ByteArray.size, List.size_toArray, List.length_cons, List.length_nil]; omega) | kernel_rfl)) ?_
    | refine Or.inl (And.intro (by (first | rfl | (intro h; exact h) | (intro h; exact absurd h Bool.false_ne_true) | omega | exact h | exact congrArg Bool.not h | exact ⟨rfl, rfl⟩ | exact ⟨⟨rfl, rfl⟩, rfl⟩ | exact ⟨⟨rfl, rfl, rfl, rfl⟩, rfl, rfl⟩ | exact trivial | exact ⟨rfl, rfl, rfl, rfl⟩ | exact ⟨⟨rfl, rfl⟩, rfl, rfl⟩ | exact ⟨rfl, Nat.le_of_ble_eq_true rfl, rfl⟩ | exact Nat.le_of_ble_eq_true rfl | (simp only [Grd.ob, Grd.and, InR, kb, Int.toNat_natCast, ByteArray.size_append, ByteArray.size_extract, Sat.strOf_len, List.length_cons, List.length_nil] <;> omega) | (simp only [Grd.ob, Grd.and, InR, kb, Int.toNat_natCast, ByteArray.size_append, ByteArray.size_extract, Sat.strOf_len, List.length_cons, List.length_nil]; intro h; simp at h; omega) | (refine And.intro (by omega) ?_; simp only [ByteArray.size, List.size_toArray, List.length_cons, List.length_nil]; omega) | kernel_rfl)) ?_)
    | refine Or.inr ?_
    | refine sat_drawH (Tryd.ok ..) (by kernel_rfl) ?_
    | refine Exists.intro [_] (And.intro (one_byte rfl) ?_)
    | refine Exists.intro [_] (And.intro (fun _ => one_byte rfl) ?_)
    | refine Exists.intro _ (And.intro (And.intro rfl rfl) ?_)
    | refine Exists.intro _ (And.intro (fun _ => And.intro rfl rfl) ?_)
    | refine Exists.intro _ (And.intro rfl ?_))
  refine called_at (.v (.bool true)) rfl (fun w' hw => awake_any w' b o c (hk.below (below_of rfl rfl hw))) ?_
  repeat' ((conv => whnf); first
    | refine walk (Tryd.ok ..) ?_
    | (refine Cnd.mk (fun h => ?_) (fun h => ?_) <;> (first | (exfalso; simp only [decide_eq_true_eq, decide_eq_false_iff_not, Bool.not_eq_true', Bool.not_eq_false'] at h; omega) | simp at h | skip))
    | refine And.intro (Kept.mk ?_) ?_
    | exact trivial
    | refine And.intro (by (first | rfl | (intro h; exact h) | (intro h; exact absurd h Bool.false_ne_true) | omega | exact h | exact congrArg Bool.not h | exact ⟨rfl, rfl⟩ | exact ⟨⟨rfl, rfl⟩, rfl⟩ | exact ⟨⟨rfl, rfl, rfl, rfl⟩, rfl, rfl⟩ | exact trivial | exact ⟨rfl, rfl, rfl, rfl⟩ | exact ⟨⟨rfl, rfl⟩, rfl, rfl⟩ | exact ⟨rfl, Nat.le_of_ble_eq_true rfl, rfl⟩ | exact Nat.le_of_ble_eq_true rfl | (simp only [Grd.ob, Grd.and, InR, kb, Int.toNat_natCast, ByteArray.size_append, ByteArray.size_extract, Sat.strOf_len, List.length_cons, List.length_nil] <;> omega) | (simp only [Grd.ob, Grd.and, InR, kb, Int.toNat_natCast, ByteArray.size_append, ByteArray.size_extract, Sat.strOf_len, List.length_cons, List.length_nil]; intro h; simp at h; omega) | (refine And.intro (by omega) ?_; simp only [ByteArray.size, List.size_toArray, List.length_cons, List.length_nil]; omega) | kernel_rfl)) ?_
    | refine Or.inl (And.intro (by (first | rfl | (intro h; exact h) | (intro h; exact absurd h Bool.false_ne_true) | omega | exact h | exact congrArg Bool.not h | exact ⟨rfl, rfl⟩ | exact ⟨⟨rfl, rfl⟩, rfl⟩ | exact ⟨⟨rfl, rfl, rfl, rfl⟩, rfl, rfl⟩ | exact trivial | exact ⟨rfl, rfl, rfl, rfl⟩ | exact ⟨⟨rfl, rfl⟩, rfl, rfl⟩ | exact ⟨rfl, Nat.le_of_ble_eq_true rfl, rfl⟩ | exact Nat.le_of_ble_eq_true rfl | (simp only [Grd.ob, Grd.and, InR, kb, Int.toNat_natCast, ByteArray.size_append, ByteArray.size_extract, Sat.strOf_len, List.length_cons, List.length_nil] <;> omega) | (simp only [Grd.ob, Grd.and, InR, kb, Int.toNat_natCast, ByteArray.size_append, ByteArray.size_extract, Sat.strOf_len, List.length_cons, List.length_nil]; intro h; simp at h; omega) | (refine And.intro (by omega) ?_; simp only [ByteArray.size, List.size_toArray, List.length_cons, List.length_nil]; omega) | kernel_rfl)) ?_)
    | refine Or.inr ?_
    | refine sat_drawH (Tryd.ok ..) (by kernel_rfl) ?_
    | refine Exists.intro [_] (And.intro (one_byte rfl) ?_)
    | refine Exists.intro [_] (And.intro (fun _ => one_byte rfl) ?_)
    | refine Exists.intro _ (And.intro (And.intro rfl rfl) ?_)
    | refine Exists.intro _ (And.intro (fun _ => And.intro rfl rfl) ?_)
    | refine Exists.intro _ (And.intro rfl ?_))
  exact done_pure rfl rfl rfl
end Go.Proofs.YtedpadjlkddgjaaDoor

