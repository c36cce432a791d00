/-
  The walk of IsoMisses.
-/
import Derived.Test.YtedpadjlkddgjaaDoorTab
import Derived.Test.YtedpadjlkddgjaaDoorP
import Derived.Test.YtedpadjlkddgjaaDoorMiss2
namespace Go.Proofs.YtedpadjlkddgjaaDoor
open Go Sat Go.RowKit Go.PlainAid
theorem mdS_right (n : Int) (h : 0 ≤ n) (w : World) : Calls Tryd.prog 14 #[.string (mdS n)] w fun e w' => e = .returned (.bool true) ∧ Below w.heap.size w w' := by
  have hc := right_any (mdS n) w (by rw [mdS_size]; unfold maxLen; omega)
  rw [mdS_chk h] at hc
  exact hc
theorem mdS_misses (n : Int) (h : 0 ≤ n) (w : World) : Calls Tryd.prog 16 #[.string (mdS n)] w fun e w' => ∃ v, e = .returned (.tuple #[v, .int .i64 0]) ∧ w'.ownsRow w.heap.size 34 2 v (mall (mdS n) 11).length (cells2 (mall (mdS n) 11)) ∧ Below w.heap.size w w' :=
  misses_yes (mdS n) w (mdS_size n) (mdS_chk h)
theorem two_cells {xs : List Value} {o : Nat} {a b : Value} (h0 : xs[o]? = some a) (h1 : xs[o + 1]? = some b) : ∀ i, i < 2 → xs[o + i]? = [a, b][i]? := by
  intro i hi
  obtain rfl | rfl : i = 0 ∨ i = 1 := by omega
  · exact h0
  · exact h1
/-- whether an error stands among the first ones -/
def toldTo (l : List (Nat × Int)) (i : Nat) (x : Int) (k : Nat) : Bool := inL (l.take k) i x
theorem toldTo_succ {l : List (Nat × Int)} {i : Nat} {x : Int} {k : Nat} (h : k < l.length) : toldTo l i x (k + 1) = (toldTo l i x k || ((l[k]'h).1 == i && (l[k]'h).2 == x)) := by
  unfold toldTo
  rw [List.take_succ_eq_append_getElem h, inL_append]
  simp [inL]
theorem mdB_dig {n : Int} (h : 0 ≤ n) {i : Nat} (hi : i < 10) (h3 : 3 < i) : 48 ≤ bt (mdP n) i ∧ bt (mdP n) i ≤ 57 := by
  rw [bt_mdP h hi]
  have := mdB_may h hi
  rw [mayI_dig h3 (by omega)] at this
  unfold isDig at this
  simp at this
  exact this
theorem tell_not {n : Int} {i tb : Nat} (hi : i < 11) (h : (((tb : Int) = bt (mdS n) i ∨ (i : Int) < 3 ∧ ((tb : Int) < 65 ∨ 90 < (tb : Int))) ∨ (((i : Int) = 3 ∧ ¬ (tb : Int) = 85) ∧ ¬ (tb : Int) = 74) ∧ ¬ (tb : Int) = 90) ∨ 3 < (i : Int) ∧ ((tb : Int) < 48 ∨ 57 < (tb : Int))) : hit (mdS n) i tb = false := by
  unfold hit
  rcases h with ((h | ⟨h, h2⟩) | ⟨⟨⟨h, h1⟩, h2⟩, h3⟩) | ⟨h, h2⟩
  · simp [h]
  · rw [mayI_let (by omega)]; unfold isLet; simp; intros; omega
  · obtain rfl : i = 3 := by omega
    rw [mayI_grp]; unfold isGrp; simp [h1, h2, h3]
  · rw [mayI_dig (by omega) hi]; unfold isDig; simp; intros; omega
theorem tell_may {i tb : Nat} (hi : i < 11) (h1 : (i : Int) < 3 → 65 ≤ (tb : Int) ∧ (tb : Int) ≤ 90) (h2 : (i : Int) = 3 → ¬ (tb : Int) = 85 → ¬ (tb : Int) = 74 → (tb : Int) = 90) (h3 : 3 < (i : Int) → 48 ≤ (tb : Int) ∧ (tb : Int) ≤ 57) : mayI i tb = true := by
  rcases Nat.lt_trichotomy i 3 with h | rfl | h
  · rw [mayI_let h]; unfold isLet; have := h1 (by omega); simp; omega
  · rw [mayI_grp]; unfold isGrp
    have := h2 rfl
    by_cases a : (tb : Int) = 85
    · simp [a]
    · by_cases b : (tb : Int) = 74
      · simp [b]
      · simp [this a b]
  · rw [mayI_dig h hi]; unfold isDig; have := h3 (by omega); simp; omega
theorem hit_ten {n : Int} {i tb : Nat} (hn : 0 ≤ n) (hi : i < 10) (ht : tb < 256) (hm : mayI i tb = true) (hne : (tb : Int) ≠ bt (mdS n) i) :
    hit (mdS n) i tb = ((dsum (mdP n) 10 % 11 == dsum (setB (mdP n) i tb) 10 % 11) || (dsum (mdP n) 10 % 11 % 10 == 0 && dsum (setB (mdP n) i tb) 10 % 11 % 10 == 0)) ∧ chk (setB (mdP n) i tb ++ strOf [mdD n]) = if hit (mdS n) i tb then 0 else 31 := by
  have hD := digI_bd (mdP n) 10
  have hc : chk (setB (mdP n) i tb ++ strOf [mdD n]) = if digI (setB (mdP n) i tb) 10 = mdD n then 0 else 31 :=
    chk_app (setP_size hi _) (setP_formed hn hi (by omega) (by omega) hm) hD.1 hD.2
  have e : hit (mdS n) i tb = decide (digI (setB (mdP n) i tb) 10 = mdD n) := by
    unfold hit
    rw [setS_eq hi (by omega) (by omega), hc, hm]
    by_cases q : digI (setB (mdP n) i tb) 10 = mdD n
    · simp [q, hne]
    · simp [q]
  refine ⟨?_, ?_⟩
  · rw [e]
    unfold mdD digI
    have a1 := Int.emod_nonneg (dsum (mdP n) 10) (show (11 : Int) ≠ 0 by decide)
    have a2 := Int.emod_lt_of_pos (dsum (mdP n) 10) (show (0 : Int) < 11 by decide)
    have b1 := Int.emod_nonneg (dsum (setB (mdP n) i tb) 10) (show (11 : Int) ≠ 0 by decide)
    have b2 := Int.emod_lt_of_pos (dsum (setB (mdP n) i tb) 10) (show (0 : Int) < 11 by decide)
    generalize dsum (mdP n) 10 % 11 = x at *
    generalize dsum (setB (mdP n) i tb) 10 % 11 = y at *
    rw [Bool.eq_iff_iff]
    simp
    omega
  · rw [hc, e]; simp
theorem hit_last {n : Int} {tb : Nat} (hn : 0 ≤ n) (hd : 48 ≤ (tb : Int) ∧ (tb : Int) ≤ 57) (hne : (tb : Int) ≠ bt (mdS n) 10) : hit (mdS n) 10 tb = false := by
  unfold hit
  rw [setS_last (by omega) (by omega), chk_app (mdP_size n) (mdP_formed hn) hd.1 hd.2, if_neg]
  · simp
  · intro h
    apply hne
    rw [bt_mdS10, ← h]
    rfl
theorem chk_last {n : Int} {tb : Nat} (hn : 0 ≤ n) (hd : 48 ≤ (tb : Int) ∧ (tb : Int) ≤ 57) (hne : (tb : Int) ≠ bt (mdS n) 10) : chk (mdP n ++ strOf [(tb : Int)]) = 31 := by
  rw [chk_app (mdP_size n) (mdP_formed hn) hd.1 hd.2, if_neg]
  intro h
  apply hne
  rw [bt_mdS10, ← h]
  rfl
set_option maxRecDepth 100000 in
set_option maxHeartbeats 8000000 in
theorem isoMisses_any (n at_ : Int) (tb : Nat) (w : World) (b o c : Nat) (hk : Kin w b o c) (hn0 : 0 ≤ n) (hn1 : n ≤ 18446744073709551615) (hi0 : -9223372036854775808 ≤ at_) (hi1 : at_ ≤ 9223372036854775807) (ht : tb < 256) :
    Calls Tryd.prog 4 #[.int .u64 n, .int .i64 at_, .int .u8 tb] w fun e w' => e = .returned (.bool true) ∧ Below w.heap.size w w' := by
  refine calls_sat (cx := Tryd.cx 230 [] [] [] w) (Tryd.ok ..) Tryd.func4 rfl [.v (.int .u64 n), .v (.int .i64 at_), .v (.int .u8 tb)] rfl (by show 3 ≤ 230; omega) [] (holds_nil (Nat.le_refl _)) ?_
  repeat' ((conv => whnf); first
    | refine walk (Tryd.ok ..) ?_
    | (refine Cnd.mk (fun h => ?_) (fun h => ?_) <;> (first | (exfalso; simp only [decide_eq_true_eq, decide_eq_false_iff_not, Bool.not_eq_true', Bool.not_eq_false'] at h; omega) | simp at h | skip))
    | refine And.intro (Kept.mk ?_) ?_
    | exact trivial
    | refine And.intro (by (first | rfl | (intro h; exact h) | (intro h; exact absurd h Bool.false_ne_true) | omega | exact h | exact congrArg Bool.not h | exact ⟨rfl, rfl⟩ | exact ⟨⟨rfl, rfl⟩, rfl⟩ | exact ⟨⟨rfl, rfl, rfl, rfl⟩, rfl, rfl⟩ | exact trivial | exact ⟨rfl, rfl, rfl, rfl⟩ | exact ⟨⟨rfl, rfl⟩, rfl, rfl⟩ | exact ⟨rfl, Nat.le_of_ble_eq_true rfl, rfl⟩ | exact Nat.le_of_ble_eq_true rfl | (simp only [Grd.ob, Grd.and, InR, kb, Int.toNat_natCast, ByteArray.size_append, ByteArray.size_extract, Sat.strOf_len, List.length_cons, List.length_nil] <;> omega) | (simp only [Grd.ob, Grd.and, InR, kb, Int.toNat_natCast, ByteArray.size_append, ByteArray.size_extract, Sat.strOf_len, List.length_cons, List.length_nil]; intro h; simp at h; omega) | (refine And.intro (by omega) ?_; simp only [ByteArray.size, List.size_toArray, List.length_cons, List.length_nil]; omega) | kernel_rfl)) ?_
    | refine Or.inl (And.intro (by (first | rfl | (intro h; exact h) | (intro h; exact absurd h Bool.false_ne_true) | omega | exact h | exact congrArg Bool.not h | exact ⟨rfl, rfl⟩ | exact ⟨⟨rfl, rfl⟩, rfl⟩ | exact ⟨⟨rfl, rfl, rfl, rfl⟩, rfl, rfl⟩ | exact trivial | exact ⟨rfl, rfl, rfl, rfl⟩ | exact ⟨⟨rfl, rfl⟩, rfl, rfl⟩ | exact ⟨rfl, Nat.le_of_ble_eq_true rfl, rfl⟩ | exact Nat.le_of_ble_eq_true rfl | (simp only [Grd.ob, Grd.and, InR, kb, Int.toNat_natCast, ByteArray.size_append, ByteArray.size_extract, Sat.strOf_len, List.length_cons, List.length_nil] <;> omega) | (simp only [Grd.ob, Grd.and, InR, kb, Int.toNat_natCast, ByteArray.size_append, ByteArray.size_extract, Sat.strOf_len, List.length_cons, List.length_nil]; intro h; simp at h; omega) | (refine And.intro (by omega) ?_; simp only [ByteArray.size, List.size_toArray, List.length_cons, List.length_nil]; omega) | kernel_rfl)) ?_)
    | refine Or.inr ?_
    | refine sat_drawH (Tryd.ok ..) (by kernel_rfl) ?_
    | refine Exists.intro [_] (And.intro (one_byte rfl) ?_)
    | refine Exists.intro [_] (And.intro (fun _ => one_byte rfl) ?_)
    | refine Exists.intro _ (And.intro (And.intro rfl rfl) ?_)
    | refine Exists.intro _ (And.intro (fun _ => And.intro rfl rfl) ?_)
    | refine Exists.intro _ (And.intro rfl ?_))
  refine called_at (.v (.bool true)) rfl (fun w' hw => awake_any w' b o c (hk.below (below_of rfl rfl hw))) ?_
  repeat' ((conv => whnf); first
    | refine walk (Tryd.ok ..) ?_
    | (refine Cnd.mk (fun h => ?_) (fun h => ?_) <;> (first | (exfalso; simp only [decide_eq_true_eq, decide_eq_false_iff_not, Bool.not_eq_true', Bool.not_eq_false'] at h; omega) | simp at h | skip))
    | refine And.intro (Kept.mk ?_) ?_
    | exact trivial
    | refine And.intro (by (first | rfl | (intro h; exact h) | (intro h; exact absurd h Bool.false_ne_true) | omega | exact h | exact congrArg Bool.not h | exact ⟨rfl, rfl⟩ | exact ⟨⟨rfl, rfl⟩, rfl⟩ | exact ⟨⟨rfl, rfl, rfl, rfl⟩, rfl, rfl⟩ | exact trivial | exact ⟨rfl, rfl, rfl, rfl⟩ | exact ⟨⟨rfl, rfl⟩, rfl, rfl⟩ | exact ⟨rfl, Nat.le_of_ble_eq_true rfl, rfl⟩ | exact Nat.le_of_ble_eq_true rfl | (simp only [Grd.ob, Grd.and, InR, kb, Int.toNat_natCast, ByteArray.size_append, ByteArray.size_extract, Sat.strOf_len, List.length_cons, List.length_nil] <;> omega) | (simp only [Grd.ob, Grd.and, InR, kb, Int.toNat_natCast, ByteArray.size_append, ByteArray.size_extract, Sat.strOf_len, List.length_cons, List.length_nil]; intro h; simp at h; omega) | (refine And.intro (by omega) ?_; simp only [ByteArray.size, List.size_toArray, List.length_cons, List.length_nil]; omega) | kernel_rfl)) ?_
    | refine Or.inl (And.intro (by (first | rfl | (intro h; exact h) | (intro h; exact absurd h Bool.false_ne_true) | omega | exact h | exact congrArg Bool.not h | exact ⟨rfl, rfl⟩ | exact ⟨⟨rfl, rfl⟩, rfl⟩ | exact ⟨⟨rfl, rfl, rfl, rfl⟩, rfl, rfl⟩ | exact trivial | exact ⟨rfl, rfl, rfl, rfl⟩ | exact ⟨⟨rfl, rfl⟩, rfl, rfl⟩ | exact ⟨rfl, Nat.le_of_ble_eq_true rfl, rfl⟩ | exact Nat.le_of_ble_eq_true rfl | (simp only [Grd.ob, Grd.and, InR, kb, Int.toNat_natCast, ByteArray.size_append, ByteArray.size_extract, Sat.strOf_len, List.length_cons, List.length_nil] <;> omega) | (simp only [Grd.ob, Grd.and, InR, kb, Int.toNat_natCast, ByteArray.size_append, ByteArray.size_extract, Sat.strOf_len, List.length_cons, List.length_nil]; intro h; simp at h; omega) | (refine And.intro (by omega) ?_; simp only [ByteArray.size, List.size_toArray, List.length_cons, List.length_nil]; omega) | kernel_rfl)) ?_)
    | refine Or.inr ?_
    | refine sat_drawH (Tryd.ok ..) (by kernel_rfl) ?_
    | refine Exists.intro [_] (And.intro (one_byte rfl) ?_)
    | refine Exists.intro [_] (And.intro (fun _ => one_byte rfl) ?_)
    | refine Exists.intro _ (And.intro (And.intro rfl rfl) ?_)
    | refine Exists.intro _ (And.intro (fun _ => And.intro rfl rfl) ?_)
    | refine Exists.intro _ (And.intro rfl ?_))
  refine called_pure (.t [.v (.string (mdP n)), .v (.int .u8 (mdD n)), .v (.bool true)]) rfl (fun w' => made_any n w' hn0 hn1) ?_
  repeat' ((conv => whnf); first
    | refine walk (Tryd.ok ..) ?_
    | (refine Cnd.mk (fun h => ?_) (fun h => ?_) <;> (first | (exfalso; simp only [decide_eq_true_eq, decide_eq_false_iff_not, Bool.not_eq_true', Bool.not_eq_false'] at h; omega) | simp at h | skip))
    | refine And.intro (Kept.mk ?_) ?_
    | exact trivial
    | refine And.intro (by (first | rfl | (intro h; exact h) | (intro h; exact absurd h Bool.false_ne_true) | omega | exact h | exact congrArg Bool.not h | exact ⟨rfl, rfl⟩ | exact ⟨⟨rfl, rfl⟩, rfl⟩ | exact ⟨⟨rfl, rfl, rfl, rfl⟩, rfl, rfl⟩ | exact trivial | exact ⟨rfl, rfl, rfl, rfl⟩ | exact ⟨⟨rfl, rfl⟩, rfl, rfl⟩ | exact ⟨rfl, Nat.le_of_ble_eq_true rfl, rfl⟩ | exact Nat.le_of_ble_eq_true rfl | (simp only [Grd.ob, Grd.and, InR, kb, Int.toNat_natCast, ByteArray.size_append, ByteArray.size_extract, Sat.strOf_len, List.length_cons, List.length_nil] <;> omega) | (simp only [Grd.ob, Grd.and, InR, kb, Int.toNat_natCast, ByteArray.size_append, ByteArray.size_extract, Sat.strOf_len, List.length_cons, List.length_nil]; intro h; simp at h; omega) | (refine And.intro (by omega) ?_; simp only [ByteArray.size, List.size_toArray, List.length_cons, List.length_nil]; omega) | kernel_rfl)) ?_
    | refine Or.inl (And.intro (by (first | rfl | (intro h; exact h) | (intro h; exact absurd h Bool.false_ne_true) | omega | exact h | exact congrArg Bool.not h | exact ⟨rfl, rfl⟩ | exact ⟨⟨rfl, rfl⟩, rfl⟩ | exact ⟨⟨rfl, rfl, rfl, rfl⟩, rfl, rfl⟩ | exact trivial | exact ⟨rfl, rfl, rfl, rfl⟩ | exact ⟨⟨rfl, rfl⟩, rfl, rfl⟩ | exact ⟨rfl, Nat.le_of_ble_eq_true rfl, rfl⟩ | exact Nat.le_of_ble_eq_true rfl | (simp only [Grd.ob, Grd.and, InR, kb, Int.toNat_natCast, ByteArray.size_append, ByteArray.size_extract, Sat.strOf_len, List.length_cons, List.length_nil] <;> omega) | (simp only [Grd.ob, Grd.and, InR, kb, Int.toNat_natCast, ByteArray.size_append, ByteArray.size_extract, Sat.strOf_len, List.length_cons, List.length_nil]; intro h; simp at h; omega) | (refine And.intro (by omega) ?_; simp only [ByteArray.size, List.size_toArray, List.length_cons, List.length_nil]; omega) | kernel_rfl)) ?_)
    | refine Or.inr ?_
    | refine sat_drawH (Tryd.ok ..) (by kernel_rfl) ?_
    | refine Exists.intro [_] (And.intro (one_byte rfl) ?_)
    | refine Exists.intro [_] (And.intro (fun _ => one_byte rfl) ?_)
    | refine Exists.intro _ (And.intro (And.intro rfl rfl) ?_)
    | refine Exists.intro _ (And.intro (fun _ => And.intro rfl rfl) ?_)
    | refine Exists.intro _ (And.intro rfl ?_))
  intro g1 hg1
  repeat' ((conv => whnf); first
    | refine walk (Tryd.ok ..) ?_
    | (refine Cnd.mk (fun h => ?_) (fun h => ?_) <;> (first | (exfalso; simp only [decide_eq_true_eq, decide_eq_false_iff_not, Bool.not_eq_true', Bool.not_eq_false'] at h; omega) | simp at h | skip))
    | refine And.intro (Kept.mk ?_) ?_
    | exact trivial
    | refine And.intro (by (first | rfl | (intro h; exact h) | (intro h; exact absurd h Bool.false_ne_true) | omega | exact h | exact congrArg Bool.not h | exact ⟨rfl, rfl⟩ | exact ⟨⟨rfl, rfl⟩, rfl⟩ | exact ⟨⟨rfl, rfl, rfl, rfl⟩, rfl, rfl⟩ | exact trivial | exact ⟨rfl, rfl, rfl, rfl⟩ | exact ⟨⟨rfl, rfl⟩, rfl, rfl⟩ | exact ⟨rfl, Nat.le_of_ble_eq_true rfl, rfl⟩ | exact Nat.le_of_ble_eq_true rfl | (simp only [Grd.ob, Grd.and, InR, kb, Int.toNat_natCast, ByteArray.size_append, ByteArray.size_extract, Sat.strOf_len, List.length_cons, List.length_nil] <;> omega) | (simp only [Grd.ob, Grd.and, InR, kb, Int.toNat_natCast, ByteArray.size_append, ByteArray.size_extract, Sat.strOf_len, List.length_cons, List.length_nil]; intro h; simp at h; omega) | (refine And.intro (by omega) ?_; simp only [ByteArray.size, List.size_toArray, List.length_cons, List.length_nil]; omega) | kernel_rfl)) ?_
    | refine Or.inl (And.intro (by (first | rfl | (intro h; exact h) | (intro h; exact absurd h Bool.false_ne_true) | omega | exact h | exact congrArg Bool.not h | exact ⟨rfl, rfl⟩ | exact ⟨⟨rfl, rfl⟩, rfl⟩ | exact ⟨⟨rfl, rfl, rfl, rfl⟩, rfl, rfl⟩ | exact trivial | exact ⟨rfl, rfl, rfl, rfl⟩ | exact ⟨⟨rfl, rfl⟩, rfl, rfl⟩ | exact ⟨rfl, Nat.le_of_ble_eq_true rfl, rfl⟩ | exact Nat.le_of_ble_eq_true rfl | (simp only [Grd.ob, Grd.and, InR, kb, Int.toNat_natCast, ByteArray.size_append, ByteArray.size_extract, Sat.strOf_len, List.length_cons, List.length_nil] <;> omega) | (simp only [Grd.ob, Grd.and, InR, kb, Int.toNat_natCast, ByteArray.size_append, ByteArray.size_extract, Sat.strOf_len, List.length_cons, List.length_nil]; intro h; simp at h; omega) | (refine And.intro (by omega) ?_; simp only [ByteArray.size, List.size_toArray, List.length_cons, List.length_nil]; omega) | kernel_rfl)) ?_)
    | refine Or.inr ?_
    | refine sat_drawH (Tryd.ok ..) (by kernel_rfl) ?_
    | refine Exists.intro [_] (And.intro (one_byte rfl) ?_)
    | refine Exists.intro [_] (And.intro (fun _ => one_byte rfl) ?_)
    | refine Exists.intro _ (And.intro (And.intro rfl rfl) ?_)
    | refine Exists.intro _ (And.intro (fun _ => And.intro rfl rfl) ?_)
    | refine Exists.intro _ (And.intro rfl ?_))
  refine calledQ_pure (.v (.bool true)) rfl (fun _ w' => mdS_right n hn0 w') ?_
  repeat' ((conv => whnf); first
    | refine walk (Tryd.ok ..) ?_
    | (refine Cnd.mk (fun h => ?_) (fun h => ?_) <;> (first | (exfalso; simp only [decide_eq_true_eq, decide_eq_false_iff_not, Bool.not_eq_true', Bool.not_eq_false'] at h; omega) | simp at h | skip))
    | refine And.intro (Kept.mk ?_) ?_
    | exact trivial
    | refine And.intro (by (first | rfl | (intro h; exact h) | (intro h; exact absurd h Bool.false_ne_true) | omega | exact h | exact congrArg Bool.not h | exact ⟨rfl, rfl⟩ | exact ⟨⟨rfl, rfl⟩, rfl⟩ | exact ⟨⟨rfl, rfl, rfl, rfl⟩, rfl, rfl⟩ | exact trivial | exact ⟨rfl, rfl, rfl, rfl⟩ | exact ⟨⟨rfl, rfl⟩, rfl, rfl⟩ | exact ⟨rfl, Nat.le_of_ble_eq_true rfl, rfl⟩ | exact Nat.le_of_ble_eq_true rfl | (simp only [Grd.ob, Grd.and, InR, kb, Int.toNat_natCast, ByteArray.size_append, ByteArray.size_extract, Sat.strOf_len, List.length_cons, List.length_nil] <;> omega) | (simp only [Grd.ob, Grd.and, InR, kb, Int.toNat_natCast, ByteArray.size_append, ByteArray.size_extract, Sat.strOf_len, List.length_cons, List.length_nil]; intro h; simp at h; omega) | (refine And.intro (by omega) ?_; simp only [ByteArray.size, List.size_toArray, List.length_cons, List.length_nil]; omega) | kernel_rfl)) ?_
    | refine Or.inl (And.intro (by (first | rfl | (intro h; exact h) | (intro h; exact absurd h Bool.false_ne_true) | omega | exact h | exact congrArg Bool.not h | exact ⟨rfl, rfl⟩ | exact ⟨⟨rfl, rfl⟩, rfl⟩ | exact ⟨⟨rfl, rfl, rfl, rfl⟩, rfl, rfl⟩ | exact trivial | exact ⟨rfl, rfl, rfl, rfl⟩ | exact ⟨⟨rfl, rfl⟩, rfl, rfl⟩ | exact ⟨rfl, Nat.le_of_ble_eq_true rfl, rfl⟩ | exact Nat.le_of_ble_eq_true rfl | (simp only [Grd.ob, Grd.and, InR, kb, Int.toNat_natCast, ByteArray.size_append, ByteArray.size_extract, Sat.strOf_len, List.length_cons, List.length_nil] <;> omega) | (simp only [Grd.ob, Grd.and, InR, kb, Int.toNat_natCast, ByteArray.size_append, ByteArray.size_extract, Sat.strOf_len, List.length_cons, List.length_nil]; intro h; simp at h; omega) | (refine And.intro (by omega) ?_; simp only [ByteArray.size, List.size_toArray, List.length_cons, List.length_nil]; omega) | kernel_rfl)) ?_)
    | refine Or.inr ?_
    | refine sat_drawH (Tryd.ok ..) (by kernel_rfl) ?_
    | refine Exists.intro [_] (And.intro (one_byte rfl) ?_)
    | refine Exists.intro [_] (And.intro (fun _ => one_byte rfl) ?_)
    | refine Exists.intro _ (And.intro (And.intro rfl rfl) ?_)
    | refine Exists.intro _ (And.intro (fun _ => And.intro rfl rfl) ?_)
    | refine Exists.intro _ (And.intro rfl ?_))
  refine called_some (fun i : Nat => i < 11) (fun i => .v (.int .i64 i)) (fun w' _ => (pick_nat at_ 11 w' (by omega) (by omega) hi0 hi1).mono (by rintro e w2 ⟨x, hx, he, rfl⟩; exact ⟨x, hx, he, below_self _⟩)) ?_
  intro i hi
  repeat' ((conv => whnf); first
    | refine walk (Tryd.ok ..) ?_
    | (refine Cnd.mk (fun h => ?_) (fun h => ?_) <;> (first | (exfalso; simp only [decide_eq_true_eq, decide_eq_false_iff_not, Bool.not_eq_true', Bool.not_eq_false'] at h; omega) | simp at h | skip))
    | refine And.intro (Kept.mk ?_) ?_
    | exact trivial
    | refine And.intro (by (first | rfl | (intro h; exact h) | (intro h; exact absurd h Bool.false_ne_true) | omega | exact h | exact congrArg Bool.not h | exact ⟨rfl, rfl⟩ | exact ⟨⟨rfl, rfl⟩, rfl⟩ | exact ⟨⟨rfl, rfl, rfl, rfl⟩, rfl, rfl⟩ | exact trivial | exact ⟨rfl, rfl, rfl, rfl⟩ | exact ⟨⟨rfl, rfl⟩, rfl, rfl⟩ | exact ⟨rfl, Nat.le_of_ble_eq_true rfl, rfl⟩ | exact Nat.le_of_ble_eq_true rfl | (simp only [Grd.ob, Grd.and, InR, kb, Int.toNat_natCast, ByteArray.size_append, ByteArray.size_extract, Sat.strOf_len, List.length_cons, List.length_nil] <;> omega) | (simp only [Grd.ob, Grd.and, InR, kb, Int.toNat_natCast, ByteArray.size_append, ByteArray.size_extract, Sat.strOf_len, List.length_cons, List.length_nil]; intro h; simp at h; omega) | (refine And.intro (by omega) ?_; simp only [ByteArray.size, List.size_toArray, List.length_cons, List.length_nil]; omega) | kernel_rfl)) ?_
    | refine Or.inl (And.intro (by (first | rfl | (intro h; exact h) | (intro h; exact absurd h Bool.false_ne_true) | omega | exact h | exact congrArg Bool.not h | exact ⟨rfl, rfl⟩ | exact ⟨⟨rfl, rfl⟩, rfl⟩ | exact ⟨⟨rfl, rfl, rfl, rfl⟩, rfl, rfl⟩ | exact trivial | exact ⟨rfl, rfl, rfl, rfl⟩ | exact ⟨⟨rfl, rfl⟩, rfl, rfl⟩ | exact ⟨rfl, Nat.le_of_ble_eq_true rfl, rfl⟩ | exact Nat.le_of_ble_eq_true rfl | (simp only [Grd.ob, Grd.and, InR, kb, Int.toNat_natCast, ByteArray.size_append, ByteArray.size_extract, Sat.strOf_len, List.length_cons, List.length_nil] <;> omega) | (simp only [Grd.ob, Grd.and, InR, kb, Int.toNat_natCast, ByteArray.size_append, ByteArray.size_extract, Sat.strOf_len, List.length_cons, List.length_nil]; intro h; simp at h; omega) | (refine And.intro (by omega) ?_; simp only [ByteArray.size, List.size_toArray, List.length_cons, List.length_nil]; omega) | kernel_rfl)) ?_)
    | refine Or.inr ?_
    | refine sat_drawH (Tryd.ok ..) (by kernel_rfl) ?_
    | refine Exists.intro [_] (And.intro (one_byte rfl) ?_)
    | refine Exists.intro [_] (And.intro (fun _ => one_byte rfl) ?_)
    | refine Exists.intro _ (And.intro (And.intro rfl rfl) ?_)
    | refine Exists.intro _ (And.intro (fun _ => And.intro rfl rfl) ?_)
    | refine Exists.intro _ (And.intro rfl ?_))
  refine called_row 46 (fun v => .tuple #[v, .int .i64 0]) (fun A cap => .t [.o 46 A (mall (mdS n) 11).length cap, .v (.int .i64 0)]) (fun _ _ => rfl) (fun w' _ => mdS_misses n hn0 w') ?_
  intro A cap
  have hsort := mall_sorted (mdS n) 11
  have hin := inL_mall (mdS n) i tb 11 ht
  have hml := mall_len (mdS n) 11
  generalize mall (mdS n) 11 = l at hsort hin hml
  repeat' ((conv => whnf); first
    | refine walk (Tryd.ok ..) ?_
    | (refine Cnd.mk (fun h => ?_) (fun h => ?_) <;> (first | (exfalso; simp only [decide_eq_true_eq, decide_eq_false_iff_not, Bool.not_eq_true', Bool.not_eq_false'] at h; omega) | simp at h | skip))
    | refine And.intro (Kept.mk ?_) ?_
    | exact trivial
    | refine And.intro (by (first | rfl | (intro h; exact h) | (intro h; exact absurd h Bool.false_ne_true) | omega | exact h | exact congrArg Bool.not h | exact ⟨rfl, rfl⟩ | exact ⟨⟨rfl, rfl⟩, rfl⟩ | exact ⟨⟨rfl, rfl, rfl, rfl⟩, rfl, rfl⟩ | exact trivial | exact ⟨rfl, rfl, rfl, rfl⟩ | exact ⟨⟨rfl, rfl⟩, rfl, rfl⟩ | exact ⟨rfl, Nat.le_of_ble_eq_true rfl, rfl⟩ | exact Nat.le_of_ble_eq_true rfl | (simp only [Grd.ob, Grd.and, InR, kb, Int.toNat_natCast, ByteArray.size_append, ByteArray.size_extract, Sat.strOf_len, List.length_cons, List.length_nil] <;> omega) | (simp only [Grd.ob, Grd.and, InR, kb, Int.toNat_natCast, ByteArray.size_append, ByteArray.size_extract, Sat.strOf_len, List.length_cons, List.length_nil]; intro h; simp at h; omega) | (refine And.intro (by omega) ?_; simp only [ByteArray.size, List.size_toArray, List.length_cons, List.length_nil]; omega) | kernel_rfl)) ?_
    | refine Or.inl (And.intro (by (first | rfl | (intro h; exact h) | (intro h; exact absurd h Bool.false_ne_true) | omega | exact h | exact congrArg Bool.not h | exact ⟨rfl, rfl⟩ | exact ⟨⟨rfl, rfl⟩, rfl⟩ | exact ⟨⟨rfl, rfl, rfl, rfl⟩, rfl, rfl⟩ | exact trivial | exact ⟨rfl, rfl, rfl, rfl⟩ | exact ⟨⟨rfl, rfl⟩, rfl, rfl⟩ | exact ⟨rfl, Nat.le_of_ble_eq_true rfl, rfl⟩ | exact Nat.le_of_ble_eq_true rfl | (simp only [Grd.ob, Grd.and, InR, kb, Int.toNat_natCast, ByteArray.size_append, ByteArray.size_extract, Sat.strOf_len, List.length_cons, List.length_nil] <;> omega) | (simp only [Grd.ob, Grd.and, InR, kb, Int.toNat_natCast, ByteArray.size_append, ByteArray.size_extract, Sat.strOf_len, List.length_cons, List.length_nil]; intro h; simp at h; omega) | (refine And.intro (by omega) ?_; simp only [ByteArray.size, List.size_toArray, List.length_cons, List.length_nil]; omega) | kernel_rfl)) ?_)
    | refine Or.inr ?_
    | refine sat_drawH (Tryd.ok ..) (by kernel_rfl) ?_
    | refine Exists.intro [_] (And.intro (one_byte rfl) ?_)
    | refine Exists.intro [_] (And.intro (fun _ => one_byte rfl) ?_)
    | refine Exists.intro _ (And.intro (And.intro rfl rfl) ?_)
    | refine Exists.intro _ (And.intro (fun _ => And.intro rfl rfl) ?_)
    | refine Exists.intro _ (And.intro rfl ?_))
  have hz : (mdP n ++ strOf [mdD n]).size = 11 := mdS_size n
  have hzP := mdP_size n
  generalize hS : mdP n ++ strOf [mdD n] = s11 at hz ⊢
  generalize hP : mdP n = p at hzP ⊢
  have hc2 : ∀ k (h : k < l.length), (cells2 l)[k * 2]? = some (.int .i64 (l[k]'h).1) ∧ (cells2 l)[k * 2 + 1]? = some (.int .u8 (l[k]'h).2) := fun k h => cells2_get h
  refine sat_loop (Tryd.ok ..) (α := Nat) (fun k => ([(2, .yes, .v (.int .u8 tb)), (7, .yes, .v (.string p)), (10, .yes, .v (.string s11)), (11, .yes, .v (.int .i64 i)), (12, .yes, .o 46 A l.length cap), (14, .yes, .v (.bool (toldTo l i tb k))), (15, .yes, .v (.int .i64 k))], [(46, .row A 34 2 l.length cap (cells2 l))])) (fun k => k ≤ l.length) (fun k => l.length - k) (fun _ => rfl) ?_ ?_
  · refine ⟨0, Nat.zero_le _, ?_, ?_⟩
    all_goals ((repeat' (first | exact trivial | exact rfl | refine And.intro ?_ ?_)) <;> (try (conv => whnf)) <;> (try simp only [SV.real, SV.r2, SV.r1]))
    show Value.string (p ++ strOf [mdD n]) = _
    rw [← hP, hS]
  intro k hk
  have hcap : l.length ≤ 3000 := by omega
  by_cases hlt : k < l.length
  · obtain ⟨p0, p1⟩ := hc2 k hlt
    have hT := toldTo_succ (i := i) (x := tb) hlt
    generalize hx1 : (l[k]'hlt).1 = x1 at p0 hT
    generalize hy1 : (l[k]'hlt).2 = y1 at p1 hT
    have hcast : ((x1 : Int) == (i : Int)) = (x1 == i) := by rw [Bool.eq_iff_iff]; simp; omega
    cases k with
    | zero =>
      repeat' ((conv => whnf); first
        | refine walk (Tryd.ok ..) ?_
        | (refine Cnd.mk (fun h => ?_) (fun h => ?_) <;> (first | (exfalso; simp only [decide_eq_true_eq, decide_eq_false_iff_not, Bool.not_eq_true', Bool.not_eq_false'] at h; omega) | simp at h | skip))
        | refine And.intro (Kept.mk ?_) ?_
        | exact trivial
        | refine And.intro (by (first | rfl | (intro h; exact h) | (intro h; exact absurd h Bool.false_ne_true) | omega | exact h | exact congrArg Bool.not h | exact ⟨rfl, rfl⟩ | exact ⟨⟨rfl, rfl⟩, rfl⟩ | exact ⟨⟨rfl, rfl, rfl, rfl⟩, rfl, rfl⟩ | exact trivial | exact ⟨rfl, rfl, rfl, rfl⟩ | exact ⟨⟨rfl, rfl⟩, rfl, rfl⟩ | exact ⟨rfl, Nat.le_of_ble_eq_true rfl, rfl⟩ | exact Nat.le_of_ble_eq_true rfl | (simp only [Grd.ob, Grd.and, InR, kb, Int.toNat_natCast, ByteArray.size_append, ByteArray.size_extract, Sat.strOf_len, List.length_cons, List.length_nil] <;> omega) | (simp only [Grd.ob, Grd.and, InR, kb, Int.toNat_natCast, ByteArray.size_append, ByteArray.size_extract, Sat.strOf_len, List.length_cons, List.length_nil]; intro h; simp at h; omega) | (refine And.intro (by omega) ?_; simp only [ByteArray.size, List.size_toArray, List.length_cons, List.length_nil]; omega) | kernel_rfl)) ?_
        | refine Or.inl (And.intro (by (first | rfl | (intro h; exact h) | (intro h; exact absurd h Bool.false_ne_true) | omega | exact h | exact congrArg Bool.not h | exact ⟨rfl, rfl⟩ | exact ⟨⟨rfl, rfl⟩, rfl⟩ | exact ⟨⟨rfl, rfl, rfl, rfl⟩, rfl, rfl⟩ | exact trivial | exact ⟨rfl, rfl, rfl, rfl⟩ | exact ⟨⟨rfl, rfl⟩, rfl, rfl⟩ | exact ⟨rfl, Nat.le_of_ble_eq_true rfl, rfl⟩ | exact Nat.le_of_ble_eq_true rfl | (simp only [Grd.ob, Grd.and, InR, kb, Int.toNat_natCast, ByteArray.size_append, ByteArray.size_extract, Sat.strOf_len, List.length_cons, List.length_nil] <;> omega) | (simp only [Grd.ob, Grd.and, InR, kb, Int.toNat_natCast, ByteArray.size_append, ByteArray.size_extract, Sat.strOf_len, List.length_cons, List.length_nil]; intro h; simp at h; omega) | (refine And.intro (by omega) ?_; simp only [ByteArray.size, List.size_toArray, List.length_cons, List.length_nil]; omega) | kernel_rfl)) ?_)
        | refine Or.inr ?_
        | refine sat_drawH (Tryd.ok ..) (by kernel_rfl) ?_
        | refine Exists.intro [_] (And.intro (one_byte rfl) ?_)
        | refine Exists.intro [_] (And.intro (fun _ => one_byte rfl) ?_)
        | refine Exists.intro _ (And.intro (And.intro rfl rfl) ?_)
        | refine Exists.intro _ (And.intro (fun _ => And.intro rfl rfl) ?_)
        | refine Exists.intro _ (And.intro rfl ?_))
      refine Exists.intro [.int .i64 x1, .int .u8 y1] (And.intro (fun _ => ⟨rfl, two_cells p0 p1⟩) ?_)
      repeat' ((conv => whnf); first
        | refine walk (Tryd.ok ..) ?_
        | (refine Cnd.mk (fun h => ?_) (fun h => ?_) <;> (first | (exfalso; simp only [decide_eq_true_eq, decide_eq_false_iff_not, Bool.not_eq_true', Bool.not_eq_false'] at h; omega) | simp at h | skip))
        | refine And.intro (Kept.mk ?_) ?_
        | exact trivial
        | refine And.intro (by (first | rfl | (intro h; exact h) | (intro h; exact absurd h Bool.false_ne_true) | omega | exact h | exact congrArg Bool.not h | exact ⟨rfl, rfl⟩ | exact ⟨⟨rfl, rfl⟩, rfl⟩ | exact ⟨⟨rfl, rfl, rfl, rfl⟩, rfl, rfl⟩ | exact trivial | exact ⟨rfl, rfl, rfl, rfl⟩ | exact ⟨⟨rfl, rfl⟩, rfl, rfl⟩ | exact ⟨rfl, Nat.le_of_ble_eq_true rfl, rfl⟩ | exact Nat.le_of_ble_eq_true rfl | (simp only [Grd.ob, Grd.and, InR, kb, Int.toNat_natCast, ByteArray.size_append, ByteArray.size_extract, Sat.strOf_len, List.length_cons, List.length_nil] <;> omega) | (simp only [Grd.ob, Grd.and, InR, kb, Int.toNat_natCast, ByteArray.size_append, ByteArray.size_extract, Sat.strOf_len, List.length_cons, List.length_nil]; intro h; simp at h; omega) | (refine And.intro (by omega) ?_; simp only [ByteArray.size, List.size_toArray, List.length_cons, List.length_nil]; omega) | kernel_rfl)) ?_
        | refine Or.inl (And.intro (by (first | rfl | (intro h; exact h) | (intro h; exact absurd h Bool.false_ne_true) | omega | exact h | exact congrArg Bool.not h | exact ⟨rfl, rfl⟩ | exact ⟨⟨rfl, rfl⟩, rfl⟩ | exact ⟨⟨rfl, rfl, rfl, rfl⟩, rfl, rfl⟩ | exact trivial | exact ⟨rfl, rfl, rfl, rfl⟩ | exact ⟨⟨rfl, rfl⟩, rfl, rfl⟩ | exact ⟨rfl, Nat.le_of_ble_eq_true rfl, rfl⟩ | exact Nat.le_of_ble_eq_true rfl | (simp only [Grd.ob, Grd.and, InR, kb, Int.toNat_natCast, ByteArray.size_append, ByteArray.size_extract, Sat.strOf_len, List.length_cons, List.length_nil] <;> omega) | (simp only [Grd.ob, Grd.and, InR, kb, Int.toNat_natCast, ByteArray.size_append, ByteArray.size_extract, Sat.strOf_len, List.length_cons, List.length_nil]; intro h; simp at h; omega) | (refine And.intro (by omega) ?_; simp only [ByteArray.size, List.size_toArray, List.length_cons, List.length_nil]; omega) | kernel_rfl)) ?_)
        | refine Or.inr ?_
        | refine sat_drawH (Tryd.ok ..) (by kernel_rfl) ?_
        | refine Exists.intro [_] (And.intro (one_byte rfl) ?_)
        | refine Exists.intro [_] (And.intro (fun _ => one_byte rfl) ?_)
        | refine Exists.intro _ (And.intro (And.intro rfl rfl) ?_)
        | refine Exists.intro _ (And.intro (fun _ => And.intro rfl rfl) ?_)
        | refine Exists.intro _ (And.intro rfl ?_))
      refine eqAgg_eql _ Tryd.eqg34 (fun w => Tryd.eq34 _ _ _ _ w) ?_
      repeat' ((conv => whnf); first
        | refine walk (Tryd.ok ..) ?_
        | (refine Cnd.mk (fun h => ?_) (fun h => ?_) <;> (first | (exfalso; simp only [decide_eq_true_eq, decide_eq_false_iff_not, Bool.not_eq_true', Bool.not_eq_false'] at h; omega) | simp at h | skip))
        | refine And.intro (Kept.mk ?_) ?_
        | exact trivial
        | refine And.intro (by (first | rfl | (intro h; exact h) | (intro h; exact absurd h Bool.false_ne_true) | omega | exact h | exact congrArg Bool.not h | exact ⟨rfl, rfl⟩ | exact ⟨⟨rfl, rfl⟩, rfl⟩ | exact ⟨⟨rfl, rfl, rfl, rfl⟩, rfl, rfl⟩ | exact trivial | exact ⟨rfl, rfl, rfl, rfl⟩ | exact ⟨⟨rfl, rfl⟩, rfl, rfl⟩ | exact ⟨rfl, Nat.le_of_ble_eq_true rfl, rfl⟩ | exact Nat.le_of_ble_eq_true rfl | (simp only [Grd.ob, Grd.and, InR, kb, Int.toNat_natCast, ByteArray.size_append, ByteArray.size_extract, Sat.strOf_len, List.length_cons, List.length_nil] <;> omega) | (simp only [Grd.ob, Grd.and, InR, kb, Int.toNat_natCast, ByteArray.size_append, ByteArray.size_extract, Sat.strOf_len, List.length_cons, List.length_nil]; intro h; simp at h; omega) | (refine And.intro (by omega) ?_; simp only [ByteArray.size, List.size_toArray, List.length_cons, List.length_nil]; omega) | kernel_rfl)) ?_
        | refine Or.inl (And.intro (by (first | rfl | (intro h; exact h) | (intro h; exact absurd h Bool.false_ne_true) | omega | exact h | exact congrArg Bool.not h | exact ⟨rfl, rfl⟩ | exact ⟨⟨rfl, rfl⟩, rfl⟩ | exact ⟨⟨rfl, rfl, rfl, rfl⟩, rfl, rfl⟩ | exact trivial | exact ⟨rfl, rfl, rfl, rfl⟩ | exact ⟨⟨rfl, rfl⟩, rfl, rfl⟩ | exact ⟨rfl, Nat.le_of_ble_eq_true rfl, rfl⟩ | exact Nat.le_of_ble_eq_true rfl | (simp only [Grd.ob, Grd.and, InR, kb, Int.toNat_natCast, ByteArray.size_append, ByteArray.size_extract, Sat.strOf_len, List.length_cons, List.length_nil] <;> omega) | (simp only [Grd.ob, Grd.and, InR, kb, Int.toNat_natCast, ByteArray.size_append, ByteArray.size_extract, Sat.strOf_len, List.length_cons, List.length_nil]; intro h; simp at h; omega) | (refine And.intro (by omega) ?_; simp only [ByteArray.size, List.size_toArray, List.length_cons, List.length_nil]; omega) | kernel_rfl)) ?_)
        | refine Or.inr ?_
        | refine sat_drawH (Tryd.ok ..) (by kernel_rfl) ?_
        | refine Exists.intro [_] (And.intro (one_byte rfl) ?_)
        | refine Exists.intro [_] (And.intro (fun _ => one_byte rfl) ?_)
        | refine Exists.intro _ (And.intro (And.intro rfl rfl) ?_)
        | refine Exists.intro _ (And.intro (fun _ => And.intro rfl rfl) ?_)
        | refine Exists.intro _ (And.intro rfl ?_))
      iterate 6 (refine Exists.intro (.int .i64 0) (And.intro (fun h => absurd h Bool.false_ne_true) ?_); repeat' ((conv => whnf); first
          | refine walk (Tryd.ok ..) ?_
          | (refine Cnd.mk (fun h => ?_) (fun h => ?_) <;> (first | (exfalso; simp only [decide_eq_true_eq, decide_eq_false_iff_not, Bool.not_eq_true', Bool.not_eq_false'] at h; omega) | simp at h | skip))
          | refine And.intro (Kept.mk ?_) ?_
          | exact trivial
          | refine And.intro (by (first | rfl | (intro h; exact h) | (intro h; exact absurd h Bool.false_ne_true) | omega | exact h | exact congrArg Bool.not h | exact ⟨rfl, rfl⟩ | exact ⟨⟨rfl, rfl⟩, rfl⟩ | exact ⟨⟨rfl, rfl, rfl, rfl⟩, rfl, rfl⟩ | exact trivial | exact ⟨rfl, rfl, rfl, rfl⟩ | exact ⟨⟨rfl, rfl⟩, rfl, rfl⟩ | exact ⟨rfl, Nat.le_of_ble_eq_true rfl, rfl⟩ | exact Nat.le_of_ble_eq_true rfl | (simp only [Grd.ob, Grd.and, InR, kb, Int.toNat_natCast, ByteArray.size_append, ByteArray.size_extract, Sat.strOf_len, List.length_cons, List.length_nil] <;> omega) | (simp only [Grd.ob, Grd.and, InR, kb, Int.toNat_natCast, ByteArray.size_append, ByteArray.size_extract, Sat.strOf_len, List.length_cons, List.length_nil]; intro h; simp at h; omega) | (refine And.intro (by omega) ?_; simp only [ByteArray.size, List.size_toArray, List.length_cons, List.length_nil]; omega) | kernel_rfl)) ?_
          | refine Or.inl (And.intro (by (first | rfl | (intro h; exact h) | (intro h; exact absurd h Bool.false_ne_true) | omega | exact h | exact congrArg Bool.not h | exact ⟨rfl, rfl⟩ | exact ⟨⟨rfl, rfl⟩, rfl⟩ | exact ⟨⟨rfl, rfl, rfl, rfl⟩, rfl, rfl⟩ | exact trivial | exact ⟨rfl, rfl, rfl, rfl⟩ | exact ⟨⟨rfl, rfl⟩, rfl, rfl⟩ | exact ⟨rfl, Nat.le_of_ble_eq_true rfl, rfl⟩ | exact Nat.le_of_ble_eq_true rfl | (simp only [Grd.ob, Grd.and, InR, kb, Int.toNat_natCast, ByteArray.size_append, ByteArray.size_extract, Sat.strOf_len, List.length_cons, List.length_nil] <;> omega) | (simp only [Grd.ob, Grd.and, InR, kb, Int.toNat_natCast, ByteArray.size_append, ByteArray.size_extract, Sat.strOf_len, List.length_cons, List.length_nil]; intro h; simp at h; omega) | (refine And.intro (by omega) ?_; simp only [ByteArray.size, List.size_toArray, List.length_cons, List.length_nil]; omega) | kernel_rfl)) ?_)
          | refine Or.inr ?_
          | refine sat_drawH (Tryd.ok ..) (by kernel_rfl) ?_
          | refine Exists.intro [_] (And.intro (one_byte rfl) ?_)
          | refine Exists.intro [_] (And.intro (fun _ => one_byte rfl) ?_)
          | refine Exists.intro _ (And.intro (And.intro rfl rfl) ?_)
          | refine Exists.intro _ (And.intro (fun _ => And.intro rfl rfl) ?_)
          | refine Exists.intro _ (And.intro rfl ?_)))
      refine ⟨1, ⟨by omega, by omega⟩, ?_, ?_⟩
      all_goals ((repeat' (first | exact trivial | exact rfl | refine And.intro ?_ ?_)) <;> (try (conv => whnf)) <;> (try simp only [SV.real, SV.r2, SV.r1]))
      simp [hT, hcast]
    | succ j =>
      have hjl : j < l.length := by omega
      obtain ⟨r0, r1⟩ := hc2 j hjl
      have hbf := sorted_next hsort hlt
      unfold before_ at hbf
      rw [hx1, hy1] at hbf
      generalize (l[j]'hjl).1 = x0 at r0 hbf
      generalize (l[j]'hjl).2 = y0 at r1 hbf
      have ej : (((j + 1 : Nat) : Int) - 1).toNat = j := by omega
      have q0 : (cells2 l)[mulS (((j + 1 : Nat) : Int) - 1).toNat 2]? = some (.int .i64 x0) := by rw [mulS_eq, ej]; exact r0
      have q1 : (cells2 l)[mulS (((j + 1 : Nat) : Int) - 1).toNat 2 + 1]? = some (.int .u8 y0) := by rw [mulS_eq, ej]; exact r1
      repeat' ((conv => whnf); first
        | refine walk (Tryd.ok ..) ?_
        | (refine Cnd.mk (fun h => ?_) (fun h => ?_) <;> (first | (exfalso; simp only [decide_eq_true_eq, decide_eq_false_iff_not, Bool.not_eq_true', Bool.not_eq_false'] at h; omega) | simp at h | skip))
        | refine And.intro (Kept.mk ?_) ?_
        | exact trivial
        | refine And.intro (by (first | rfl | (intro h; exact h) | (intro h; exact absurd h Bool.false_ne_true) | omega | exact h | exact congrArg Bool.not h | exact ⟨rfl, rfl⟩ | exact ⟨⟨rfl, rfl⟩, rfl⟩ | exact ⟨⟨rfl, rfl, rfl, rfl⟩, rfl, rfl⟩ | exact trivial | exact ⟨rfl, rfl, rfl, rfl⟩ | exact ⟨⟨rfl, rfl⟩, rfl, rfl⟩ | exact ⟨rfl, Nat.le_of_ble_eq_true rfl, rfl⟩ | exact Nat.le_of_ble_eq_true rfl | (simp only [Grd.ob, Grd.and, InR, kb, Int.toNat_natCast, ByteArray.size_append, ByteArray.size_extract, Sat.strOf_len, List.length_cons, List.length_nil] <;> omega) | (simp only [Grd.ob, Grd.and, InR, kb, Int.toNat_natCast, ByteArray.size_append, ByteArray.size_extract, Sat.strOf_len, List.length_cons, List.length_nil]; intro h; simp at h; omega) | (refine And.intro (by omega) ?_; simp only [ByteArray.size, List.size_toArray, List.length_cons, List.length_nil]; omega) | kernel_rfl)) ?_
        | refine Or.inl (And.intro (by (first | rfl | (intro h; exact h) | (intro h; exact absurd h Bool.false_ne_true) | omega | exact h | exact congrArg Bool.not h | exact ⟨rfl, rfl⟩ | exact ⟨⟨rfl, rfl⟩, rfl⟩ | exact ⟨⟨rfl, rfl, rfl, rfl⟩, rfl, rfl⟩ | exact trivial | exact ⟨rfl, rfl, rfl, rfl⟩ | exact ⟨⟨rfl, rfl⟩, rfl, rfl⟩ | exact ⟨rfl, Nat.le_of_ble_eq_true rfl, rfl⟩ | exact Nat.le_of_ble_eq_true rfl | (simp only [Grd.ob, Grd.and, InR, kb, Int.toNat_natCast, ByteArray.size_append, ByteArray.size_extract, Sat.strOf_len, List.length_cons, List.length_nil] <;> omega) | (simp only [Grd.ob, Grd.and, InR, kb, Int.toNat_natCast, ByteArray.size_append, ByteArray.size_extract, Sat.strOf_len, List.length_cons, List.length_nil]; intro h; simp at h; omega) | (refine And.intro (by omega) ?_; simp only [ByteArray.size, List.size_toArray, List.length_cons, List.length_nil]; omega) | kernel_rfl)) ?_)
        | refine Or.inr ?_
        | refine sat_drawH (Tryd.ok ..) (by kernel_rfl) ?_
        | refine Exists.intro [_] (And.intro (one_byte rfl) ?_)
        | refine Exists.intro [_] (And.intro (fun _ => one_byte rfl) ?_)
        | refine Exists.intro _ (And.intro (And.intro rfl rfl) ?_)
        | refine Exists.intro _ (And.intro (fun _ => And.intro rfl rfl) ?_)
        | refine Exists.intro _ (And.intro rfl ?_))
      refine Exists.intro [.int .i64 x1, .int .u8 y1] (And.intro (fun _ => ⟨rfl, two_cells p0 p1⟩) ?_)
      repeat' ((conv => whnf); first
        | refine walk (Tryd.ok ..) ?_
        | (refine Cnd.mk (fun h => ?_) (fun h => ?_) <;> (first | (exfalso; simp only [decide_eq_true_eq, decide_eq_false_iff_not, Bool.not_eq_true', Bool.not_eq_false'] at h; omega) | simp at h | skip))
        | refine And.intro (Kept.mk ?_) ?_
        | exact trivial
        | refine And.intro (by (first | rfl | (intro h; exact h) | (intro h; exact absurd h Bool.false_ne_true) | omega | exact h | exact congrArg Bool.not h | exact ⟨rfl, rfl⟩ | exact ⟨⟨rfl, rfl⟩, rfl⟩ | exact ⟨⟨rfl, rfl, rfl, rfl⟩, rfl, rfl⟩ | exact trivial | exact ⟨rfl, rfl, rfl, rfl⟩ | exact ⟨⟨rfl, rfl⟩, rfl, rfl⟩ | exact ⟨rfl, Nat.le_of_ble_eq_true rfl, rfl⟩ | exact Nat.le_of_ble_eq_true rfl | (simp only [Grd.ob, Grd.and, InR, kb, Int.toNat_natCast, ByteArray.size_append, ByteArray.size_extract, Sat.strOf_len, List.length_cons, List.length_nil] <;> omega) | (simp only [Grd.ob, Grd.and, InR, kb, Int.toNat_natCast, ByteArray.size_append, ByteArray.size_extract, Sat.strOf_len, List.length_cons, List.length_nil]; intro h; simp at h; omega) | (refine And.intro (by omega) ?_; simp only [ByteArray.size, List.size_toArray, List.length_cons, List.length_nil]; omega) | kernel_rfl)) ?_
        | refine Or.inl (And.intro (by (first | rfl | (intro h; exact h) | (intro h; exact absurd h Bool.false_ne_true) | omega | exact h | exact congrArg Bool.not h | exact ⟨rfl, rfl⟩ | exact ⟨⟨rfl, rfl⟩, rfl⟩ | exact ⟨⟨rfl, rfl, rfl, rfl⟩, rfl, rfl⟩ | exact trivial | exact ⟨rfl, rfl, rfl, rfl⟩ | exact ⟨⟨rfl, rfl⟩, rfl, rfl⟩ | exact ⟨rfl, Nat.le_of_ble_eq_true rfl, rfl⟩ | exact Nat.le_of_ble_eq_true rfl | (simp only [Grd.ob, Grd.and, InR, kb, Int.toNat_natCast, ByteArray.size_append, ByteArray.size_extract, Sat.strOf_len, List.length_cons, List.length_nil] <;> omega) | (simp only [Grd.ob, Grd.and, InR, kb, Int.toNat_natCast, ByteArray.size_append, ByteArray.size_extract, Sat.strOf_len, List.length_cons, List.length_nil]; intro h; simp at h; omega) | (refine And.intro (by omega) ?_; simp only [ByteArray.size, List.size_toArray, List.length_cons, List.length_nil]; omega) | kernel_rfl)) ?_)
        | refine Or.inr ?_
        | refine sat_drawH (Tryd.ok ..) (by kernel_rfl) ?_
        | refine Exists.intro [_] (And.intro (one_byte rfl) ?_)
        | refine Exists.intro [_] (And.intro (fun _ => one_byte rfl) ?_)
        | refine Exists.intro _ (And.intro (And.intro rfl rfl) ?_)
        | refine Exists.intro _ (And.intro (fun _ => And.intro rfl rfl) ?_)
        | refine Exists.intro _ (And.intro rfl ?_))
      refine eqAgg_eql _ Tryd.eqg34 (fun w => Tryd.eq34 _ _ _ _ w) ?_
      repeat' ((conv => whnf); first
        | refine walk (Tryd.ok ..) ?_
        | (refine Cnd.mk (fun h => ?_) (fun h => ?_) <;> (first | (exfalso; simp only [decide_eq_true_eq, decide_eq_false_iff_not, Bool.not_eq_true', Bool.not_eq_false'] at h; omega) | simp at h | skip))
        | refine And.intro (Kept.mk ?_) ?_
        | exact trivial
        | refine And.intro (by (first | rfl | (intro h; exact h) | (intro h; exact absurd h Bool.false_ne_true) | omega | exact h | exact congrArg Bool.not h | exact ⟨rfl, rfl⟩ | exact ⟨⟨rfl, rfl⟩, rfl⟩ | exact ⟨⟨rfl, rfl, rfl, rfl⟩, rfl, rfl⟩ | exact trivial | exact ⟨rfl, rfl, rfl, rfl⟩ | exact ⟨⟨rfl, rfl⟩, rfl, rfl⟩ | exact ⟨rfl, Nat.le_of_ble_eq_true rfl, rfl⟩ | exact Nat.le_of_ble_eq_true rfl | (simp only [Grd.ob, Grd.and, InR, kb, Int.toNat_natCast, ByteArray.size_append, ByteArray.size_extract, Sat.strOf_len, List.length_cons, List.length_nil] <;> omega) | (simp only [Grd.ob, Grd.and, InR, kb, Int.toNat_natCast, ByteArray.size_append, ByteArray.size_extract, Sat.strOf_len, List.length_cons, List.length_nil]; intro h; simp at h; omega) | (refine And.intro (by omega) ?_; simp only [ByteArray.size, List.size_toArray, List.length_cons, List.length_nil]; omega) | kernel_rfl)) ?_
        | refine Or.inl (And.intro (by (first | rfl | (intro h; exact h) | (intro h; exact absurd h Bool.false_ne_true) | omega | exact h | exact congrArg Bool.not h | exact ⟨rfl, rfl⟩ | exact ⟨⟨rfl, rfl⟩, rfl⟩ | exact ⟨⟨rfl, rfl, rfl, rfl⟩, rfl, rfl⟩ | exact trivial | exact ⟨rfl, rfl, rfl, rfl⟩ | exact ⟨⟨rfl, rfl⟩, rfl, rfl⟩ | exact ⟨rfl, Nat.le_of_ble_eq_true rfl, rfl⟩ | exact Nat.le_of_ble_eq_true rfl | (simp only [Grd.ob, Grd.and, InR, kb, Int.toNat_natCast, ByteArray.size_append, ByteArray.size_extract, Sat.strOf_len, List.length_cons, List.length_nil] <;> omega) | (simp only [Grd.ob, Grd.and, InR, kb, Int.toNat_natCast, ByteArray.size_append, ByteArray.size_extract, Sat.strOf_len, List.length_cons, List.length_nil]; intro h; simp at h; omega) | (refine And.intro (by omega) ?_; simp only [ByteArray.size, List.size_toArray, List.length_cons, List.length_nil]; omega) | kernel_rfl)) ?_)
        | refine Or.inr ?_
        | refine sat_drawH (Tryd.ok ..) (by kernel_rfl) ?_
        | refine Exists.intro [_] (And.intro (one_byte rfl) ?_)
        | refine Exists.intro [_] (And.intro (fun _ => one_byte rfl) ?_)
        | refine Exists.intro _ (And.intro (And.intro rfl rfl) ?_)
        | refine Exists.intro _ (And.intro (fun _ => And.intro rfl rfl) ?_)
        | refine Exists.intro _ (And.intro rfl ?_)
        | refine Exists.intro _ (And.intro (fun _ => p0) ?_)
        | refine Exists.intro _ (And.intro p0 ?_)
        | refine Exists.intro _ (And.intro (fun _ => p1) ?_)
        | refine Exists.intro _ (And.intro p1 ?_)
        | refine Exists.intro _ (And.intro (fun _ => q0) ?_)
        | refine Exists.intro _ (And.intro q0 ?_)
        | refine Exists.intro _ (And.intro (fun _ => q1) ?_)
        | refine Exists.intro _ (And.intro q1 ?_))
      · exfalso
        omega
      · refine ⟨j + 2, ⟨by omega, by omega⟩, ?_, ?_⟩
        all_goals ((repeat' (first | exact trivial | exact rfl | refine And.intro ?_ ?_)) <;> (try (conv => whnf)) <;> (try simp only [SV.real, SV.r2, SV.r1]))
        simp [hT, hcast]
  · obtain rfl : k = l.length := by omega
    have htd : toldTo l i tb l.length = (decide (i < 11) && hit (mdS n) i tb) := by unfold toldTo; rw [List.take_length]; exact hin
    generalize toldTo l i tb l.length = td at htd ⊢
    have htb : bt s11 i = bt (mdS n) i := by rw [← hS]; unfold mdS; rfl
    have hD := digI_bd (mdP n) 10
    have hrP : ∀ w, Calls Tryd.prog 17 #[.string p] w fun e w' => e = .returned (.int .i64 (dsum p 10 % 11)) ∧ Below w.heap.size w w' := fun w => (rem_ten p hzP w).mono (by rintro e w' ⟨he, rfl⟩; exact ⟨he, below_self _⟩)
    have htd2 : td = hit (mdS n) i tb := by rw [htd]; simp [hi]
    repeat' ((conv => whnf); first
      | refine walk (Tryd.ok ..) ?_
      | (refine Cnd.mk (fun h => ?_) (fun h => ?_) <;> (first | (exfalso; simp only [decide_eq_true_eq, decide_eq_false_iff_not, Bool.not_eq_true', Bool.not_eq_false'] at h; omega) | simp at h | skip))
      | refine And.intro (Kept.mk ?_) ?_
      | exact trivial
      | refine And.intro (by (first | rfl | (intro h; exact h) | (intro h; exact absurd h Bool.false_ne_true) | omega | exact h | exact congrArg Bool.not h | exact ⟨rfl, rfl⟩ | exact ⟨⟨rfl, rfl⟩, rfl⟩ | exact ⟨⟨rfl, rfl, rfl, rfl⟩, rfl, rfl⟩ | exact trivial | exact ⟨rfl, rfl, rfl, rfl⟩ | exact ⟨⟨rfl, rfl⟩, rfl, rfl⟩ | exact ⟨rfl, Nat.le_of_ble_eq_true rfl, rfl⟩ | exact Nat.le_of_ble_eq_true rfl | (simp only [Grd.ob, Grd.and, InR, kb, Int.toNat_natCast, ByteArray.size_append, ByteArray.size_extract, Sat.strOf_len, List.length_cons, List.length_nil] <;> omega) | (simp only [Grd.ob, Grd.and, InR, kb, Int.toNat_natCast, ByteArray.size_append, ByteArray.size_extract, Sat.strOf_len, List.length_cons, List.length_nil]; intro h; simp at h; omega) | (refine And.intro (by omega) ?_; simp only [ByteArray.size, List.size_toArray, List.length_cons, List.length_nil]; omega) | kernel_rfl)) ?_
      | refine Or.inl (And.intro (by (first | rfl | (intro h; exact h) | (intro h; exact absurd h Bool.false_ne_true) | omega | exact h | exact congrArg Bool.not h | exact ⟨rfl, rfl⟩ | exact ⟨⟨rfl, rfl⟩, rfl⟩ | exact ⟨⟨rfl, rfl, rfl, rfl⟩, rfl, rfl⟩ | exact trivial | exact ⟨rfl, rfl, rfl, rfl⟩ | exact ⟨⟨rfl, rfl⟩, rfl, rfl⟩ | exact ⟨rfl, Nat.le_of_ble_eq_true rfl, rfl⟩ | exact Nat.le_of_ble_eq_true rfl | (simp only [Grd.ob, Grd.and, InR, kb, Int.toNat_natCast, ByteArray.size_append, ByteArray.size_extract, Sat.strOf_len, List.length_cons, List.length_nil] <;> omega) | (simp only [Grd.ob, Grd.and, InR, kb, Int.toNat_natCast, ByteArray.size_append, ByteArray.size_extract, Sat.strOf_len, List.length_cons, List.length_nil]; intro h; simp at h; omega) | (refine And.intro (by omega) ?_; simp only [ByteArray.size, List.size_toArray, List.length_cons, List.length_nil]; omega) | kernel_rfl)) ?_)
      | refine Or.inr ?_
      | refine sat_drawH (Tryd.ok ..) (by kernel_rfl) ?_
      | refine Exists.intro [_] (And.intro (one_byte rfl) ?_)
      | refine Exists.intro [_] (And.intro (fun _ => one_byte rfl) ?_)
      | refine Exists.intro _ (And.intro (And.intro rfl rfl) ?_)
      | refine Exists.intro _ (And.intro (fun _ => And.intro rfl rfl) ?_)
      | refine Exists.intro _ (And.intro rfl ?_))
    · refine done_pure rfl rfl ?_
      have hft : td = false := by
        rw [htd2]
        refine tell_not hi ?_
        rw [← htb]
        exact h
      rw [hft]
      rfl
    · rename_i hok hten
      intro g hg
      have hi10 : i = 10 := by omega
      subst hi10
      have hne : (tb : Int) ≠ bt (mdS n) 10 := by rw [← htb]; exact hok.1.1.1
      have hdig : 48 ≤ (tb : Int) ∧ (tb : Int) ≤ 57 := hok.2 (by omega)
      have hft : td = false := by rw [htd2]; exact hit_last hn0 hdig hne
      have hrr : ∀ w, Calls Tryd.prog 14 #[.string (p ++ Sat.strOf [(tb : Int)])] w fun e w' => e = .returned (.bool false) ∧ Below w.heap.size w w' := fun w => by
        have := right_any (p ++ Sat.strOf [(tb : Int)]) w (by rw [ByteArray.size_append, hzP, Sat.strOf_len]; unfold maxLen; simp)
        rw [← hP] at this ⊢
        rw [show chk (mdP n ++ Sat.strOf [(tb : Int)]) = 31 from chk_last hn0 hdig hne] at this
        exact this
      subst hft
      repeat' ((conv => whnf); first
        | refine walk (Tryd.ok ..) ?_
        | (refine Cnd.mk (fun h => ?_) (fun h => ?_) <;> (first | (exfalso; simp only [decide_eq_true_eq, decide_eq_false_iff_not, Bool.not_eq_true', Bool.not_eq_false'] at h; omega) | simp at h | skip))
        | refine And.intro (Kept.mk ?_) ?_
        | exact trivial
        | refine And.intro (by (first | rfl | (intro h; exact h) | (intro h; exact absurd h Bool.false_ne_true) | omega | exact h | exact congrArg Bool.not h | exact ⟨rfl, rfl⟩ | exact ⟨⟨rfl, rfl⟩, rfl⟩ | exact ⟨⟨rfl, rfl, rfl, rfl⟩, rfl, rfl⟩ | exact trivial | exact ⟨rfl, rfl, rfl, rfl⟩ | exact ⟨⟨rfl, rfl⟩, rfl, rfl⟩ | exact ⟨rfl, Nat.le_of_ble_eq_true rfl, rfl⟩ | exact Nat.le_of_ble_eq_true rfl | (simp only [Grd.ob, Grd.and, InR, kb, Int.toNat_natCast, ByteArray.size_append, ByteArray.size_extract, Sat.strOf_len, List.length_cons, List.length_nil] <;> omega) | (simp only [Grd.ob, Grd.and, InR, kb, Int.toNat_natCast, ByteArray.size_append, ByteArray.size_extract, Sat.strOf_len, List.length_cons, List.length_nil]; intro h; simp at h; omega) | (refine And.intro (by omega) ?_; simp only [ByteArray.size, List.size_toArray, List.length_cons, List.length_nil]; omega) | kernel_rfl)) ?_
        | refine Or.inl (And.intro (by (first | rfl | (intro h; exact h) | (intro h; exact absurd h Bool.false_ne_true) | omega | exact h | exact congrArg Bool.not h | exact ⟨rfl, rfl⟩ | exact ⟨⟨rfl, rfl⟩, rfl⟩ | exact ⟨⟨rfl, rfl, rfl, rfl⟩, rfl, rfl⟩ | exact trivial | exact ⟨rfl, rfl, rfl, rfl⟩ | exact ⟨⟨rfl, rfl⟩, rfl, rfl⟩ | exact ⟨rfl, Nat.le_of_ble_eq_true rfl, rfl⟩ | exact Nat.le_of_ble_eq_true rfl | (simp only [Grd.ob, Grd.and, InR, kb, Int.toNat_natCast, ByteArray.size_append, ByteArray.size_extract, Sat.strOf_len, List.length_cons, List.length_nil] <;> omega) | (simp only [Grd.ob, Grd.and, InR, kb, Int.toNat_natCast, ByteArray.size_append, ByteArray.size_extract, Sat.strOf_len, List.length_cons, List.length_nil]; intro h; simp at h; omega) | (refine And.intro (by omega) ?_; simp only [ByteArray.size, List.size_toArray, List.length_cons, List.length_nil]; omega) | kernel_rfl)) ?_)
        | refine Or.inr ?_
        | refine sat_drawH (Tryd.ok ..) (by kernel_rfl) ?_
        | refine Exists.intro [_] (And.intro (one_byte rfl) ?_)
        | refine Exists.intro [_] (And.intro (fun _ => one_byte rfl) ?_)
        | refine Exists.intro _ (And.intro (And.intro rfl rfl) ?_)
        | refine Exists.intro _ (And.intro (fun _ => And.intro rfl rfl) ?_)
        | refine Exists.intro _ (And.intro rfl ?_))
      refine calledQ_pure (.v (.bool false)) rfl (fun _ w' => hrr w') ?_
      repeat' ((conv => whnf); first
        | refine walk (Tryd.ok ..) ?_
        | (refine Cnd.mk (fun h => ?_) (fun h => ?_) <;> (first | (exfalso; simp only [decide_eq_true_eq, decide_eq_false_iff_not, Bool.not_eq_true', Bool.not_eq_false'] at h; omega) | simp at h | skip))
        | refine And.intro (Kept.mk ?_) ?_
        | exact trivial
        | refine And.intro (by (first | rfl | (intro h; exact h) | (intro h; exact absurd h Bool.false_ne_true) | omega | exact h | exact congrArg Bool.not h | exact ⟨rfl, rfl⟩ | exact ⟨⟨rfl, rfl⟩, rfl⟩ | exact ⟨⟨rfl, rfl, rfl, rfl⟩, rfl, rfl⟩ | exact trivial | exact ⟨rfl, rfl, rfl, rfl⟩ | exact ⟨⟨rfl, rfl⟩, rfl, rfl⟩ | exact ⟨rfl, Nat.le_of_ble_eq_true rfl, rfl⟩ | exact Nat.le_of_ble_eq_true rfl | (simp only [Grd.ob, Grd.and, InR, kb, Int.toNat_natCast, ByteArray.size_append, ByteArray.size_extract, Sat.strOf_len, List.length_cons, List.length_nil] <;> omega) | (simp only [Grd.ob, Grd.and, InR, kb, Int.toNat_natCast, ByteArray.size_append, ByteArray.size_extract, Sat.strOf_len, List.length_cons, List.length_nil]; intro h; simp at h; omega) | (refine And.intro (by omega) ?_; simp only [ByteArray.size, List.size_toArray, List.length_cons, List.length_nil]; omega) | kernel_rfl)) ?_
        | refine Or.inl (And.intro (by (first | rfl | (intro h; exact h) | (intro h; exact absurd h Bool.false_ne_true) | omega | exact h | exact congrArg Bool.not h | exact ⟨rfl, rfl⟩ | exact ⟨⟨rfl, rfl⟩, rfl⟩ | exact ⟨⟨rfl, rfl, rfl, rfl⟩, rfl, rfl⟩ | exact trivial | exact ⟨rfl, rfl, rfl, rfl⟩ | exact ⟨⟨rfl, rfl⟩, rfl, rfl⟩ | exact ⟨rfl, Nat.le_of_ble_eq_true rfl, rfl⟩ | exact Nat.le_of_ble_eq_true rfl | (simp only [Grd.ob, Grd.and, InR, kb, Int.toNat_natCast, ByteArray.size_append, ByteArray.size_extract, Sat.strOf_len, List.length_cons, List.length_nil] <;> omega) | (simp only [Grd.ob, Grd.and, InR, kb, Int.toNat_natCast, ByteArray.size_append, ByteArray.size_extract, Sat.strOf_len, List.length_cons, List.length_nil]; intro h; simp at h; omega) | (refine And.intro (by omega) ?_; simp only [ByteArray.size, List.size_toArray, List.length_cons, List.length_nil]; omega) | kernel_rfl)) ?_)
        | refine Or.inr ?_
        | refine sat_drawH (Tryd.ok ..) (by kernel_rfl) ?_
        | refine Exists.intro [_] (And.intro (one_byte rfl) ?_)
        | refine Exists.intro [_] (And.intro (fun _ => one_byte rfl) ?_)
        | refine Exists.intro _ (And.intro (And.intro rfl rfl) ?_)
        | refine Exists.intro _ (And.intro (fun _ => And.intro rfl rfl) ?_)
        | refine Exists.intro _ (And.intro rfl ?_))
      exact done_pure rfl rfl rfl
    · rename_i hok hten
      exfalso
      have hi10 : i = 10 := by omega
      subst hi10
      have hf := hit_last hn0 (hok.2 (by omega)) (by rw [← htb]; exact hok.1.1.1)
      rw [htd2, hf] at h
      exact Bool.false_ne_true h
    · rename_i hok hten
      have hi10 : i < 10 := by omega
      have hmay := tell_may hi hten.1.1.2 hten.1.2 hten.2
      have hne : (tb : Int) ≠ bt (mdS n) i := by rw [← htb]; exact hten.1.1.1
      have hh := hit_ten hn0 hi10 ht hmay hne
      have hset : p.extract 0 i ++ Sat.strOf [(tb : Int)] ++ p.extract (i + 1) p.size = setB (mdP n) i tb := by rw [← hP]; rfl
      have hqz : (setB (mdP n) i tb).size = 10 := setP_size hi10 _
      have hrQ : ∀ w, Calls Tryd.prog 17 #[.string (setB (mdP n) i tb)] w fun e w' => e = .returned (.int .i64 (dsum (setB (mdP n) i tb) 10 % 11)) ∧ Below w.heap.size w w' := fun w => (rem_ten _ hqz w).mono (by rintro e w' ⟨he, rfl⟩; exact ⟨he, below_self _⟩)
      have htl : s11.extract 10 s11.size = strOf [mdD n] := by rw [← hS]; exact mdS_tail n
      have hrr : ∀ w, Calls Tryd.prog 14 #[.string (setB (mdP n) i tb ++ s11.extract 10 s11.size)] w fun e w' => e = .returned (.bool (hit (mdS n) i tb)) ∧ Below w.heap.size w w' := fun w => by
        have := right_any (setB (mdP n) i tb ++ s11.extract 10 s11.size) w (by rw [ByteArray.size_append, hqz, htl, strOf_size]; unfold maxLen; simp)
        rw [htl, hh.2] at this
        rw [htl]
        rw [show ((if hit (mdS n) i tb = true then (0 : Int) else 31) == 0) = hit (mdS n) i tb by cases hit (mdS n) i tb <;> rfl] at this
        exact this
      have hdd : hit (mdS n) i tb = true → 48 ≤ (tb : Int) → (tb : Int) ≤ 57 → dsum p 10 % 11 ≠ dsum (setB (mdP n) i tb) 10 % 11 := by
        intro _ h0 h1
        have h3 : 3 < i := by
          rcases Nat.lt_trichotomy i 3 with h | rfl | h
          · have := hten.1.1.2 (by omega); omega
          · have := hten.1.2 rfl (by omega) (by omega); omega
          · exact h
        have hb := mdB_dig hn0 hi10 h3
        rw [← hP]
        exact (digit_differs hi10 h3 (by rw [mdP_size]; exact hi10) h0 h1 hb.1 hb.2 (by rw [← bt_mdS hi10]; exact hne)).symm
      have hh1 := hh.1
      rw [hP] at hh1
      have hrQ2 : ∀ w, Calls Tryd.prog 17 #[.string (p.extract 0 i ++ Sat.strOf [(tb : Int)] ++ p.extract (i + 1) p.size)] w fun e w' => e = .returned (.int .i64 (dsum (setB p i tb) 10 % 11)) ∧ Below w.heap.size w w' := fun w => by rw [hset]; rw [hP] at hrQ; rw [hP]; exact hrQ w
      have hrr2 : ∀ w, Calls Tryd.prog 14 #[.string (p.extract 0 i ++ Sat.strOf [(tb : Int)] ++ p.extract (i + 1) p.size ++ s11.extract 10 s11.size)] w fun e w' => e = .returned (.bool td) ∧ Below w.heap.size w w' := fun w => by rw [hset, htd2]; exact hrr w
      rw [← htd2] at hh1 hdd
      rw [hP] at hdd
      have hm1 := Int.emod_nonneg (dsum p 10) (show (11 : Int) ≠ 0 by decide)
      have hm2 := Int.emod_lt_of_pos (dsum p 10) (show (0 : Int) < 11 by decide)
      have hm3 := Int.emod_nonneg (dsum (setB p i tb) 10) (show (11 : Int) ≠ 0 by decide)
      have hm4 := Int.emod_lt_of_pos (dsum (setB p i tb) 10) (show (0 : Int) < 11 by decide)
      clear hrQ hrr hh hqz htl hset hne htb hc2 hin hsort hml
      generalize dsum p 10 % 11 = x at hh1 hdd hrP hm1 hm2
      generalize dsum (setB p i tb) 10 % 11 = y at hh1 hdd hrQ2 hm3 hm4
      intro g hg
      repeat' ((conv => whnf); first
        | refine walk (Tryd.ok ..) ?_
        | (refine Cnd.mk (fun h => ?_) (fun h => ?_) <;> (first | (exfalso; simp only [decide_eq_true_eq, decide_eq_false_iff_not, Bool.not_eq_true', Bool.not_eq_false'] at h; omega) | simp at h | skip))
        | refine And.intro (Kept.mk ?_) ?_
        | exact trivial
        | refine And.intro (by (first | rfl | (intro h; exact h) | (intro h; exact absurd h Bool.false_ne_true) | omega | exact h | exact congrArg Bool.not h | exact ⟨rfl, rfl⟩ | exact ⟨⟨rfl, rfl⟩, rfl⟩ | exact ⟨⟨rfl, rfl, rfl, rfl⟩, rfl, rfl⟩ | exact trivial | exact ⟨rfl, rfl, rfl, rfl⟩ | exact ⟨⟨rfl, rfl⟩, rfl, rfl⟩ | exact ⟨rfl, Nat.le_of_ble_eq_true rfl, rfl⟩ | exact Nat.le_of_ble_eq_true rfl | (simp only [Grd.ob, Grd.and, InR, kb, Int.toNat_natCast, ByteArray.size_append, ByteArray.size_extract, Sat.strOf_len, List.length_cons, List.length_nil] <;> omega) | (simp only [Grd.ob, Grd.and, InR, kb, Int.toNat_natCast, ByteArray.size_append, ByteArray.size_extract, Sat.strOf_len, List.length_cons, List.length_nil]; intro h; simp at h; omega) | (refine And.intro (by omega) ?_; simp only [ByteArray.size, List.size_toArray, List.length_cons, List.length_nil]; omega) | kernel_rfl)) ?_
        | refine Or.inl (And.intro (by (first | rfl | (intro h; exact h) | (intro h; exact absurd h Bool.false_ne_true) | omega | exact h | exact congrArg Bool.not h | exact ⟨rfl, rfl⟩ | exact ⟨⟨rfl, rfl⟩, rfl⟩ | exact ⟨⟨rfl, rfl, rfl, rfl⟩, rfl, rfl⟩ | exact trivial | exact ⟨rfl, rfl, rfl, rfl⟩ | exact ⟨⟨rfl, rfl⟩, rfl, rfl⟩ | exact ⟨rfl, Nat.le_of_ble_eq_true rfl, rfl⟩ | exact Nat.le_of_ble_eq_true rfl | (simp only [Grd.ob, Grd.and, InR, kb, Int.toNat_natCast, ByteArray.size_append, ByteArray.size_extract, Sat.strOf_len, List.length_cons, List.length_nil] <;> omega) | (simp only [Grd.ob, Grd.and, InR, kb, Int.toNat_natCast, ByteArray.size_append, ByteArray.size_extract, Sat.strOf_len, List.length_cons, List.length_nil]; intro h; simp at h; omega) | (refine And.intro (by omega) ?_; simp only [ByteArray.size, List.size_toArray, List.length_cons, List.length_nil]; omega) | kernel_rfl)) ?_)
        | refine Or.inr ?_
        | refine sat_drawH (Tryd.ok ..) (by kernel_rfl) ?_
        | refine Exists.intro [_] (And.intro (one_byte rfl) ?_)
        | refine Exists.intro [_] (And.intro (fun _ => one_byte rfl) ?_)
        | refine Exists.intro _ (And.intro (And.intro rfl rfl) ?_)
        | refine Exists.intro _ (And.intro (fun _ => And.intro rfl rfl) ?_)
        | refine Exists.intro _ (And.intro rfl ?_))
      refine called_pure (.v (.int .i64 x)) rfl (fun w' => hrP w') ?_
      repeat' ((conv => whnf); first
        | refine walk (Tryd.ok ..) ?_
        | (refine Cnd.mk (fun h => ?_) (fun h => ?_) <;> (first | (exfalso; simp only [decide_eq_true_eq, decide_eq_false_iff_not, Bool.not_eq_true', Bool.not_eq_false'] at h; omega) | simp at h | skip))
        | refine And.intro (Kept.mk ?_) ?_
        | exact trivial
        | refine And.intro (by (first | rfl | (intro h; exact h) | (intro h; exact absurd h Bool.false_ne_true) | omega | exact h | exact congrArg Bool.not h | exact ⟨rfl, rfl⟩ | exact ⟨⟨rfl, rfl⟩, rfl⟩ | exact ⟨⟨rfl, rfl, rfl, rfl⟩, rfl, rfl⟩ | exact trivial | exact ⟨rfl, rfl, rfl, rfl⟩ | exact ⟨⟨rfl, rfl⟩, rfl, rfl⟩ | exact ⟨rfl, Nat.le_of_ble_eq_true rfl, rfl⟩ | exact Nat.le_of_ble_eq_true rfl | (simp only [Grd.ob, Grd.and, InR, kb, Int.toNat_natCast, ByteArray.size_append, ByteArray.size_extract, Sat.strOf_len, List.length_cons, List.length_nil] <;> omega) | (simp only [Grd.ob, Grd.and, InR, kb, Int.toNat_natCast, ByteArray.size_append, ByteArray.size_extract, Sat.strOf_len, List.length_cons, List.length_nil]; intro h; simp at h; omega) | (refine And.intro (by omega) ?_; simp only [ByteArray.size, List.size_toArray, List.length_cons, List.length_nil]; omega) | kernel_rfl)) ?_
        | refine Or.inl (And.intro (by (first | rfl | (intro h; exact h) | (intro h; exact absurd h Bool.false_ne_true) | omega | exact h | exact congrArg Bool.not h | exact ⟨rfl, rfl⟩ | exact ⟨⟨rfl, rfl⟩, rfl⟩ | exact ⟨⟨rfl, rfl, rfl, rfl⟩, rfl, rfl⟩ | exact trivial | exact ⟨rfl, rfl, rfl, rfl⟩ | exact ⟨⟨rfl, rfl⟩, rfl, rfl⟩ | exact ⟨rfl, Nat.le_of_ble_eq_true rfl, rfl⟩ | exact Nat.le_of_ble_eq_true rfl | (simp only [Grd.ob, Grd.and, InR, kb, Int.toNat_natCast, ByteArray.size_append, ByteArray.size_extract, Sat.strOf_len, List.length_cons, List.length_nil] <;> omega) | (simp only [Grd.ob, Grd.and, InR, kb, Int.toNat_natCast, ByteArray.size_append, ByteArray.size_extract, Sat.strOf_len, List.length_cons, List.length_nil]; intro h; simp at h; omega) | (refine And.intro (by omega) ?_; simp only [ByteArray.size, List.size_toArray, List.length_cons, List.length_nil]; omega) | kernel_rfl)) ?_)
        | refine Or.inr ?_
        | refine sat_drawH (Tryd.ok ..) (by kernel_rfl) ?_
        | refine Exists.intro [_] (And.intro (one_byte rfl) ?_)
        | refine Exists.intro [_] (And.intro (fun _ => one_byte rfl) ?_)
        | refine Exists.intro _ (And.intro (And.intro rfl rfl) ?_)
        | refine Exists.intro _ (And.intro (fun _ => And.intro rfl rfl) ?_)
        | refine Exists.intro _ (And.intro rfl ?_))
      refine called_pure (.v (.int .i64 y)) rfl (fun w' => hrQ2 w') ?_
      repeat' ((conv => whnf); first
        | refine walk (Tryd.ok ..) ?_
        | (refine Cnd.mk (fun h => ?_) (fun h => ?_) <;> (first | (exfalso; simp only [decide_eq_true_eq, decide_eq_false_iff_not, Bool.not_eq_true', Bool.not_eq_false'] at h; omega) | simp at h | skip))
        | refine And.intro (Kept.mk ?_) ?_
        | exact trivial
        | refine And.intro (by (first | rfl | (intro h; exact h) | (intro h; exact absurd h Bool.false_ne_true) | omega | exact h | exact congrArg Bool.not h | exact ⟨rfl, rfl⟩ | exact ⟨⟨rfl, rfl⟩, rfl⟩ | exact ⟨⟨rfl, rfl, rfl, rfl⟩, rfl, rfl⟩ | exact trivial | exact ⟨rfl, rfl, rfl, rfl⟩ | exact ⟨⟨rfl, rfl⟩, rfl, rfl⟩ | exact ⟨rfl, Nat.le_of_ble_eq_true rfl, rfl⟩ | exact Nat.le_of_ble_eq_true rfl | (simp only [Grd.ob, Grd.and, InR, kb, Int.toNat_natCast, ByteArray.size_append, ByteArray.size_extract, Sat.strOf_len, List.length_cons, List.length_nil] <;> omega) | (simp only [Grd.ob, Grd.and, InR, kb, Int.toNat_natCast, ByteArray.size_append, ByteArray.size_extract, Sat.strOf_len, List.length_cons, List.length_nil]; intro h; simp at h; omega) | (refine And.intro (by omega) ?_; simp only [ByteArray.size, List.size_toArray, List.length_cons, List.length_nil]; omega) | kernel_rfl)) ?_
        | refine Or.inl (And.intro (by (first | rfl | (intro h; exact h) | (intro h; exact absurd h Bool.false_ne_true) | omega | exact h | exact congrArg Bool.not h | exact ⟨rfl, rfl⟩ | exact ⟨⟨rfl, rfl⟩, rfl⟩ | exact ⟨⟨rfl, rfl, rfl, rfl⟩, rfl, rfl⟩ | exact trivial | exact ⟨rfl, rfl, rfl, rfl⟩ | exact ⟨⟨rfl, rfl⟩, rfl, rfl⟩ | exact ⟨rfl, Nat.le_of_ble_eq_true rfl, rfl⟩ | exact Nat.le_of_ble_eq_true rfl | (simp only [Grd.ob, Grd.and, InR, kb, Int.toNat_natCast, ByteArray.size_append, ByteArray.size_extract, Sat.strOf_len, List.length_cons, List.length_nil] <;> omega) | (simp only [Grd.ob, Grd.and, InR, kb, Int.toNat_natCast, ByteArray.size_append, ByteArray.size_extract, Sat.strOf_len, List.length_cons, List.length_nil]; intro h; simp at h; omega) | (refine And.intro (by omega) ?_; simp only [ByteArray.size, List.size_toArray, List.length_cons, List.length_nil]; omega) | kernel_rfl)) ?_)
        | refine Or.inr ?_
        | refine sat_drawH (Tryd.ok ..) (by kernel_rfl) ?_
        | refine Exists.intro [_] (And.intro (one_byte rfl) ?_)
        | refine Exists.intro [_] (And.intro (fun _ => one_byte rfl) ?_)
        | refine Exists.intro _ (And.intro (And.intro rfl rfl) ?_)
        | refine Exists.intro _ (And.intro (fun _ => And.intro rfl rfl) ?_)
        | refine Exists.intro _ (And.intro rfl ?_))
      refine calledQ_pure (.v (.bool td)) rfl (fun _ w' => hrr2 w') ?_
      repeat' ((conv => whnf); first
        | refine walk (Tryd.ok ..) ?_
        | (refine Cnd.mk (fun h => ?_) (fun h => ?_) <;> (first | (exfalso; simp only [decide_eq_true_eq, decide_eq_false_iff_not, Bool.not_eq_true', Bool.not_eq_false'] at h; omega) | simp at h | skip))
        | refine And.intro (Kept.mk ?_) ?_
        | exact trivial
        | refine And.intro (by (first | rfl | (intro h; exact h) | (intro h; exact absurd h Bool.false_ne_true) | omega | exact h | exact congrArg Bool.not h | exact ⟨rfl, rfl⟩ | exact ⟨⟨rfl, rfl⟩, rfl⟩ | exact ⟨⟨rfl, rfl, rfl, rfl⟩, rfl, rfl⟩ | exact trivial | exact ⟨rfl, rfl, rfl, rfl⟩ | exact ⟨⟨rfl, rfl⟩, rfl, rfl⟩ | exact ⟨rfl, Nat.le_of_ble_eq_true rfl, rfl⟩ | exact Nat.le_of_ble_eq_true rfl | (simp only [Grd.ob, Grd.and, InR, kb, Int.toNat_natCast, ByteArray.size_append, ByteArray.size_extract, Sat.strOf_len, List.length_cons, List.length_nil] <;> omega) | (simp only [Grd.ob, Grd.and, InR, kb, Int.toNat_natCast, ByteArray.size_append, ByteArray.size_extract, Sat.strOf_len, List.length_cons, List.length_nil]; intro h; simp at h; omega) | (refine And.intro (by omega) ?_; simp only [ByteArray.size, List.size_toArray, List.length_cons, List.length_nil]; omega) | kernel_rfl)) ?_
        | refine Or.inl (And.intro (by (first | rfl | (intro h; exact h) | (intro h; exact absurd h Bool.false_ne_true) | omega | exact h | exact congrArg Bool.not h | exact ⟨rfl, rfl⟩ | exact ⟨⟨rfl, rfl⟩, rfl⟩ | exact ⟨⟨rfl, rfl, rfl, rfl⟩, rfl, rfl⟩ | exact trivial | exact ⟨rfl, rfl, rfl, rfl⟩ | exact ⟨⟨rfl, rfl⟩, rfl, rfl⟩ | exact ⟨rfl, Nat.le_of_ble_eq_true rfl, rfl⟩ | exact Nat.le_of_ble_eq_true rfl | (simp only [Grd.ob, Grd.and, InR, kb, Int.toNat_natCast, ByteArray.size_append, ByteArray.size_extract, Sat.strOf_len, List.length_cons, List.length_nil] <;> omega) | (simp only [Grd.ob, Grd.and, InR, kb, Int.toNat_natCast, ByteArray.size_append, ByteArray.size_extract, Sat.strOf_len, List.length_cons, List.length_nil]; intro h; simp at h; omega) | (refine And.intro (by omega) ?_; simp only [ByteArray.size, List.size_toArray, List.length_cons, List.length_nil]; omega) | kernel_rfl)) ?_)
        | refine Or.inr ?_
        | refine sat_drawH (Tryd.ok ..) (by kernel_rfl) ?_
        | refine Exists.intro [_] (And.intro (one_byte rfl) ?_)
        | refine Exists.intro [_] (And.intro (fun _ => one_byte rfl) ?_)
        | refine Exists.intro _ (And.intro (And.intro rfl rfl) ?_)
        | refine Exists.intro _ (And.intro (fun _ => And.intro rfl rfl) ?_)
        | refine Exists.intro _ (And.intro rfl ?_))
      refine done_pure rfl rfl (congrArg Value.bool ?_)
      rw [← hh1]
      cases td with
      | false => simp
      | true =>
        have h1 := hdd rfl
        by_cases h2 : 48 ≤ (tb : Int) ∧ (tb : Int) ≤ 57
        · have h3 := h1 h2.1 h2.2
          simp [h3]
        · simp
          omega
end Go.Proofs.YtedpadjlkddgjaaDoor

