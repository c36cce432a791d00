/-
  The walk of IsoBack.
-/
import Derived.Test.YtedpadjlkddgjaaDoorTab
import Derived.Test.YtedpadjlkddgjaaDoorP
import Derived.Test.YtedpadjlkddgjaaDoorBack
namespace Go.Proofs.YtedpadjlkddgjaaDoor
open Go Sat Go.RowKit Go.PlainAid
set_option linter.unusedSimpArgs false
set_option linter.unusedVariables false
theorem rdMd_any (n : Int) (hn : 0 ≤ n) (s : ByteArray) (hz : s.size ≤ 40) (h : nrm (btl s) = btl (mdS n)) (w : World) : Calls Tryd.prog 19 #[.string s] w fun e w' => e = .returned (.tuple #[.string (mdS n), .int .i64 0]) ∧ Below w.heap.size w w' := by
  have hc := read_any s w (by unfold maxLen; omega)
  obtain ⟨h1, h2⟩ := md_read n hn hz h
  rw [h1, h2] at hc
  exact hc
theorem wrMd_any (n : Int) (hn : 0 ≤ n) (w : World) : Calls Tryd.prog 18 #[.string (mdS n)] w fun e w' => e = .returned (.tuple #[.string (wrW (mdS n)), .int .i64 0]) ∧ Below w.heap.size w w' := by
  have hc := write_any (mdS n) w (by rw [mdS_size]; unfold maxLen; omega)
  rw [(md_wr n hn).1, mdS_chk hn] at hc
  exact hc
/-- another check digit -/
theorem rdC_any (n : Int) (hn : 0 ≤ n) (c : Nat) (h0 : 48 ≤ c) (h1 : c ≤ 57) (w : World) : Calls Tryd.prog 19 #[.string (mdP n ++ Sat.strOf [(c : Int)])] w fun e w' => e = .returned (.tuple #[.string (if mdD n = c then mdP n ++ Sat.strOf [(c : Int)] else ⟨#[]⟩), .int .i64 (if mdD n = c then 0 else 31)]) ∧ Below w.heap.size w w' := by
  have hz : (mdP n ++ Sat.strOf [(c : Int)]).size = 11 := by rw [ByteArray.size_append, mdP_size, Sat.strOf_len]; rfl
  have hc := read_any (mdP n ++ Sat.strOf [(c : Int)]) w (by rw [hz]; unfold maxLen; omega)
  have hf : nrm (btl (mdP n ++ Sat.strOf [(c : Int)])) = btl (mdP n ++ Sat.strOf [(c : Int)]) := by
    rw [btl_append, nrm_append, nrm_formed (mdP_formed hn), show btl (Sat.strOf [(c : Int)]) = [(c : Int)] from btl_strOf _ (by intro x hx; simp at hx; omega)]
    rw [nrm_fix (l := [(c : Int)]) (by intro x hx; simp at hx; omega)]
  obtain ⟨e1, e2⟩ := rd_of (by omega) hf
  have e3 : chk (mdP n ++ Sat.strOf [(c : Int)]) = if mdD n = c then 0 else 31 := chk_app (mdP_size n) (mdP_formed hn) (by omega) (by omega)
  rw [e2, e1, e3] at hc
  rw [show (if (if mdD n = (c : Int) then (0 : Int) else 31) = 0 then mdP n ++ Sat.strOf [(c : Int)] else (⟨#[]⟩ : ByteArray)) = if mdD n = c then mdP n ++ Sat.strOf [(c : Int)] else ⟨#[]⟩ by by_cases q : mdD n = (c : Int) <;> simp [q]] at hc
  exact hc
set_option maxRecDepth 100000 in
set_option maxHeartbeats 8000000 in
theorem isoBack_any (n : Int) (A : Option (Nat × Nat)) (cap : Nat) (ats : List Int) (w : World) (b o c : Nat) (hk : Kin w b o c) (hn0 : 0 ≤ n) (hn1 : n ≤ 18446744073709551615) (hat : ∀ x ∈ ats, -9223372036854775808 ≤ x ∧ x ≤ 9223372036854775807) (hro : Ro w A ats.length 1 (ats.map (Value.int .i64))) (hlen : ats.length ≤ 9223372036854775807) :
    Calls Tryd.prog 5 #[.int .u64 n, .slice (adr A) ats.length cap] w fun e w' => e = .returned (.bool true) ∧ Below w.heap.size w w' := by
  refine calls_sat (cx := Tryd.cx 189 [] [] [] w) (Tryd.ok ..) Tryd.func5 rfl [.v (.int .u64 n), .o 1 A ats.length cap] rfl (by show 2 ≤ 189; omega) [(1, .ro A ats.length 1 (ats.map (Value.int .i64)))] (holds_ros rfl rfl ⟨hro, trivial⟩) ?_
  repeat' ((conv => whnf); first
    | refine walk (Tryd.ok ..) ?_
    | (refine Cnd.mk (fun h => ?_) (fun h => ?_) <;> (first | (exfalso; simp only [decide_eq_true_eq, decide_eq_false_iff_not, Bool.not_eq_true', Bool.not_eq_false'] at h; omega) | (exfalso; simp at h; omega) | simp at h | skip))
    | refine And.intro (Kept.mk ?_) ?_
    | exact trivial
    | refine And.intro (by (first | rfl | (intro h; exact h) | (intro h; exact absurd h Bool.false_ne_true) | omega | exact h | exact congrArg Bool.not h | exact ⟨rfl, rfl⟩ | exact ⟨⟨rfl, rfl⟩, rfl⟩ | exact ⟨⟨rfl, rfl, rfl, rfl⟩, rfl, rfl⟩ | exact trivial | exact ⟨rfl, rfl, rfl, rfl⟩ | exact ⟨⟨rfl, rfl⟩, rfl, rfl⟩ | exact ⟨rfl, Nat.le_of_ble_eq_true rfl, rfl⟩ | exact Nat.le_of_ble_eq_true rfl | (simp only [Grd.ob, Grd.and, InR, kb, Int.toNat_natCast, ByteArray.size_append, ByteArray.size_extract, Sat.strOf_len, List.length_cons, List.length_nil] <;> omega) | (simp only [Grd.ob, Grd.and, InR, kb, Int.toNat_natCast, ByteArray.size_append, ByteArray.size_extract, Sat.strOf_len, List.length_cons, List.length_nil]; intro h; simp at h; omega) | (refine And.intro (by omega) ?_; simp only [ByteArray.size, List.size_toArray, List.length_cons, List.length_nil]; omega) | exact ⟨rfl, rfl, rfl, rfl, rfl⟩ | exact ⟨rfl, rfl, rfl, rfl, rfl, rfl⟩ | ((try dsimp only); unfold maxLen; omega) | kernel_rfl)) ?_
    | refine Or.inl (And.intro (by (first | rfl | (intro h; exact h) | (intro h; exact absurd h Bool.false_ne_true) | omega | exact h | exact congrArg Bool.not h | exact ⟨rfl, rfl⟩ | exact ⟨⟨rfl, rfl⟩, rfl⟩ | exact ⟨⟨rfl, rfl, rfl, rfl⟩, rfl, rfl⟩ | exact trivial | exact ⟨rfl, rfl, rfl, rfl⟩ | exact ⟨⟨rfl, rfl⟩, rfl, rfl⟩ | exact ⟨rfl, Nat.le_of_ble_eq_true rfl, rfl⟩ | exact Nat.le_of_ble_eq_true rfl | (simp only [Grd.ob, Grd.and, InR, kb, Int.toNat_natCast, ByteArray.size_append, ByteArray.size_extract, Sat.strOf_len, List.length_cons, List.length_nil] <;> omega) | (simp only [Grd.ob, Grd.and, InR, kb, Int.toNat_natCast, ByteArray.size_append, ByteArray.size_extract, Sat.strOf_len, List.length_cons, List.length_nil]; intro h; simp at h; omega) | (refine And.intro (by omega) ?_; simp only [ByteArray.size, List.size_toArray, List.length_cons, List.length_nil]; omega) | exact ⟨rfl, rfl, rfl, rfl, rfl⟩ | exact ⟨rfl, rfl, rfl, rfl, rfl, rfl⟩ | ((try dsimp only); unfold maxLen; omega) | kernel_rfl)) ?_)
    | refine Or.inr ?_
    | refine sat_drawH (Tryd.ok ..) (by kernel_rfl) ?_
    | refine Exists.intro [_] (And.intro (one_byte rfl) ?_)
    | refine Exists.intro [_] (And.intro (fun _ => one_byte rfl) ?_)
    | refine Exists.intro _ (And.intro (And.intro rfl rfl) ?_)
    | refine Exists.intro _ (And.intro (fun _ => And.intro rfl rfl) ?_)
    | refine Exists.intro _ (And.intro rfl ?_))
  refine called_at (.v (.bool true)) rfl (fun w' hw => awake_any w' b o c (hk.below (below_of rfl rfl hw))) ?_
  repeat' ((conv => whnf); first
    | refine walk (Tryd.ok ..) ?_
    | (refine Cnd.mk (fun h => ?_) (fun h => ?_) <;> (first | (exfalso; simp only [decide_eq_true_eq, decide_eq_false_iff_not, Bool.not_eq_true', Bool.not_eq_false'] at h; omega) | (exfalso; simp at h; omega) | simp at h | skip))
    | refine And.intro (Kept.mk ?_) ?_
    | exact trivial
    | refine And.intro (by (first | rfl | (intro h; exact h) | (intro h; exact absurd h Bool.false_ne_true) | omega | exact h | exact congrArg Bool.not h | exact ⟨rfl, rfl⟩ | exact ⟨⟨rfl, rfl⟩, rfl⟩ | exact ⟨⟨rfl, rfl, rfl, rfl⟩, rfl, rfl⟩ | exact trivial | exact ⟨rfl, rfl, rfl, rfl⟩ | exact ⟨⟨rfl, rfl⟩, rfl, rfl⟩ | exact ⟨rfl, Nat.le_of_ble_eq_true rfl, rfl⟩ | exact Nat.le_of_ble_eq_true rfl | (simp only [Grd.ob, Grd.and, InR, kb, Int.toNat_natCast, ByteArray.size_append, ByteArray.size_extract, Sat.strOf_len, List.length_cons, List.length_nil] <;> omega) | (simp only [Grd.ob, Grd.and, InR, kb, Int.toNat_natCast, ByteArray.size_append, ByteArray.size_extract, Sat.strOf_len, List.length_cons, List.length_nil]; intro h; simp at h; omega) | (refine And.intro (by omega) ?_; simp only [ByteArray.size, List.size_toArray, List.length_cons, List.length_nil]; omega) | exact ⟨rfl, rfl, rfl, rfl, rfl⟩ | exact ⟨rfl, rfl, rfl, rfl, rfl, rfl⟩ | ((try dsimp only); unfold maxLen; omega) | kernel_rfl)) ?_
    | refine Or.inl (And.intro (by (first | rfl | (intro h; exact h) | (intro h; exact absurd h Bool.false_ne_true) | omega | exact h | exact congrArg Bool.not h | exact ⟨rfl, rfl⟩ | exact ⟨⟨rfl, rfl⟩, rfl⟩ | exact ⟨⟨rfl, rfl, rfl, rfl⟩, rfl, rfl⟩ | exact trivial | exact ⟨rfl, rfl, rfl, rfl⟩ | exact ⟨⟨rfl, rfl⟩, rfl, rfl⟩ | exact ⟨rfl, Nat.le_of_ble_eq_true rfl, rfl⟩ | exact Nat.le_of_ble_eq_true rfl | (simp only [Grd.ob, Grd.and, InR, kb, Int.toNat_natCast, ByteArray.size_append, ByteArray.size_extract, Sat.strOf_len, List.length_cons, List.length_nil] <;> omega) | (simp only [Grd.ob, Grd.and, InR, kb, Int.toNat_natCast, ByteArray.size_append, ByteArray.size_extract, Sat.strOf_len, List.length_cons, List.length_nil]; intro h; simp at h; omega) | (refine And.intro (by omega) ?_; simp only [ByteArray.size, List.size_toArray, List.length_cons, List.length_nil]; omega) | exact ⟨rfl, rfl, rfl, rfl, rfl⟩ | exact ⟨rfl, rfl, rfl, rfl, rfl, rfl⟩ | ((try dsimp only); unfold maxLen; omega) | kernel_rfl)) ?_)
    | refine Or.inr ?_
    | refine sat_drawH (Tryd.ok ..) (by kernel_rfl) ?_
    | refine Exists.intro [_] (And.intro (one_byte rfl) ?_)
    | refine Exists.intro [_] (And.intro (fun _ => one_byte rfl) ?_)
    | refine Exists.intro _ (And.intro (And.intro rfl rfl) ?_)
    | refine Exists.intro _ (And.intro (fun _ => And.intro rfl rfl) ?_)
    | refine Exists.intro _ (And.intro rfl ?_))
  refine called_pure (.t [.v (.string (mdP n)), .v (.int .u8 (mdD n)), .v (.bool true)]) rfl (fun w' => made_any n w' hn0 hn1) ?_
  repeat' ((conv => whnf); first
    | refine walk (Tryd.ok ..) ?_
    | (refine Cnd.mk (fun h => ?_) (fun h => ?_) <;> (first | (exfalso; simp only [decide_eq_true_eq, decide_eq_false_iff_not, Bool.not_eq_true', Bool.not_eq_false'] at h; omega) | (exfalso; simp at h; omega) | simp at h | skip))
    | refine And.intro (Kept.mk ?_) ?_
    | exact trivial
    | refine And.intro (by (first | rfl | (intro h; exact h) | (intro h; exact absurd h Bool.false_ne_true) | omega | exact h | exact congrArg Bool.not h | exact ⟨rfl, rfl⟩ | exact ⟨⟨rfl, rfl⟩, rfl⟩ | exact ⟨⟨rfl, rfl, rfl, rfl⟩, rfl, rfl⟩ | exact trivial | exact ⟨rfl, rfl, rfl, rfl⟩ | exact ⟨⟨rfl, rfl⟩, rfl, rfl⟩ | exact ⟨rfl, Nat.le_of_ble_eq_true rfl, rfl⟩ | exact Nat.le_of_ble_eq_true rfl | (simp only [Grd.ob, Grd.and, InR, kb, Int.toNat_natCast, ByteArray.size_append, ByteArray.size_extract, Sat.strOf_len, List.length_cons, List.length_nil] <;> omega) | (simp only [Grd.ob, Grd.and, InR, kb, Int.toNat_natCast, ByteArray.size_append, ByteArray.size_extract, Sat.strOf_len, List.length_cons, List.length_nil]; intro h; simp at h; omega) | (refine And.intro (by omega) ?_; simp only [ByteArray.size, List.size_toArray, List.length_cons, List.length_nil]; omega) | exact ⟨rfl, rfl, rfl, rfl, rfl⟩ | exact ⟨rfl, rfl, rfl, rfl, rfl, rfl⟩ | ((try dsimp only); unfold maxLen; omega) | kernel_rfl)) ?_
    | refine Or.inl (And.intro (by (first | rfl | (intro h; exact h) | (intro h; exact absurd h Bool.false_ne_true) | omega | exact h | exact congrArg Bool.not h | exact ⟨rfl, rfl⟩ | exact ⟨⟨rfl, rfl⟩, rfl⟩ | exact ⟨⟨rfl, rfl, rfl, rfl⟩, rfl, rfl⟩ | exact trivial | exact ⟨rfl, rfl, rfl, rfl⟩ | exact ⟨⟨rfl, rfl⟩, rfl, rfl⟩ | exact ⟨rfl, Nat.le_of_ble_eq_true rfl, rfl⟩ | exact Nat.le_of_ble_eq_true rfl | (simp only [Grd.ob, Grd.and, InR, kb, Int.toNat_natCast, ByteArray.size_append, ByteArray.size_extract, Sat.strOf_len, List.length_cons, List.length_nil] <;> omega) | (simp only [Grd.ob, Grd.and, InR, kb, Int.toNat_natCast, ByteArray.size_append, ByteArray.size_extract, Sat.strOf_len, List.length_cons, List.length_nil]; intro h; simp at h; omega) | (refine And.intro (by omega) ?_; simp only [ByteArray.size, List.size_toArray, List.length_cons, List.length_nil]; omega) | exact ⟨rfl, rfl, rfl, rfl, rfl⟩ | exact ⟨rfl, rfl, rfl, rfl, rfl, rfl⟩ | ((try dsimp only); unfold maxLen; omega) | kernel_rfl)) ?_)
    | refine Or.inr ?_
    | refine sat_drawH (Tryd.ok ..) (by kernel_rfl) ?_
    | refine Exists.intro [_] (And.intro (one_byte rfl) ?_)
    | refine Exists.intro [_] (And.intro (fun _ => one_byte rfl) ?_)
    | refine Exists.intro _ (And.intro (And.intro rfl rfl) ?_)
    | refine Exists.intro _ (And.intro (fun _ => And.intro rfl rfl) ?_)
    | refine Exists.intro _ (And.intro rfl ?_))
  intro g1 hg1
  repeat' ((conv => whnf); first
    | refine walk (Tryd.ok ..) ?_
    | (refine Cnd.mk (fun h => ?_) (fun h => ?_) <;> (first | (exfalso; simp only [decide_eq_true_eq, decide_eq_false_iff_not, Bool.not_eq_true', Bool.not_eq_false'] at h; omega) | (exfalso; simp at h; omega) | simp at h | skip))
    | refine And.intro (Kept.mk ?_) ?_
    | exact trivial
    | refine And.intro (by (first | rfl | (intro h; exact h) | (intro h; exact absurd h Bool.false_ne_true) | omega | exact h | exact congrArg Bool.not h | exact ⟨rfl, rfl⟩ | exact ⟨⟨rfl, rfl⟩, rfl⟩ | exact ⟨⟨rfl, rfl, rfl, rfl⟩, rfl, rfl⟩ | exact trivial | exact ⟨rfl, rfl, rfl, rfl⟩ | exact ⟨⟨rfl, rfl⟩, rfl, rfl⟩ | exact ⟨rfl, Nat.le_of_ble_eq_true rfl, rfl⟩ | exact Nat.le_of_ble_eq_true rfl | (simp only [Grd.ob, Grd.and, InR, kb, Int.toNat_natCast, ByteArray.size_append, ByteArray.size_extract, Sat.strOf_len, List.length_cons, List.length_nil] <;> omega) | (simp only [Grd.ob, Grd.and, InR, kb, Int.toNat_natCast, ByteArray.size_append, ByteArray.size_extract, Sat.strOf_len, List.length_cons, List.length_nil]; intro h; simp at h; omega) | (refine And.intro (by omega) ?_; simp only [ByteArray.size, List.size_toArray, List.length_cons, List.length_nil]; omega) | exact ⟨rfl, rfl, rfl, rfl, rfl⟩ | exact ⟨rfl, rfl, rfl, rfl, rfl, rfl⟩ | ((try dsimp only); unfold maxLen; omega) | kernel_rfl)) ?_
    | refine Or.inl (And.intro (by (first | rfl | (intro h; exact h) | (intro h; exact absurd h Bool.false_ne_true) | omega | exact h | exact congrArg Bool.not h | exact ⟨rfl, rfl⟩ | exact ⟨⟨rfl, rfl⟩, rfl⟩ | exact ⟨⟨rfl, rfl, rfl, rfl⟩, rfl, rfl⟩ | exact trivial | exact ⟨rfl, rfl, rfl, rfl⟩ | exact ⟨⟨rfl, rfl⟩, rfl, rfl⟩ | exact ⟨rfl, Nat.le_of_ble_eq_true rfl, rfl⟩ | exact Nat.le_of_ble_eq_true rfl | (simp only [Grd.ob, Grd.and, InR, kb, Int.toNat_natCast, ByteArray.size_append, ByteArray.size_extract, Sat.strOf_len, List.length_cons, List.length_nil] <;> omega) | (simp only [Grd.ob, Grd.and, InR, kb, Int.toNat_natCast, ByteArray.size_append, ByteArray.size_extract, Sat.strOf_len, List.length_cons, List.length_nil]; intro h; simp at h; omega) | (refine And.intro (by omega) ?_; simp only [ByteArray.size, List.size_toArray, List.length_cons, List.length_nil]; omega) | exact ⟨rfl, rfl, rfl, rfl, rfl⟩ | exact ⟨rfl, rfl, rfl, rfl, rfl, rfl⟩ | ((try dsimp only); unfold maxLen; omega) | kernel_rfl)) ?_)
    | refine Or.inr ?_
    | refine sat_drawH (Tryd.ok ..) (by kernel_rfl) ?_
    | refine Exists.intro [_] (And.intro (one_byte rfl) ?_)
    | refine Exists.intro [_] (And.intro (fun _ => one_byte rfl) ?_)
    | refine Exists.intro _ (And.intro (And.intro rfl rfl) ?_)
    | refine Exists.intro _ (And.intro (fun _ => And.intro rfl rfl) ?_)
    | refine Exists.intro _ (And.intro rfl ?_))
  refine called_pure (.t [.v (.string (wrW (mdS n))), .v (.int .i64 0)]) rfl (fun w' => wrMd_any n hn0 w') ?_
  obtain ⟨_, hw13, hwn⟩ := md_wr n hn0
  generalize wrW (mdS n) = w0 at hw13 hwn ⊢
  have hz : (mdP n ++ strOf [mdD n]).size = 11 := mdS_size n
  have hrd : ∀ (s : ByteArray), s.size ≤ 40 → nrm (btl s) = btl (mdS n) → ∀ w, Calls Tryd.prog 19 #[.string s] w fun e w' => e = .returned (.tuple #[.string (mdP n ++ Sat.strOf [mdD n]), .int .i64 0]) ∧ Below w.heap.size w w' := fun s h1 h2 w => rdMd_any n hn0 s h1 h2 w
  have hrc := rdC_any n hn0
  have hD := digI_bd (mdP n) 10
  rw [show digI (mdP n) 10 = mdD n from rfl] at hD
  have hS : mdP n ++ Sat.strOf [mdD n] = mdP n ++ Sat.strOf [mdD n] := rfl
  generalize hS2 : mdP n ++ Sat.strOf [mdD n] = s11 at hrd hS ⊢
  rw [show mdP n ++ strOf [mdD n] = s11 from hS2] at hz
  have hzp := mdP_size n
  generalize hP : mdP n = p at hrc hzp hS2 ⊢
  repeat' ((conv => whnf); first
    | refine walk (Tryd.ok ..) ?_
    | (refine Cnd.mk (fun h => ?_) (fun h => ?_) <;> (first | (exfalso; simp only [decide_eq_true_eq, decide_eq_false_iff_not, Bool.not_eq_true', Bool.not_eq_false'] at h; omega) | (exfalso; simp at h; omega) | simp at h | skip))
    | refine And.intro (Kept.mk ?_) ?_
    | exact trivial
    | refine And.intro (by (first | rfl | (intro h; exact h) | (intro h; exact absurd h Bool.false_ne_true) | omega | exact h | exact congrArg Bool.not h | exact ⟨rfl, rfl⟩ | exact ⟨⟨rfl, rfl⟩, rfl⟩ | exact ⟨⟨rfl, rfl, rfl, rfl⟩, rfl, rfl⟩ | exact trivial | exact ⟨rfl, rfl, rfl, rfl⟩ | exact ⟨⟨rfl, rfl⟩, rfl, rfl⟩ | exact ⟨rfl, Nat.le_of_ble_eq_true rfl, rfl⟩ | exact Nat.le_of_ble_eq_true rfl | (simp only [Grd.ob, Grd.and, InR, kb, Int.toNat_natCast, ByteArray.size_append, ByteArray.size_extract, Sat.strOf_len, List.length_cons, List.length_nil] <;> omega) | (simp only [Grd.ob, Grd.and, InR, kb, Int.toNat_natCast, ByteArray.size_append, ByteArray.size_extract, Sat.strOf_len, List.length_cons, List.length_nil]; intro h; simp at h; omega) | (refine And.intro (by omega) ?_; simp only [ByteArray.size, List.size_toArray, List.length_cons, List.length_nil]; omega) | exact ⟨rfl, rfl, rfl, rfl, rfl⟩ | exact ⟨rfl, rfl, rfl, rfl, rfl, rfl⟩ | ((try dsimp only); unfold maxLen; omega) | kernel_rfl)) ?_
    | refine Or.inl (And.intro (by (first | rfl | (intro h; exact h) | (intro h; exact absurd h Bool.false_ne_true) | omega | exact h | exact congrArg Bool.not h | exact ⟨rfl, rfl⟩ | exact ⟨⟨rfl, rfl⟩, rfl⟩ | exact ⟨⟨rfl, rfl, rfl, rfl⟩, rfl, rfl⟩ | exact trivial | exact ⟨rfl, rfl, rfl, rfl⟩ | exact ⟨⟨rfl, rfl⟩, rfl, rfl⟩ | exact ⟨rfl, Nat.le_of_ble_eq_true rfl, rfl⟩ | exact Nat.le_of_ble_eq_true rfl | (simp only [Grd.ob, Grd.and, InR, kb, Int.toNat_natCast, ByteArray.size_append, ByteArray.size_extract, Sat.strOf_len, List.length_cons, List.length_nil] <;> omega) | (simp only [Grd.ob, Grd.and, InR, kb, Int.toNat_natCast, ByteArray.size_append, ByteArray.size_extract, Sat.strOf_len, List.length_cons, List.length_nil]; intro h; simp at h; omega) | (refine And.intro (by omega) ?_; simp only [ByteArray.size, List.size_toArray, List.length_cons, List.length_nil]; omega) | exact ⟨rfl, rfl, rfl, rfl, rfl⟩ | exact ⟨rfl, rfl, rfl, rfl, rfl, rfl⟩ | ((try dsimp only); unfold maxLen; omega) | kernel_rfl)) ?_)
    | refine Or.inr ?_
    | refine sat_drawH (Tryd.ok ..) (by kernel_rfl) ?_
    | refine Exists.intro [_] (And.intro (one_byte rfl) ?_)
    | refine Exists.intro [_] (And.intro (fun _ => one_byte rfl) ?_)
    | refine Exists.intro _ (And.intro (And.intro rfl rfl) ?_)
    | refine Exists.intro _ (And.intro (fun _ => And.intro rfl rfl) ?_)
    | refine Exists.intro _ (And.intro rfl ?_))
  refine called_pure (.t [.v (.string s11), .v (.int .i64 0)]) rfl (fun w' => hrd w0 (by omega) hwn w') ?_
  repeat' ((conv => whnf); first
    | refine walk (Tryd.ok ..) ?_
    | (refine Cnd.mk (fun h => ?_) (fun h => ?_) <;> (first | (exfalso; simp only [decide_eq_true_eq, decide_eq_false_iff_not, Bool.not_eq_true', Bool.not_eq_false'] at h; omega) | (exfalso; simp at h; omega) | simp at h | skip))
    | refine And.intro (Kept.mk ?_) ?_
    | exact trivial
    | refine And.intro (by (first | rfl | (intro h; exact h) | (intro h; exact absurd h Bool.false_ne_true) | omega | exact h | exact congrArg Bool.not h | exact ⟨rfl, rfl⟩ | exact ⟨⟨rfl, rfl⟩, rfl⟩ | exact ⟨⟨rfl, rfl, rfl, rfl⟩, rfl, rfl⟩ | exact trivial | exact ⟨rfl, rfl, rfl, rfl⟩ | exact ⟨⟨rfl, rfl⟩, rfl, rfl⟩ | exact ⟨rfl, Nat.le_of_ble_eq_true rfl, rfl⟩ | exact Nat.le_of_ble_eq_true rfl | (simp only [Grd.ob, Grd.and, InR, kb, Int.toNat_natCast, ByteArray.size_append, ByteArray.size_extract, Sat.strOf_len, List.length_cons, List.length_nil] <;> omega) | (simp only [Grd.ob, Grd.and, InR, kb, Int.toNat_natCast, ByteArray.size_append, ByteArray.size_extract, Sat.strOf_len, List.length_cons, List.length_nil]; intro h; simp at h; omega) | (refine And.intro (by omega) ?_; simp only [ByteArray.size, List.size_toArray, List.length_cons, List.length_nil]; omega) | exact ⟨rfl, rfl, rfl, rfl, rfl⟩ | exact ⟨rfl, rfl, rfl, rfl, rfl, rfl⟩ | ((try dsimp only); unfold maxLen; omega) | kernel_rfl)) ?_
    | refine Or.inl (And.intro (by (first | rfl | (intro h; exact h) | (intro h; exact absurd h Bool.false_ne_true) | omega | exact h | exact congrArg Bool.not h | exact ⟨rfl, rfl⟩ | exact ⟨⟨rfl, rfl⟩, rfl⟩ | exact ⟨⟨rfl, rfl, rfl, rfl⟩, rfl, rfl⟩ | exact trivial | exact ⟨rfl, rfl, rfl, rfl⟩ | exact ⟨⟨rfl, rfl⟩, rfl, rfl⟩ | exact ⟨rfl, Nat.le_of_ble_eq_true rfl, rfl⟩ | exact Nat.le_of_ble_eq_true rfl | (simp only [Grd.ob, Grd.and, InR, kb, Int.toNat_natCast, ByteArray.size_append, ByteArray.size_extract, Sat.strOf_len, List.length_cons, List.length_nil] <;> omega) | (simp only [Grd.ob, Grd.and, InR, kb, Int.toNat_natCast, ByteArray.size_append, ByteArray.size_extract, Sat.strOf_len, List.length_cons, List.length_nil]; intro h; simp at h; omega) | (refine And.intro (by omega) ?_; simp only [ByteArray.size, List.size_toArray, List.length_cons, List.length_nil]; omega) | exact ⟨rfl, rfl, rfl, rfl, rfl⟩ | exact ⟨rfl, rfl, rfl, rfl, rfl, rfl⟩ | ((try dsimp only); unfold maxLen; omega) | kernel_rfl)) ?_)
    | refine Or.inr ?_
    | refine sat_drawH (Tryd.ok ..) (by kernel_rfl) ?_
    | refine Exists.intro [_] (And.intro (one_byte rfl) ?_)
    | refine Exists.intro [_] (And.intro (fun _ => one_byte rfl) ?_)
    | refine Exists.intro _ (And.intro (And.intro rfl rfl) ?_)
    | refine Exists.intro _ (And.intro (fun _ => And.intro rfl rfl) ?_)
    | refine Exists.intro _ (And.intro rfl ?_))
  refine sat_loop (Tryd.ok ..) (α := Nat × ByteArray) (fun x => ([(1, .yes, .o 1 A ats.length cap), (5, .yes, .v (.string p)), (6, .yes, .v (.int .u8 (mdD n))), (8, .yes, .v (.string s11)), (9, .yes, .v (.string x.2)), (13, .yes, .v (.int .i64 x.1))], [(1, .ro A ats.length 1 (ats.map (Value.int .i64)))])) (fun x => x.1 ≤ 20 ∧ x.1 ≤ ats.length ∧ x.2.size = 13 + x.1 ∧ nrm (btl x.2) = btl (mdS n)) (fun x => 20 - x.1) (fun _ => rfl) ?_ ?_
  · refine ⟨(0, w0), ⟨by omega, by omega, hw13, hwn⟩, ?_, ?_⟩
    all_goals ((repeat' (first | exact trivial | exact rfl | refine And.intro ?_ ?_)) <;> (try (conv => whnf)) <;> (try simp only [SV.real, SV.r2, SV.r1]))
  rintro ⟨i, w1⟩ ⟨hi20, hil, hw1, hn1⟩
  dsimp only at hi20 hil hw1 hn1
  by_cases hlt : i < ats.length ∧ i < 20
  · have hge : (ats.map (Value.int .i64))[i]? = some (.int .i64 (ats[i]'hlt.1)) := by simp [hlt.1]
    have hbd := hat _ (List.getElem_mem hlt.1)
    generalize ats[i]'hlt.1 = x at hge hbd
    have hpk : ∀ w', Calls Tryd.prog 15 #[.int .i64 x, .int .i64 ((w1.size : Int) + 1)] w' fun e w2 => ∃ k : Nat, k ≤ w1.size ∧ e = .returned (.int .i64 k) ∧ Below w'.heap.size w' w2 := fun w' =>
      (pick_nat x (w1.size + 1) w' (by omega) (by omega) hbd.1 hbd.2).mono (by rintro e w2 ⟨k, hk, he, rfl⟩; exact ⟨k, by omega, he, below_self _⟩)
    repeat' ((conv => whnf); first
      | refine walk (Tryd.ok ..) ?_
      | (refine Cnd.mk (fun h => ?_) (fun h => ?_) <;> (first | (exfalso; simp only [decide_eq_true_eq, decide_eq_false_iff_not, Bool.not_eq_true', Bool.not_eq_false'] at h; omega) | (exfalso; simp at h; omega) | simp at h | skip))
      | refine And.intro (Kept.mk ?_) ?_
      | exact trivial
      | refine And.intro (by (first | rfl | (intro h; exact h) | (intro h; exact absurd h Bool.false_ne_true) | omega | exact h | exact congrArg Bool.not h | exact ⟨rfl, rfl⟩ | exact ⟨⟨rfl, rfl⟩, rfl⟩ | exact ⟨⟨rfl, rfl, rfl, rfl⟩, rfl, rfl⟩ | exact trivial | exact ⟨rfl, rfl, rfl, rfl⟩ | exact ⟨⟨rfl, rfl⟩, rfl, rfl⟩ | exact ⟨rfl, Nat.le_of_ble_eq_true rfl, rfl⟩ | exact Nat.le_of_ble_eq_true rfl | (simp only [Grd.ob, Grd.and, InR, kb, Int.toNat_natCast, ByteArray.size_append, ByteArray.size_extract, Sat.strOf_len, List.length_cons, List.length_nil] <;> omega) | (simp only [Grd.ob, Grd.and, InR, kb, Int.toNat_natCast, ByteArray.size_append, ByteArray.size_extract, Sat.strOf_len, List.length_cons, List.length_nil]; intro h; simp at h; omega) | (refine And.intro (by omega) ?_; simp only [ByteArray.size, List.size_toArray, List.length_cons, List.length_nil]; omega) | exact ⟨rfl, rfl, rfl, rfl, rfl⟩ | exact ⟨rfl, rfl, rfl, rfl, rfl, rfl⟩ | ((try dsimp only); unfold maxLen; omega) | kernel_rfl)) ?_
      | refine Or.inl (And.intro (by (first | rfl | (intro h; exact h) | (intro h; exact absurd h Bool.false_ne_true) | omega | exact h | exact congrArg Bool.not h | exact ⟨rfl, rfl⟩ | exact ⟨⟨rfl, rfl⟩, rfl⟩ | exact ⟨⟨rfl, rfl, rfl, rfl⟩, rfl, rfl⟩ | exact trivial | exact ⟨rfl, rfl, rfl, rfl⟩ | exact ⟨⟨rfl, rfl⟩, rfl, rfl⟩ | exact ⟨rfl, Nat.le_of_ble_eq_true rfl, rfl⟩ | exact Nat.le_of_ble_eq_true rfl | (simp only [Grd.ob, Grd.and, InR, kb, Int.toNat_natCast, ByteArray.size_append, ByteArray.size_extract, Sat.strOf_len, List.length_cons, List.length_nil] <;> omega) | (simp only [Grd.ob, Grd.and, InR, kb, Int.toNat_natCast, ByteArray.size_append, ByteArray.size_extract, Sat.strOf_len, List.length_cons, List.length_nil]; intro h; simp at h; omega) | (refine And.intro (by omega) ?_; simp only [ByteArray.size, List.size_toArray, List.length_cons, List.length_nil]; omega) | exact ⟨rfl, rfl, rfl, rfl, rfl⟩ | exact ⟨rfl, rfl, rfl, rfl, rfl, rfl⟩ | ((try dsimp only); unfold maxLen; omega) | kernel_rfl)) ?_)
      | refine Or.inr ?_
      | refine sat_drawH (Tryd.ok ..) (by kernel_rfl) ?_
      | refine Exists.intro [_] (And.intro (one_byte rfl) ?_)
      | refine Exists.intro [_] (And.intro (fun _ => one_byte rfl) ?_)
      | refine Exists.intro _ (And.intro (And.intro rfl rfl) ?_)
      | refine Exists.intro _ (And.intro (fun _ => And.intro rfl rfl) ?_)
      | refine Exists.intro _ (And.intro rfl ?_)
      | refine Exists.intro _ (And.intro (fun _ => hge) ?_)
      | refine Exists.intro _ (And.intro hge ?_))
    refine called_some (fun k : Nat => k ≤ w1.size) (fun k => .v (.int .i64 k)) (fun w' _ => hpk w') ?_
    intro k hkw
    have hins := ins_nrm w1 i hkw
    repeat' ((conv => whnf); first
      | refine walk (Tryd.ok ..) ?_
      | (refine Cnd.mk (fun h => ?_) (fun h => ?_) <;> (first | (exfalso; simp only [decide_eq_true_eq, decide_eq_false_iff_not, Bool.not_eq_true', Bool.not_eq_false'] at h; omega) | (exfalso; simp at h; omega) | simp at h | skip))
      | refine And.intro (Kept.mk ?_) ?_
      | exact trivial
      | refine And.intro (by (first | rfl | (intro h; exact h) | (intro h; exact absurd h Bool.false_ne_true) | omega | exact h | exact congrArg Bool.not h | exact ⟨rfl, rfl⟩ | exact ⟨⟨rfl, rfl⟩, rfl⟩ | exact ⟨⟨rfl, rfl, rfl, rfl⟩, rfl, rfl⟩ | exact trivial | exact ⟨rfl, rfl, rfl, rfl⟩ | exact ⟨⟨rfl, rfl⟩, rfl, rfl⟩ | exact ⟨rfl, Nat.le_of_ble_eq_true rfl, rfl⟩ | exact Nat.le_of_ble_eq_true rfl | (simp only [Grd.ob, Grd.and, InR, kb, Int.toNat_natCast, ByteArray.size_append, ByteArray.size_extract, Sat.strOf_len, List.length_cons, List.length_nil] <;> omega) | (simp only [Grd.ob, Grd.and, InR, kb, Int.toNat_natCast, ByteArray.size_append, ByteArray.size_extract, Sat.strOf_len, List.length_cons, List.length_nil]; intro h; simp at h; omega) | (refine And.intro (by omega) ?_; simp only [ByteArray.size, List.size_toArray, List.length_cons, List.length_nil]; omega) | exact ⟨rfl, rfl, rfl, rfl, rfl⟩ | exact ⟨rfl, rfl, rfl, rfl, rfl, rfl⟩ | ((try dsimp only); unfold maxLen; omega) | kernel_rfl)) ?_
      | refine Or.inl (And.intro (by (first | rfl | (intro h; exact h) | (intro h; exact absurd h Bool.false_ne_true) | omega | exact h | exact congrArg Bool.not h | exact ⟨rfl, rfl⟩ | exact ⟨⟨rfl, rfl⟩, rfl⟩ | exact ⟨⟨rfl, rfl, rfl, rfl⟩, rfl, rfl⟩ | exact trivial | exact ⟨rfl, rfl, rfl, rfl⟩ | exact ⟨⟨rfl, rfl⟩, rfl, rfl⟩ | exact ⟨rfl, Nat.le_of_ble_eq_true rfl, rfl⟩ | exact Nat.le_of_ble_eq_true rfl | (simp only [Grd.ob, Grd.and, InR, kb, Int.toNat_natCast, ByteArray.size_append, ByteArray.size_extract, Sat.strOf_len, List.length_cons, List.length_nil] <;> omega) | (simp only [Grd.ob, Grd.and, InR, kb, Int.toNat_natCast, ByteArray.size_append, ByteArray.size_extract, Sat.strOf_len, List.length_cons, List.length_nil]; intro h; simp at h; omega) | (refine And.intro (by omega) ?_; simp only [ByteArray.size, List.size_toArray, List.length_cons, List.length_nil]; omega) | exact ⟨rfl, rfl, rfl, rfl, rfl⟩ | exact ⟨rfl, rfl, rfl, rfl, rfl, rfl⟩ | ((try dsimp only); unfold maxLen; omega) | kernel_rfl)) ?_)
      | refine Or.inr ?_
      | refine sat_drawH (Tryd.ok ..) (by kernel_rfl) ?_
      | refine Exists.intro [_] (And.intro (one_byte rfl) ?_)
      | refine Exists.intro [_] (And.intro (fun _ => one_byte rfl) ?_)
      | refine Exists.intro _ (And.intro (And.intro rfl rfl) ?_)
      | refine Exists.intro _ (And.intro (fun _ => And.intro rfl rfl) ?_)
      | refine Exists.intro _ (And.intro rfl ?_))
    refine ⟨(i + 1, w1.extract 0 k ++ (⟨#[32, 45]⟩ : ByteArray).extract (i % 2) (i % 2 + 1) ++ w1.extract k w1.size), ⟨⟨by show i + 1 ≤ 20; omega, by show i + 1 ≤ _; omega, ?_, ?_⟩, by show 20 - (i + 1) < 20 - i; omega⟩, ?_, ?_⟩
    · show _ = 13 + (i + 1)
      rw [hins.2]; omega
    · exact hins.1.trans hn1
    all_goals ((repeat' (first | exact trivial | exact rfl | refine And.intro ?_ ?_)) <;> (try (conv => whnf)) <;> (try simp only [SV.real, SV.r2, SV.r1]))
  have hw33 : w1.size ≤ 40 := by omega
  clear hw1
  repeat' ((conv => whnf); first
    | refine walk (Tryd.ok ..) ?_
    | (refine Cnd.mk (fun h => ?_) (fun h => ?_) <;> (first | (exfalso; simp only [decide_eq_true_eq, decide_eq_false_iff_not, Bool.not_eq_true', Bool.not_eq_false'] at h; omega) | (exfalso; simp at h; omega) | simp at h | skip))
    | refine And.intro (Kept.mk ?_) ?_
    | exact trivial
    | refine And.intro (by (first | rfl | (intro h; exact h) | (intro h; exact absurd h Bool.false_ne_true) | omega | exact h | exact congrArg Bool.not h | exact ⟨rfl, rfl⟩ | exact ⟨⟨rfl, rfl⟩, rfl⟩ | exact ⟨⟨rfl, rfl, rfl, rfl⟩, rfl, rfl⟩ | exact trivial | exact ⟨rfl, rfl, rfl, rfl⟩ | exact ⟨⟨rfl, rfl⟩, rfl, rfl⟩ | exact ⟨rfl, Nat.le_of_ble_eq_true rfl, rfl⟩ | exact Nat.le_of_ble_eq_true rfl | (simp only [Grd.ob, Grd.and, InR, kb, Int.toNat_natCast, ByteArray.size_append, ByteArray.size_extract, Sat.strOf_len, List.length_cons, List.length_nil] <;> omega) | (simp only [Grd.ob, Grd.and, InR, kb, Int.toNat_natCast, ByteArray.size_append, ByteArray.size_extract, Sat.strOf_len, List.length_cons, List.length_nil]; intro h; simp at h; omega) | (refine And.intro (by omega) ?_; simp only [ByteArray.size, List.size_toArray, List.length_cons, List.length_nil]; omega) | exact ⟨rfl, rfl, rfl, rfl, rfl⟩ | exact ⟨rfl, rfl, rfl, rfl, rfl, rfl⟩ | ((try dsimp only); unfold maxLen; omega) | kernel_rfl)) ?_
    | refine Or.inl (And.intro (by (first | rfl | (intro h; exact h) | (intro h; exact absurd h Bool.false_ne_true) | omega | exact h | exact congrArg Bool.not h | exact ⟨rfl, rfl⟩ | exact ⟨⟨rfl, rfl⟩, rfl⟩ | exact ⟨⟨rfl, rfl, rfl, rfl⟩, rfl, rfl⟩ | exact trivial | exact ⟨rfl, rfl, rfl, rfl⟩ | exact ⟨⟨rfl, rfl⟩, rfl, rfl⟩ | exact ⟨rfl, Nat.le_of_ble_eq_true rfl, rfl⟩ | exact Nat.le_of_ble_eq_true rfl | (simp only [Grd.ob, Grd.and, InR, kb, Int.toNat_natCast, ByteArray.size_append, ByteArray.size_extract, Sat.strOf_len, List.length_cons, List.length_nil] <;> omega) | (simp only [Grd.ob, Grd.and, InR, kb, Int.toNat_natCast, ByteArray.size_append, ByteArray.size_extract, Sat.strOf_len, List.length_cons, List.length_nil]; intro h; simp at h; omega) | (refine And.intro (by omega) ?_; simp only [ByteArray.size, List.size_toArray, List.length_cons, List.length_nil]; omega) | exact ⟨rfl, rfl, rfl, rfl, rfl⟩ | exact ⟨rfl, rfl, rfl, rfl, rfl, rfl⟩ | ((try dsimp only); unfold maxLen; omega) | kernel_rfl)) ?_)
    | refine Or.inr ?_
    | refine sat_drawH (Tryd.ok ..) (by kernel_rfl) ?_
    | refine Exists.intro [_] (And.intro (one_byte rfl) ?_)
    | refine Exists.intro [_] (And.intro (fun _ => one_byte rfl) ?_)
    | refine Exists.intro _ (And.intro (And.intro rfl rfl) ?_)
    | refine Exists.intro _ (And.intro (fun _ => And.intro rfl rfl) ?_)
    | refine Exists.intro _ (And.intro rfl ?_))
  refine sat_loop (Tryd.ok ..) (α := Nat × List Int × Option (Nat × Nat) × Nat) (fun x => ([(5, .yes, .v (.string p)), (6, .yes, .v (.int .u8 (mdD n))), (8, .yes, .v (.string s11)), (9, .yes, .v (.string w1)), (15, .yes, .o 15 x.2.2.1 x.2.1.length x.2.2.2), (16, .yes, .v (.int .i64 x.1))], [(15, .row x.2.2.1 5 1 x.2.1.length x.2.2.2 (x.2.1.map (Value.int .u8)))])) (fun x => x.1 ≤ w1.size ∧ x.2.1.length = x.1 ∧ nrm x.2.1 = nrm ((btl w1).take x.1) ∧ ∀ y ∈ x.2.1, 0 ≤ y ∧ y ≤ 255) (fun x => w1.size - x.1) (fun _ => rfl) ?_ ?_
  · refine ⟨(0, [], none, 0), ⟨by show 0 ≤ _; omega, rfl, rfl, by intro y hy; simp at hy⟩, ?_, ?_⟩
    all_goals ((repeat' (first | exact trivial | exact rfl | refine And.intro ?_ ?_)) <;> (try (conv => whnf)) <;> (try simp only [SV.real, SV.r2, SV.r1]))
  rintro ⟨k, l, A2, cap2⟩ ⟨hkw, hll, hnl, hrg⟩
  dsimp only at hkw hll hnl hrg
  by_cases hlt : k < w1.size
  · have hb0 := bt_nonneg w1 k
    have hb1 := bt_le w1 k
    repeat' ((conv => whnf); first
      | refine walk (Tryd.ok ..) ?_
      | (refine Cnd.mk (fun h => ?_) (fun h => ?_) <;> (first | (exfalso; simp only [decide_eq_true_eq, decide_eq_false_iff_not, Bool.not_eq_true', Bool.not_eq_false'] at h; omega) | (exfalso; simp at h; omega) | simp at h | skip))
      | refine And.intro (Kept.mk ?_) ?_
      | exact trivial
      | refine And.intro (by (first | rfl | (intro h; exact h) | (intro h; exact absurd h Bool.false_ne_true) | omega | exact h | exact congrArg Bool.not h | exact ⟨rfl, rfl⟩ | exact ⟨⟨rfl, rfl⟩, rfl⟩ | exact ⟨⟨rfl, rfl, rfl, rfl⟩, rfl, rfl⟩ | exact trivial | exact ⟨rfl, rfl, rfl, rfl⟩ | exact ⟨⟨rfl, rfl⟩, rfl, rfl⟩ | exact ⟨rfl, Nat.le_of_ble_eq_true rfl, rfl⟩ | exact Nat.le_of_ble_eq_true rfl | (simp only [Grd.ob, Grd.and, InR, kb, Int.toNat_natCast, ByteArray.size_append, ByteArray.size_extract, Sat.strOf_len, List.length_cons, List.length_nil] <;> omega) | (simp only [Grd.ob, Grd.and, InR, kb, Int.toNat_natCast, ByteArray.size_append, ByteArray.size_extract, Sat.strOf_len, List.length_cons, List.length_nil]; intro h; simp at h; omega) | (refine And.intro (by omega) ?_; simp only [ByteArray.size, List.size_toArray, List.length_cons, List.length_nil]; omega) | exact ⟨rfl, rfl, rfl, rfl, rfl⟩ | exact ⟨rfl, rfl, rfl, rfl, rfl, rfl⟩ | ((try dsimp only); unfold maxLen; omega) | kernel_rfl)) ?_
      | refine Or.inl (And.intro (by (first | rfl | (intro h; exact h) | (intro h; exact absurd h Bool.false_ne_true) | omega | exact h | exact congrArg Bool.not h | exact ⟨rfl, rfl⟩ | exact ⟨⟨rfl, rfl⟩, rfl⟩ | exact ⟨⟨rfl, rfl, rfl, rfl⟩, rfl, rfl⟩ | exact trivial | exact ⟨rfl, rfl, rfl, rfl⟩ | exact ⟨⟨rfl, rfl⟩, rfl, rfl⟩ | exact ⟨rfl, Nat.le_of_ble_eq_true rfl, rfl⟩ | exact Nat.le_of_ble_eq_true rfl | (simp only [Grd.ob, Grd.and, InR, kb, Int.toNat_natCast, ByteArray.size_append, ByteArray.size_extract, Sat.strOf_len, List.length_cons, List.length_nil] <;> omega) | (simp only [Grd.ob, Grd.and, InR, kb, Int.toNat_natCast, ByteArray.size_append, ByteArray.size_extract, Sat.strOf_len, List.length_cons, List.length_nil]; intro h; simp at h; omega) | (refine And.intro (by omega) ?_; simp only [ByteArray.size, List.size_toArray, List.length_cons, List.length_nil]; omega) | exact ⟨rfl, rfl, rfl, rfl, rfl⟩ | exact ⟨rfl, rfl, rfl, rfl, rfl, rfl⟩ | ((try dsimp only); unfold maxLen; omega) | kernel_rfl)) ?_)
      | refine Or.inr ?_
      | refine sat_drawH (Tryd.ok ..) (by kernel_rfl) ?_
      | refine Exists.intro [_] (And.intro (one_byte rfl) ?_)
      | refine Exists.intro [_] (And.intro (fun _ => one_byte rfl) ?_)
      | refine Exists.intro _ (And.intro (And.intro rfl rfl) ?_)
      | refine Exists.intro _ (And.intro (fun _ => And.intro rfl rfl) ?_)
      | refine Exists.intro _ (And.intro rfl ?_))
    all_goals (intro g hg)
    · have hle := h
      repeat' ((conv => whnf); first
        | refine walk (Tryd.ok ..) ?_
        | (refine Cnd.mk (fun h => ?_) (fun h => ?_) <;> (first | (exfalso; simp only [decide_eq_true_eq, decide_eq_false_iff_not, Bool.not_eq_true', Bool.not_eq_false'] at h; omega) | (exfalso; simp at h; omega) | simp at h | skip))
        | refine And.intro (Kept.mk ?_) ?_
        | exact trivial
        | refine And.intro (by (first | rfl | (intro h; exact h) | (intro h; exact absurd h Bool.false_ne_true) | omega | exact h | exact congrArg Bool.not h | exact ⟨rfl, rfl⟩ | exact ⟨⟨rfl, rfl⟩, rfl⟩ | exact ⟨⟨rfl, rfl, rfl, rfl⟩, rfl, rfl⟩ | exact trivial | exact ⟨rfl, rfl, rfl, rfl⟩ | exact ⟨⟨rfl, rfl⟩, rfl, rfl⟩ | exact ⟨rfl, Nat.le_of_ble_eq_true rfl, rfl⟩ | exact Nat.le_of_ble_eq_true rfl | (simp only [Grd.ob, Grd.and, InR, kb, Int.toNat_natCast, ByteArray.size_append, ByteArray.size_extract, Sat.strOf_len, List.length_cons, List.length_nil] <;> omega) | (simp only [Grd.ob, Grd.and, InR, kb, Int.toNat_natCast, ByteArray.size_append, ByteArray.size_extract, Sat.strOf_len, List.length_cons, List.length_nil]; intro h; simp at h; omega) | (refine And.intro (by omega) ?_; simp only [ByteArray.size, List.size_toArray, List.length_cons, List.length_nil]; omega) | exact ⟨rfl, rfl, rfl, rfl, rfl⟩ | exact ⟨rfl, rfl, rfl, rfl, rfl, rfl⟩ | ((try dsimp only); unfold maxLen; omega) | kernel_rfl)) ?_
        | refine Or.inl (And.intro (by (first | rfl | (intro h; exact h) | (intro h; exact absurd h Bool.false_ne_true) | omega | exact h | exact congrArg Bool.not h | exact ⟨rfl, rfl⟩ | exact ⟨⟨rfl, rfl⟩, rfl⟩ | exact ⟨⟨rfl, rfl, rfl, rfl⟩, rfl, rfl⟩ | exact trivial | exact ⟨rfl, rfl, rfl, rfl⟩ | exact ⟨⟨rfl, rfl⟩, rfl, rfl⟩ | exact ⟨rfl, Nat.le_of_ble_eq_true rfl, rfl⟩ | exact Nat.le_of_ble_eq_true rfl | (simp only [Grd.ob, Grd.and, InR, kb, Int.toNat_natCast, ByteArray.size_append, ByteArray.size_extract, Sat.strOf_len, List.length_cons, List.length_nil] <;> omega) | (simp only [Grd.ob, Grd.and, InR, kb, Int.toNat_natCast, ByteArray.size_append, ByteArray.size_extract, Sat.strOf_len, List.length_cons, List.length_nil]; intro h; simp at h; omega) | (refine And.intro (by omega) ?_; simp only [ByteArray.size, List.size_toArray, List.length_cons, List.length_nil]; omega) | exact ⟨rfl, rfl, rfl, rfl, rfl⟩ | exact ⟨rfl, rfl, rfl, rfl, rfl, rfl⟩ | ((try dsimp only); unfold maxLen; omega) | kernel_rfl)) ?_)
        | refine Or.inr ?_
        | refine sat_drawH (Tryd.ok ..) (by kernel_rfl) ?_
        | refine Exists.intro [_] (And.intro (one_byte rfl) ?_)
        | refine Exists.intro [_] (And.intro (fun _ => one_byte rfl) ?_)
        | refine Exists.intro _ (And.intro (And.intro rfl rfl) ?_)
        | refine Exists.intro _ (And.intro (fun _ => And.intro rfl rfl) ?_)
        | refine Exists.intro _ (And.intro rfl ?_)
        | intro g hg)
      refine ⟨(k + 1, l ++ [bt w1 k + 32], g, hg), ⟨⟨by show k + 1 ≤ _; omega, by simp [hll], small_add hlt hnl (.inr ⟨hle.1.1, hle.1.2, rfl⟩), ?_⟩, by show w1.size - (k + 1) < w1.size - k; omega⟩, ?_, ?_⟩
      · intro y hy
        rcases List.mem_append.1 hy with hy | hy
        · exact hrg y hy
        · simp at hy; omega
      all_goals ((repeat' (first | exact trivial | exact rfl | refine And.intro ?_ ?_)) <;> (try (conv => whnf)) <;> (try simp only [SV.real, SV.r2, SV.r1]))
      all_goals first | (rw [List.map_append]; rfl) | simp
    · repeat' ((conv => whnf); first
        | refine walk (Tryd.ok ..) ?_
        | (refine Cnd.mk (fun h => ?_) (fun h => ?_) <;> (first | (exfalso; simp only [decide_eq_true_eq, decide_eq_false_iff_not, Bool.not_eq_true', Bool.not_eq_false'] at h; omega) | (exfalso; simp at h; omega) | simp at h | skip))
        | refine And.intro (Kept.mk ?_) ?_
        | exact trivial
        | refine And.intro (by (first | rfl | (intro h; exact h) | (intro h; exact absurd h Bool.false_ne_true) | omega | exact h | exact congrArg Bool.not h | exact ⟨rfl, rfl⟩ | exact ⟨⟨rfl, rfl⟩, rfl⟩ | exact ⟨⟨rfl, rfl, rfl, rfl⟩, rfl, rfl⟩ | exact trivial | exact ⟨rfl, rfl, rfl, rfl⟩ | exact ⟨⟨rfl, rfl⟩, rfl, rfl⟩ | exact ⟨rfl, Nat.le_of_ble_eq_true rfl, rfl⟩ | exact Nat.le_of_ble_eq_true rfl | (simp only [Grd.ob, Grd.and, InR, kb, Int.toNat_natCast, ByteArray.size_append, ByteArray.size_extract, Sat.strOf_len, List.length_cons, List.length_nil] <;> omega) | (simp only [Grd.ob, Grd.and, InR, kb, Int.toNat_natCast, ByteArray.size_append, ByteArray.size_extract, Sat.strOf_len, List.length_cons, List.length_nil]; intro h; simp at h; omega) | (refine And.intro (by omega) ?_; simp only [ByteArray.size, List.size_toArray, List.length_cons, List.length_nil]; omega) | exact ⟨rfl, rfl, rfl, rfl, rfl⟩ | exact ⟨rfl, rfl, rfl, rfl, rfl, rfl⟩ | ((try dsimp only); unfold maxLen; omega) | kernel_rfl)) ?_
        | refine Or.inl (And.intro (by (first | rfl | (intro h; exact h) | (intro h; exact absurd h Bool.false_ne_true) | omega | exact h | exact congrArg Bool.not h | exact ⟨rfl, rfl⟩ | exact ⟨⟨rfl, rfl⟩, rfl⟩ | exact ⟨⟨rfl, rfl, rfl, rfl⟩, rfl, rfl⟩ | exact trivial | exact ⟨rfl, rfl, rfl, rfl⟩ | exact ⟨⟨rfl, rfl⟩, rfl, rfl⟩ | exact ⟨rfl, Nat.le_of_ble_eq_true rfl, rfl⟩ | exact Nat.le_of_ble_eq_true rfl | (simp only [Grd.ob, Grd.and, InR, kb, Int.toNat_natCast, ByteArray.size_append, ByteArray.size_extract, Sat.strOf_len, List.length_cons, List.length_nil] <;> omega) | (simp only [Grd.ob, Grd.and, InR, kb, Int.toNat_natCast, ByteArray.size_append, ByteArray.size_extract, Sat.strOf_len, List.length_cons, List.length_nil]; intro h; simp at h; omega) | (refine And.intro (by omega) ?_; simp only [ByteArray.size, List.size_toArray, List.length_cons, List.length_nil]; omega) | exact ⟨rfl, rfl, rfl, rfl, rfl⟩ | exact ⟨rfl, rfl, rfl, rfl, rfl, rfl⟩ | ((try dsimp only); unfold maxLen; omega) | kernel_rfl)) ?_)
        | refine Or.inr ?_
        | refine sat_drawH (Tryd.ok ..) (by kernel_rfl) ?_
        | refine Exists.intro [_] (And.intro (one_byte rfl) ?_)
        | refine Exists.intro [_] (And.intro (fun _ => one_byte rfl) ?_)
        | refine Exists.intro _ (And.intro (And.intro rfl rfl) ?_)
        | refine Exists.intro _ (And.intro (fun _ => And.intro rfl rfl) ?_)
        | refine Exists.intro _ (And.intro rfl ?_)
        | intro g hg)
      refine ⟨(k + 1, l ++ [bt w1 k], g, hg), ⟨⟨by show k + 1 ≤ _; omega, by simp [hll], small_add hlt hnl (.inl rfl), ?_⟩, by show w1.size - (k + 1) < w1.size - k; omega⟩, ?_, ?_⟩
      · intro y hy
        rcases List.mem_append.1 hy with hy | hy
        · exact hrg y hy
        · simp at hy; omega
      all_goals ((repeat' (first | exact trivial | exact rfl | refine And.intro ?_ ?_)) <;> (try (conv => whnf)) <;> (try simp only [SV.real, SV.r2, SV.r1]))
      all_goals first | (rw [List.map_append]; rfl) | simp
  · obtain rfl : k = w1.size := by omega
    rw [← btl_length, List.take_length, hn1] at hnl
    have hls : (Sat.strOf l).size ≤ 40 := by rw [Sat.strOf_len]; omega
    have hln : nrm (btl (Sat.strOf l)) = btl (mdS n) := by rw [show btl (Sat.strOf l) = l from btl_strOf l hrg]; exact hnl
    repeat' ((conv => whnf); first
      | refine walk (Tryd.ok ..) ?_
      | (refine Cnd.mk (fun h => ?_) (fun h => ?_) <;> (first | (exfalso; simp only [decide_eq_true_eq, decide_eq_false_iff_not, Bool.not_eq_true', Bool.not_eq_false'] at h; omega) | (exfalso; simp at h; omega) | simp at h | skip))
      | refine And.intro (Kept.mk ?_) ?_
      | exact trivial
      | refine And.intro (by (first | rfl | (intro h; exact h) | (intro h; exact absurd h Bool.false_ne_true) | omega | exact h | exact congrArg Bool.not h | exact ⟨rfl, rfl⟩ | exact ⟨⟨rfl, rfl⟩, rfl⟩ | exact ⟨⟨rfl, rfl, rfl, rfl⟩, rfl, rfl⟩ | exact trivial | exact ⟨rfl, rfl, rfl, rfl⟩ | exact ⟨⟨rfl, rfl⟩, rfl, rfl⟩ | exact ⟨rfl, Nat.le_of_ble_eq_true rfl, rfl⟩ | exact Nat.le_of_ble_eq_true rfl | (simp only [Grd.ob, Grd.and, InR, kb, Int.toNat_natCast, ByteArray.size_append, ByteArray.size_extract, Sat.strOf_len, List.length_cons, List.length_nil] <;> omega) | (simp only [Grd.ob, Grd.and, InR, kb, Int.toNat_natCast, ByteArray.size_append, ByteArray.size_extract, Sat.strOf_len, List.length_cons, List.length_nil]; intro h; simp at h; omega) | (refine And.intro (by omega) ?_; simp only [ByteArray.size, List.size_toArray, List.length_cons, List.length_nil]; omega) | exact ⟨rfl, rfl, rfl, rfl, rfl⟩ | exact ⟨rfl, rfl, rfl, rfl, rfl, rfl⟩ | ((try dsimp only); unfold maxLen; omega) | kernel_rfl)) ?_
      | refine Or.inl (And.intro (by (first | rfl | (intro h; exact h) | (intro h; exact absurd h Bool.false_ne_true) | omega | exact h | exact congrArg Bool.not h | exact ⟨rfl, rfl⟩ | exact ⟨⟨rfl, rfl⟩, rfl⟩ | exact ⟨⟨rfl, rfl, rfl, rfl⟩, rfl, rfl⟩ | exact trivial | exact ⟨rfl, rfl, rfl, rfl⟩ | exact ⟨⟨rfl, rfl⟩, rfl, rfl⟩ | exact ⟨rfl, Nat.le_of_ble_eq_true rfl, rfl⟩ | exact Nat.le_of_ble_eq_true rfl | (simp only [Grd.ob, Grd.and, InR, kb, Int.toNat_natCast, ByteArray.size_append, ByteArray.size_extract, Sat.strOf_len, List.length_cons, List.length_nil] <;> omega) | (simp only [Grd.ob, Grd.and, InR, kb, Int.toNat_natCast, ByteArray.size_append, ByteArray.size_extract, Sat.strOf_len, List.length_cons, List.length_nil]; intro h; simp at h; omega) | (refine And.intro (by omega) ?_; simp only [ByteArray.size, List.size_toArray, List.length_cons, List.length_nil]; omega) | exact ⟨rfl, rfl, rfl, rfl, rfl⟩ | exact ⟨rfl, rfl, rfl, rfl, rfl, rfl⟩ | ((try dsimp only); unfold maxLen; omega) | kernel_rfl)) ?_)
      | refine Or.inr ?_
      | refine sat_drawH (Tryd.ok ..) (by kernel_rfl) ?_
      | refine Exists.intro [_] (And.intro (one_byte rfl) ?_)
      | refine Exists.intro [_] (And.intro (fun _ => one_byte rfl) ?_)
      | refine Exists.intro _ (And.intro (And.intro rfl rfl) ?_)
      | refine Exists.intro _ (And.intro (fun _ => And.intro rfl rfl) ?_)
      | refine Exists.intro _ (And.intro rfl ?_))
    refine called_pure (.t [.v (.string s11), .v (.int .i64 0)]) rfl (fun w' => hrd w1 hw33 hn1 w') ?_
    repeat' ((conv => whnf); first
      | refine walk (Tryd.ok ..) ?_
      | (refine Cnd.mk (fun h => ?_) (fun h => ?_) <;> (first | (exfalso; simp only [decide_eq_true_eq, decide_eq_false_iff_not, Bool.not_eq_true', Bool.not_eq_false'] at h; omega) | (exfalso; simp at h; omega) | simp at h | skip))
      | refine And.intro (Kept.mk ?_) ?_
      | exact trivial
      | refine And.intro (by (first | rfl | (intro h; exact h) | (intro h; exact absurd h Bool.false_ne_true) | omega | exact h | exact congrArg Bool.not h | exact ⟨rfl, rfl⟩ | exact ⟨⟨rfl, rfl⟩, rfl⟩ | exact ⟨⟨rfl, rfl, rfl, rfl⟩, rfl, rfl⟩ | exact trivial | exact ⟨rfl, rfl, rfl, rfl⟩ | exact ⟨⟨rfl, rfl⟩, rfl, rfl⟩ | exact ⟨rfl, Nat.le_of_ble_eq_true rfl, rfl⟩ | exact Nat.le_of_ble_eq_true rfl | (simp only [Grd.ob, Grd.and, InR, kb, Int.toNat_natCast, ByteArray.size_append, ByteArray.size_extract, Sat.strOf_len, List.length_cons, List.length_nil] <;> omega) | (simp only [Grd.ob, Grd.and, InR, kb, Int.toNat_natCast, ByteArray.size_append, ByteArray.size_extract, Sat.strOf_len, List.length_cons, List.length_nil]; intro h; simp at h; omega) | (refine And.intro (by omega) ?_; simp only [ByteArray.size, List.size_toArray, List.length_cons, List.length_nil]; omega) | exact ⟨rfl, rfl, rfl, rfl, rfl⟩ | exact ⟨rfl, rfl, rfl, rfl, rfl, rfl⟩ | ((try dsimp only); unfold maxLen; omega) | kernel_rfl)) ?_
      | refine Or.inl (And.intro (by (first | rfl | (intro h; exact h) | (intro h; exact absurd h Bool.false_ne_true) | omega | exact h | exact congrArg Bool.not h | exact ⟨rfl, rfl⟩ | exact ⟨⟨rfl, rfl⟩, rfl⟩ | exact ⟨⟨rfl, rfl, rfl, rfl⟩, rfl, rfl⟩ | exact trivial | exact ⟨rfl, rfl, rfl, rfl⟩ | exact ⟨⟨rfl, rfl⟩, rfl, rfl⟩ | exact ⟨rfl, Nat.le_of_ble_eq_true rfl, rfl⟩ | exact Nat.le_of_ble_eq_true rfl | (simp only [Grd.ob, Grd.and, InR, kb, Int.toNat_natCast, ByteArray.size_append, ByteArray.size_extract, Sat.strOf_len, List.length_cons, List.length_nil] <;> omega) | (simp only [Grd.ob, Grd.and, InR, kb, Int.toNat_natCast, ByteArray.size_append, ByteArray.size_extract, Sat.strOf_len, List.length_cons, List.length_nil]; intro h; simp at h; omega) | (refine And.intro (by omega) ?_; simp only [ByteArray.size, List.size_toArray, List.length_cons, List.length_nil]; omega) | exact ⟨rfl, rfl, rfl, rfl, rfl⟩ | exact ⟨rfl, rfl, rfl, rfl, rfl, rfl⟩ | ((try dsimp only); unfold maxLen; omega) | kernel_rfl)) ?_)
      | refine Or.inr ?_
      | refine sat_drawH (Tryd.ok ..) (by kernel_rfl) ?_
      | refine Exists.intro [_] (And.intro (one_byte rfl) ?_)
      | refine Exists.intro [_] (And.intro (fun _ => one_byte rfl) ?_)
      | refine Exists.intro _ (And.intro (And.intro rfl rfl) ?_)
      | refine Exists.intro _ (And.intro (fun _ => And.intro rfl rfl) ?_)
      | refine Exists.intro _ (And.intro rfl ?_)
      | refine Exists.intro _ (And.intro (fun _ => (And.intro rfl (fun _ _ h => h))) ?_)
      | refine Exists.intro _ (And.intro (And.intro rfl (fun _ _ h => h)) ?_))
    refine called_pure (.t [.v (.string s11), .v (.int .i64 0)]) rfl (fun w' => hrd _ hls hln w') ?_
    repeat' ((conv => whnf); first
      | refine walk (Tryd.ok ..) ?_
      | (refine Cnd.mk (fun h => ?_) (fun h => ?_) <;> (first | (exfalso; simp only [decide_eq_true_eq, decide_eq_false_iff_not, Bool.not_eq_true', Bool.not_eq_false'] at h; omega) | (exfalso; simp at h; omega) | simp at h | skip))
      | refine And.intro (Kept.mk ?_) ?_
      | exact trivial
      | refine And.intro (by (first | rfl | (intro h; exact h) | (intro h; exact absurd h Bool.false_ne_true) | omega | exact h | exact congrArg Bool.not h | exact ⟨rfl, rfl⟩ | exact ⟨⟨rfl, rfl⟩, rfl⟩ | exact ⟨⟨rfl, rfl, rfl, rfl⟩, rfl, rfl⟩ | exact trivial | exact ⟨rfl, rfl, rfl, rfl⟩ | exact ⟨⟨rfl, rfl⟩, rfl, rfl⟩ | exact ⟨rfl, Nat.le_of_ble_eq_true rfl, rfl⟩ | exact Nat.le_of_ble_eq_true rfl | (simp only [Grd.ob, Grd.and, InR, kb, Int.toNat_natCast, ByteArray.size_append, ByteArray.size_extract, Sat.strOf_len, List.length_cons, List.length_nil] <;> omega) | (simp only [Grd.ob, Grd.and, InR, kb, Int.toNat_natCast, ByteArray.size_append, ByteArray.size_extract, Sat.strOf_len, List.length_cons, List.length_nil]; intro h; simp at h; omega) | (refine And.intro (by omega) ?_; simp only [ByteArray.size, List.size_toArray, List.length_cons, List.length_nil]; omega) | exact ⟨rfl, rfl, rfl, rfl, rfl⟩ | exact ⟨rfl, rfl, rfl, rfl, rfl, rfl⟩ | ((try dsimp only); unfold maxLen; omega) | kernel_rfl)) ?_
      | refine Or.inl (And.intro (by (first | rfl | (intro h; exact h) | (intro h; exact absurd h Bool.false_ne_true) | omega | exact h | exact congrArg Bool.not h | exact ⟨rfl, rfl⟩ | exact ⟨⟨rfl, rfl⟩, rfl⟩ | exact ⟨⟨rfl, rfl, rfl, rfl⟩, rfl, rfl⟩ | exact trivial | exact ⟨rfl, rfl, rfl, rfl⟩ | exact ⟨⟨rfl, rfl⟩, rfl, rfl⟩ | exact ⟨rfl, Nat.le_of_ble_eq_true rfl, rfl⟩ | exact Nat.le_of_ble_eq_true rfl | (simp only [Grd.ob, Grd.and, InR, kb, Int.toNat_natCast, ByteArray.size_append, ByteArray.size_extract, Sat.strOf_len, List.length_cons, List.length_nil] <;> omega) | (simp only [Grd.ob, Grd.and, InR, kb, Int.toNat_natCast, ByteArray.size_append, ByteArray.size_extract, Sat.strOf_len, List.length_cons, List.length_nil]; intro h; simp at h; omega) | (refine And.intro (by omega) ?_; simp only [ByteArray.size, List.size_toArray, List.length_cons, List.length_nil]; omega) | exact ⟨rfl, rfl, rfl, rfl, rfl⟩ | exact ⟨rfl, rfl, rfl, rfl, rfl, rfl⟩ | ((try dsimp only); unfold maxLen; omega) | kernel_rfl)) ?_)
      | refine Or.inr ?_
      | refine sat_drawH (Tryd.ok ..) (by kernel_rfl) ?_
      | refine Exists.intro [_] (And.intro (one_byte rfl) ?_)
      | refine Exists.intro [_] (And.intro (fun _ => one_byte rfl) ?_)
      | refine Exists.intro _ (And.intro (And.intro rfl rfl) ?_)
      | refine Exists.intro _ (And.intro (fun _ => And.intro rfl rfl) ?_)
      | refine Exists.intro _ (And.intro rfl ?_))
    refine sat_loop (Tryd.ok ..) (α := Nat) (fun x => ([(5, .yes, .v (.string p)), (6, .yes, .v (.int .u8 (mdD n))), (19, .yes, .v (.int .u8 x))], [])) (fun x => 48 ≤ x ∧ x ≤ 58) (fun x => 58 - x) (fun _ => rfl) ?_ ?_
    · refine ⟨48, ⟨by omega, by omega⟩, ?_, ?_⟩
      all_goals ((repeat' (first | exact trivial | exact rfl | refine And.intro ?_ ?_)) <;> (try (conv => whnf)) <;> (try simp only [SV.real, SV.r2, SV.r1]))
    rintro x ⟨hx0, hx1⟩
    by_cases hxl : x < 58
    · have hzz : (p ++ Sat.strOf [(x : Int)]).size = 11 := by rw [ByteArray.size_append, Sat.strOf_len, hzp]; rfl
      have hrx := hrc x hx0 (by omega)
      repeat' ((conv => whnf); first
        | refine walk (Tryd.ok ..) ?_
        | (refine Cnd.mk (fun h => ?_) (fun h => ?_) <;> (first | (exfalso; simp only [decide_eq_true_eq, decide_eq_false_iff_not, Bool.not_eq_true', Bool.not_eq_false'] at h; omega) | (exfalso; simp at h; omega) | simp at h | skip))
        | refine And.intro (Kept.mk ?_) ?_
        | exact trivial
        | refine And.intro (by (first | rfl | (intro h; exact h) | (intro h; exact absurd h Bool.false_ne_true) | omega | exact h | exact congrArg Bool.not h | exact ⟨rfl, rfl⟩ | exact ⟨⟨rfl, rfl⟩, rfl⟩ | exact ⟨⟨rfl, rfl, rfl, rfl⟩, rfl, rfl⟩ | exact trivial | exact ⟨rfl, rfl, rfl, rfl⟩ | exact ⟨⟨rfl, rfl⟩, rfl, rfl⟩ | exact ⟨rfl, Nat.le_of_ble_eq_true rfl, rfl⟩ | exact Nat.le_of_ble_eq_true rfl | (simp only [Grd.ob, Grd.and, InR, kb, Int.toNat_natCast, ByteArray.size_append, ByteArray.size_extract, Sat.strOf_len, List.length_cons, List.length_nil] <;> omega) | (simp only [Grd.ob, Grd.and, InR, kb, Int.toNat_natCast, ByteArray.size_append, ByteArray.size_extract, Sat.strOf_len, List.length_cons, List.length_nil]; intro h; simp at h; omega) | (refine And.intro (by omega) ?_; simp only [ByteArray.size, List.size_toArray, List.length_cons, List.length_nil]; omega) | exact ⟨rfl, rfl, rfl, rfl, rfl⟩ | exact ⟨rfl, rfl, rfl, rfl, rfl, rfl⟩ | ((try dsimp only); unfold maxLen; omega) | kernel_rfl)) ?_
        | refine Or.inl (And.intro (by (first | rfl | (intro h; exact h) | (intro h; exact absurd h Bool.false_ne_true) | omega | exact h | exact congrArg Bool.not h | exact ⟨rfl, rfl⟩ | exact ⟨⟨rfl, rfl⟩, rfl⟩ | exact ⟨⟨rfl, rfl, rfl, rfl⟩, rfl, rfl⟩ | exact trivial | exact ⟨rfl, rfl, rfl, rfl⟩ | exact ⟨⟨rfl, rfl⟩, rfl, rfl⟩ | exact ⟨rfl, Nat.le_of_ble_eq_true rfl, rfl⟩ | exact Nat.le_of_ble_eq_true rfl | (simp only [Grd.ob, Grd.and, InR, kb, Int.toNat_natCast, ByteArray.size_append, ByteArray.size_extract, Sat.strOf_len, List.length_cons, List.length_nil] <;> omega) | (simp only [Grd.ob, Grd.and, InR, kb, Int.toNat_natCast, ByteArray.size_append, ByteArray.size_extract, Sat.strOf_len, List.length_cons, List.length_nil]; intro h; simp at h; omega) | (refine And.intro (by omega) ?_; simp only [ByteArray.size, List.size_toArray, List.length_cons, List.length_nil]; omega) | exact ⟨rfl, rfl, rfl, rfl, rfl⟩ | exact ⟨rfl, rfl, rfl, rfl, rfl, rfl⟩ | ((try dsimp only); unfold maxLen; omega) | kernel_rfl)) ?_)
        | refine Or.inr ?_
        | refine sat_drawH (Tryd.ok ..) (by kernel_rfl) ?_
        | refine Exists.intro [_] (And.intro (one_byte rfl) ?_)
        | refine Exists.intro [_] (And.intro (fun _ => one_byte rfl) ?_)
        | refine Exists.intro _ (And.intro (And.intro rfl rfl) ?_)
        | refine Exists.intro _ (And.intro (fun _ => And.intro rfl rfl) ?_)
        | refine Exists.intro _ (And.intro rfl ?_))
      intro g hg
      repeat' ((conv => whnf); first
        | refine walk (Tryd.ok ..) ?_
        | (refine Cnd.mk (fun h => ?_) (fun h => ?_) <;> (first | (exfalso; simp only [decide_eq_true_eq, decide_eq_false_iff_not, Bool.not_eq_true', Bool.not_eq_false'] at h; omega) | (exfalso; simp at h; omega) | simp at h | skip))
        | refine And.intro (Kept.mk ?_) ?_
        | exact trivial
        | refine And.intro (by (first | rfl | (intro h; exact h) | (intro h; exact absurd h Bool.false_ne_true) | omega | exact h | exact congrArg Bool.not h | exact ⟨rfl, rfl⟩ | exact ⟨⟨rfl, rfl⟩, rfl⟩ | exact ⟨⟨rfl, rfl, rfl, rfl⟩, rfl, rfl⟩ | exact trivial | exact ⟨rfl, rfl, rfl, rfl⟩ | exact ⟨⟨rfl, rfl⟩, rfl, rfl⟩ | exact ⟨rfl, Nat.le_of_ble_eq_true rfl, rfl⟩ | exact Nat.le_of_ble_eq_true rfl | (simp only [Grd.ob, Grd.and, InR, kb, Int.toNat_natCast, ByteArray.size_append, ByteArray.size_extract, Sat.strOf_len, List.length_cons, List.length_nil] <;> omega) | (simp only [Grd.ob, Grd.and, InR, kb, Int.toNat_natCast, ByteArray.size_append, ByteArray.size_extract, Sat.strOf_len, List.length_cons, List.length_nil]; intro h; simp at h; omega) | (refine And.intro (by omega) ?_; simp only [ByteArray.size, List.size_toArray, List.length_cons, List.length_nil]; omega) | exact ⟨rfl, rfl, rfl, rfl, rfl⟩ | exact ⟨rfl, rfl, rfl, rfl, rfl, rfl⟩ | ((try dsimp only); unfold maxLen; omega) | kernel_rfl)) ?_
        | refine Or.inl (And.intro (by (first | rfl | (intro h; exact h) | (intro h; exact absurd h Bool.false_ne_true) | omega | exact h | exact congrArg Bool.not h | exact ⟨rfl, rfl⟩ | exact ⟨⟨rfl, rfl⟩, rfl⟩ | exact ⟨⟨rfl, rfl, rfl, rfl⟩, rfl, rfl⟩ | exact trivial | exact ⟨rfl, rfl, rfl, rfl⟩ | exact ⟨⟨rfl, rfl⟩, rfl, rfl⟩ | exact ⟨rfl, Nat.le_of_ble_eq_true rfl, rfl⟩ | exact Nat.le_of_ble_eq_true rfl | (simp only [Grd.ob, Grd.and, InR, kb, Int.toNat_natCast, ByteArray.size_append, ByteArray.size_extract, Sat.strOf_len, List.length_cons, List.length_nil] <;> omega) | (simp only [Grd.ob, Grd.and, InR, kb, Int.toNat_natCast, ByteArray.size_append, ByteArray.size_extract, Sat.strOf_len, List.length_cons, List.length_nil]; intro h; simp at h; omega) | (refine And.intro (by omega) ?_; simp only [ByteArray.size, List.size_toArray, List.length_cons, List.length_nil]; omega) | exact ⟨rfl, rfl, rfl, rfl, rfl⟩ | exact ⟨rfl, rfl, rfl, rfl, rfl, rfl⟩ | ((try dsimp only); unfold maxLen; omega) | kernel_rfl)) ?_)
        | refine Or.inr ?_
        | refine sat_drawH (Tryd.ok ..) (by kernel_rfl) ?_
        | refine Exists.intro [_] (And.intro (one_byte rfl) ?_)
        | refine Exists.intro [_] (And.intro (fun _ => one_byte rfl) ?_)
        | refine Exists.intro _ (And.intro (And.intro rfl rfl) ?_)
        | refine Exists.intro _ (And.intro (fun _ => And.intro rfl rfl) ?_)
        | refine Exists.intro _ (And.intro rfl ?_))
      by_cases hd : mdD n = (x : Int)
      · refine called_pure (.t [.v (.string (p ++ Sat.strOf [(x : Int)])), .v (.int .i64 0)]) rfl (fun w' => by have := hrx w'; rw [if_pos hd, if_pos hd] at this; exact this) ?_
        repeat' ((conv => whnf); first
          | refine walk (Tryd.ok ..) ?_
          | (refine Cnd.mk (fun h => ?_) (fun h => ?_) <;> (first | (exfalso; simp only [decide_eq_true_eq, decide_eq_false_iff_not, Bool.not_eq_true', Bool.not_eq_false'] at h; omega) | (exfalso; simp at h; omega) | simp at h | skip))
          | refine And.intro (Kept.mk ?_) ?_
          | exact trivial
          | refine And.intro (by (first | rfl | (intro h; exact h) | (intro h; exact absurd h Bool.false_ne_true) | omega | exact h | exact congrArg Bool.not h | exact ⟨rfl, rfl⟩ | exact ⟨⟨rfl, rfl⟩, rfl⟩ | exact ⟨⟨rfl, rfl, rfl, rfl⟩, rfl, rfl⟩ | exact trivial | exact ⟨rfl, rfl, rfl, rfl⟩ | exact ⟨⟨rfl, rfl⟩, rfl, rfl⟩ | exact ⟨rfl, Nat.le_of_ble_eq_true rfl, rfl⟩ | exact Nat.le_of_ble_eq_true rfl | (simp only [Grd.ob, Grd.and, InR, kb, Int.toNat_natCast, ByteArray.size_append, ByteArray.size_extract, Sat.strOf_len, List.length_cons, List.length_nil] <;> omega) | (simp only [Grd.ob, Grd.and, InR, kb, Int.toNat_natCast, ByteArray.size_append, ByteArray.size_extract, Sat.strOf_len, List.length_cons, List.length_nil]; intro h; simp at h; omega) | (refine And.intro (by omega) ?_; simp only [ByteArray.size, List.size_toArray, List.length_cons, List.length_nil]; omega) | exact ⟨rfl, rfl, rfl, rfl, rfl⟩ | exact ⟨rfl, rfl, rfl, rfl, rfl, rfl⟩ | ((try dsimp only); unfold maxLen; omega) | kernel_rfl)) ?_
          | refine Or.inl (And.intro (by (first | rfl | (intro h; exact h) | (intro h; exact absurd h Bool.false_ne_true) | omega | exact h | exact congrArg Bool.not h | exact ⟨rfl, rfl⟩ | exact ⟨⟨rfl, rfl⟩, rfl⟩ | exact ⟨⟨rfl, rfl, rfl, rfl⟩, rfl, rfl⟩ | exact trivial | exact ⟨rfl, rfl, rfl, rfl⟩ | exact ⟨⟨rfl, rfl⟩, rfl, rfl⟩ | exact ⟨rfl, Nat.le_of_ble_eq_true rfl, rfl⟩ | exact Nat.le_of_ble_eq_true rfl | (simp only [Grd.ob, Grd.and, InR, kb, Int.toNat_natCast, ByteArray.size_append, ByteArray.size_extract, Sat.strOf_len, List.length_cons, List.length_nil] <;> omega) | (simp only [Grd.ob, Grd.and, InR, kb, Int.toNat_natCast, ByteArray.size_append, ByteArray.size_extract, Sat.strOf_len, List.length_cons, List.length_nil]; intro h; simp at h; omega) | (refine And.intro (by omega) ?_; simp only [ByteArray.size, List.size_toArray, List.length_cons, List.length_nil]; omega) | exact ⟨rfl, rfl, rfl, rfl, rfl⟩ | exact ⟨rfl, rfl, rfl, rfl, rfl, rfl⟩ | ((try dsimp only); unfold maxLen; omega) | kernel_rfl)) ?_)
          | refine Or.inr ?_
          | refine sat_drawH (Tryd.ok ..) (by kernel_rfl) ?_
          | refine Exists.intro [_] (And.intro (one_byte rfl) ?_)
          | refine Exists.intro [_] (And.intro (fun _ => one_byte rfl) ?_)
          | refine Exists.intro _ (And.intro (And.intro rfl rfl) ?_)
          | refine Exists.intro _ (And.intro (fun _ => And.intro rfl rfl) ?_)
          | refine Exists.intro _ (And.intro rfl ?_))
        refine ⟨x + 1, ⟨by omega, by omega⟩, ?_, ?_⟩
        all_goals ((repeat' (first | exact trivial | exact rfl | refine And.intro ?_ ?_)) <;> (try (conv => whnf)) <;> (try simp only [SV.real, SV.r2, SV.r1]))
      · refine called_pure (.t [.v (.string ⟨#[]⟩), .v (.int .i64 31)]) rfl (fun w' => by have := hrx w'; rw [if_neg hd, if_neg hd] at this; exact this) ?_
        repeat' ((conv => whnf); first
          | refine walk (Tryd.ok ..) ?_
          | (refine Cnd.mk (fun h => ?_) (fun h => ?_) <;> (first | (exfalso; simp only [decide_eq_true_eq, decide_eq_false_iff_not, Bool.not_eq_true', Bool.not_eq_false'] at h; omega) | (exfalso; simp at h; omega) | simp at h | skip))
          | refine And.intro (Kept.mk ?_) ?_
          | exact trivial
          | refine And.intro (by (first | rfl | (intro h; exact h) | (intro h; exact absurd h Bool.false_ne_true) | omega | exact h | exact congrArg Bool.not h | exact ⟨rfl, rfl⟩ | exact ⟨⟨rfl, rfl⟩, rfl⟩ | exact ⟨⟨rfl, rfl, rfl, rfl⟩, rfl, rfl⟩ | exact trivial | exact ⟨rfl, rfl, rfl, rfl⟩ | exact ⟨⟨rfl, rfl⟩, rfl, rfl⟩ | exact ⟨rfl, Nat.le_of_ble_eq_true rfl, rfl⟩ | exact Nat.le_of_ble_eq_true rfl | (simp only [Grd.ob, Grd.and, InR, kb, Int.toNat_natCast, ByteArray.size_append, ByteArray.size_extract, Sat.strOf_len, List.length_cons, List.length_nil] <;> omega) | (simp only [Grd.ob, Grd.and, InR, kb, Int.toNat_natCast, ByteArray.size_append, ByteArray.size_extract, Sat.strOf_len, List.length_cons, List.length_nil]; intro h; simp at h; omega) | (refine And.intro (by omega) ?_; simp only [ByteArray.size, List.size_toArray, List.length_cons, List.length_nil]; omega) | exact ⟨rfl, rfl, rfl, rfl, rfl⟩ | exact ⟨rfl, rfl, rfl, rfl, rfl, rfl⟩ | ((try dsimp only); unfold maxLen; omega) | kernel_rfl)) ?_
          | refine Or.inl (And.intro (by (first | rfl | (intro h; exact h) | (intro h; exact absurd h Bool.false_ne_true) | omega | exact h | exact congrArg Bool.not h | exact ⟨rfl, rfl⟩ | exact ⟨⟨rfl, rfl⟩, rfl⟩ | exact ⟨⟨rfl, rfl, rfl, rfl⟩, rfl, rfl⟩ | exact trivial | exact ⟨rfl, rfl, rfl, rfl⟩ | exact ⟨⟨rfl, rfl⟩, rfl, rfl⟩ | exact ⟨rfl, Nat.le_of_ble_eq_true rfl, rfl⟩ | exact Nat.le_of_ble_eq_true rfl | (simp only [Grd.ob, Grd.and, InR, kb, Int.toNat_natCast, ByteArray.size_append, ByteArray.size_extract, Sat.strOf_len, List.length_cons, List.length_nil] <;> omega) | (simp only [Grd.ob, Grd.and, InR, kb, Int.toNat_natCast, ByteArray.size_append, ByteArray.size_extract, Sat.strOf_len, List.length_cons, List.length_nil]; intro h; simp at h; omega) | (refine And.intro (by omega) ?_; simp only [ByteArray.size, List.size_toArray, List.length_cons, List.length_nil]; omega) | exact ⟨rfl, rfl, rfl, rfl, rfl⟩ | exact ⟨rfl, rfl, rfl, rfl, rfl, rfl⟩ | ((try dsimp only); unfold maxLen; omega) | kernel_rfl)) ?_)
          | refine Or.inr ?_
          | refine sat_drawH (Tryd.ok ..) (by kernel_rfl) ?_
          | refine Exists.intro [_] (And.intro (one_byte rfl) ?_)
          | refine Exists.intro [_] (And.intro (fun _ => one_byte rfl) ?_)
          | refine Exists.intro _ (And.intro (And.intro rfl rfl) ?_)
          | refine Exists.intro _ (And.intro (fun _ => And.intro rfl rfl) ?_)
          | refine Exists.intro _ (And.intro rfl ?_))
        refine ⟨x + 1, ⟨by omega, by omega⟩, ?_, ?_⟩
        all_goals ((repeat' (first | exact trivial | exact rfl | refine And.intro ?_ ?_)) <;> (try (conv => whnf)) <;> (try simp only [SV.real, SV.r2, SV.r1]))
    · obtain rfl : x = 58 := by omega
      repeat' ((conv => whnf); first
        | refine walk (Tryd.ok ..) ?_
        | (refine Cnd.mk (fun h => ?_) (fun h => ?_) <;> (first | (exfalso; simp only [decide_eq_true_eq, decide_eq_false_iff_not, Bool.not_eq_true', Bool.not_eq_false'] at h; omega) | (exfalso; simp at h; omega) | simp at h | skip))
        | refine And.intro (Kept.mk ?_) ?_
        | exact trivial
        | refine And.intro (by (first | rfl | (intro h; exact h) | (intro h; exact absurd h Bool.false_ne_true) | omega | exact h | exact congrArg Bool.not h | exact ⟨rfl, rfl⟩ | exact ⟨⟨rfl, rfl⟩, rfl⟩ | exact ⟨⟨rfl, rfl, rfl, rfl⟩, rfl, rfl⟩ | exact trivial | exact ⟨rfl, rfl, rfl, rfl⟩ | exact ⟨⟨rfl, rfl⟩, rfl, rfl⟩ | exact ⟨rfl, Nat.le_of_ble_eq_true rfl, rfl⟩ | exact Nat.le_of_ble_eq_true rfl | (simp only [Grd.ob, Grd.and, InR, kb, Int.toNat_natCast, ByteArray.size_append, ByteArray.size_extract, Sat.strOf_len, List.length_cons, List.length_nil] <;> omega) | (simp only [Grd.ob, Grd.and, InR, kb, Int.toNat_natCast, ByteArray.size_append, ByteArray.size_extract, Sat.strOf_len, List.length_cons, List.length_nil]; intro h; simp at h; omega) | (refine And.intro (by omega) ?_; simp only [ByteArray.size, List.size_toArray, List.length_cons, List.length_nil]; omega) | exact ⟨rfl, rfl, rfl, rfl, rfl⟩ | exact ⟨rfl, rfl, rfl, rfl, rfl, rfl⟩ | ((try dsimp only); unfold maxLen; omega) | kernel_rfl)) ?_
        | refine Or.inl (And.intro (by (first | rfl | (intro h; exact h) | (intro h; exact absurd h Bool.false_ne_true) | omega | exact h | exact congrArg Bool.not h | exact ⟨rfl, rfl⟩ | exact ⟨⟨rfl, rfl⟩, rfl⟩ | exact ⟨⟨rfl, rfl, rfl, rfl⟩, rfl, rfl⟩ | exact trivial | exact ⟨rfl, rfl, rfl, rfl⟩ | exact ⟨⟨rfl, rfl⟩, rfl, rfl⟩ | exact ⟨rfl, Nat.le_of_ble_eq_true rfl, rfl⟩ | exact Nat.le_of_ble_eq_true rfl | (simp only [Grd.ob, Grd.and, InR, kb, Int.toNat_natCast, ByteArray.size_append, ByteArray.size_extract, Sat.strOf_len, List.length_cons, List.length_nil] <;> omega) | (simp only [Grd.ob, Grd.and, InR, kb, Int.toNat_natCast, ByteArray.size_append, ByteArray.size_extract, Sat.strOf_len, List.length_cons, List.length_nil]; intro h; simp at h; omega) | (refine And.intro (by omega) ?_; simp only [ByteArray.size, List.size_toArray, List.length_cons, List.length_nil]; omega) | exact ⟨rfl, rfl, rfl, rfl, rfl⟩ | exact ⟨rfl, rfl, rfl, rfl, rfl, rfl⟩ | ((try dsimp only); unfold maxLen; omega) | kernel_rfl)) ?_)
        | refine Or.inr ?_
        | refine sat_drawH (Tryd.ok ..) (by kernel_rfl) ?_
        | refine Exists.intro [_] (And.intro (one_byte rfl) ?_)
        | refine Exists.intro [_] (And.intro (fun _ => one_byte rfl) ?_)
        | refine Exists.intro _ (And.intro (And.intro rfl rfl) ?_)
        | refine Exists.intro _ (And.intro (fun _ => And.intro rfl rfl) ?_)
        | refine Exists.intro _ (And.intro rfl ?_))
      exact done_pure rfl rfl rfl
end Go.Proofs.YtedpadjlkddgjaaDoor

