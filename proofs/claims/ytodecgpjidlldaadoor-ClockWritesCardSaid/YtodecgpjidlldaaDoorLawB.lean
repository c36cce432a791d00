/-
  The laws of the clock: texts a week later.
-/
import Derived.Test.YtodecgpjidlldaaDoorLawA
namespace Go.Proofs.YtodecgpjidlldaaDoor
open Go Sat Go.RowKit Go.PlainAid
set_option linter.unusedSimpArgs false
set_option linter.unusedVariables false
def txT (t : Int) : ByteArray := dayB (t % 10080 / 1440) ++ ⟨#[32]⟩ ++ twoB (t % 10080 % 1440 / 60) ++ ⟨#[58]⟩ ++ twoB (t % 10080 % 60)
theorem tx_tail (t : Int) : txB t = (itB (t / 10080) ++ ⟨#[32]⟩) ++ txT t := by
  unfold txB txT
  apply ba_ext
  simp
theorem txT_size {t : Int} : (txT t).size = 9 := by
  unfold txT
  have h := day_size (d := t % 10080 / 1440) (by omega) (by omega)
  rw [ByteArray.size_append, ByteArray.size_append, ByteArray.size_append, ByteArray.size_append, h, twoB_size, twoB_size]
  rfl
theorem tx_size (t : Int) : (txB t).size = (itB (t / 10080)).size + 10 := by
  rw [tx_tail, ByteArray.size_append, ByteArray.size_append, txT_size]
  rfl
theorem itB_pos {n : Int} (h0 : 0 ≤ n) : 1 ≤ (itB n).size := by
  have h := dec_ne n.toNat
  have e : (itB n).size = (Lib.decDigits n.toNat).length := by
    unfold itB
    rw [itoa_pos h0]
    show (Lib.decDigits n.toNat).toArray.size = _
    simp
  rw [e]
  exact List.length_pos_iff.2 h
theorem ext_tail {a b : ByteArray} : (a ++ b).extract a.size (a ++ b).size = b := by
  apply ba_ext
  have h1 : (a ++ b).data.toList = a.data.toList ++ b.data.toList := by simp
  rw [ByteArray.data_extract, Array.toList_extract, h1, ByteArray.size_append, show a.size = a.data.toList.length from (ba_len a).symm, show b.size = b.data.toList.length from (ba_len b).symm, List.extract_eq_take_drop, List.drop_left, Nat.add_sub_cancel_left, List.take_length]
theorem tx_last (t : Int) : (txB t).extract (((txB t).size : Int) - 9).toNat (((txB t).size : Int)).toNat = txT t := by
  have h := tx_size t
  rw [Int.toNat_natCast, show (((txB t).size : Int) - 9).toNat = (itB (t / 10080) ++ ⟨#[32]⟩).size by
    rw [ByteArray.size_append, show (⟨#[32]⟩ : ByteArray).size = 1 from rfl]
    omega]
  rw [tx_tail]
  exact ext_tail
set_option maxRecDepth 100000 in
set_option maxHeartbeats 16000000 in
theorem clockWrites_any (hS : SpansAny) (x : Int) (w : World) (hw : Wf w) : Calls Tryd.prog 7 #[.int .i64 x] w fun e w' => e = .returned (.bool true) ∧ Below w.heap.size w w' := by
  refine calls_sat (cx := Tryd.cx 84 [] [] [] w) (Tryd.ok ..) Tryd.func7 rfl [.v (.int .i64 x)] rfl (by show 1 ≤ 84; omega) [] (holds_nil (Nat.le_refl _)) ?_
  repeat' ((conv => whnf); first
    | refine walk (Tryd.ok ..) ?_
    | refine walk (COk.with_ (Tryd.ok ..) _ _) ?_
    | refine walk (COk.with_ (COk.with_ (Tryd.ok ..) _ _) _ _) ?_
    | (refine Cnd.mk (fun h => ?_) (fun h => ?_) <;> (first | (exfalso; simp only [decide_eq_true_eq, decide_eq_false_iff_not, Bool.not_eq_true', Bool.not_eq_false'] at h; omega) | (exfalso; simp at h; omega) | simp at h | skip))
    | refine And.intro (Kept.mk ?_) ?_
    | refine Two.mk (And.intro ?_ ?_)
    | exact trivial
    | refine side ?_
    | refine sideL ?_
    | refine Or.inr ?_
    | refine sat_drawH (Tryd.ok ..) (by kernel_rfl) ?_
    | refine sat_drawH (COk.with_ (Tryd.ok ..) _ _) (by kernel_rfl) ?_
    | refine sat_drawH (COk.with_ (COk.with_ (Tryd.ok ..) _ _) _ _) (by kernel_rfl) ?_
    | refine Exists.intro [_] (And.intro (one_byte rfl) ?_)
    | refine Exists.intro [_] (And.intro (fun _ => one_byte rfl) ?_)
    | refine Exists.intro _ (And.intro (And.intro rfl rfl) ?_)
    | refine Exists.intro _ (And.intro (fun _ => And.intro rfl rfl) ?_)
    | refine Exists.intro _ (And.intro rfl ?_))
  refine called_at (.v (.bool true)) rfl (fun w' hh => awake_any hS w' (hw.at_ rfl rfl hh)) ?_
  repeat' ((conv => whnf); first
    | refine walk (Tryd.ok ..) ?_
    | refine walk (COk.with_ (Tryd.ok ..) _ _) ?_
    | refine walk (COk.with_ (COk.with_ (Tryd.ok ..) _ _) _ _) ?_
    | (refine Cnd.mk (fun h => ?_) (fun h => ?_) <;> (first | (exfalso; simp only [decide_eq_true_eq, decide_eq_false_iff_not, Bool.not_eq_true', Bool.not_eq_false'] at h; omega) | (exfalso; simp at h; omega) | simp at h | skip))
    | refine And.intro (Kept.mk ?_) ?_
    | refine Two.mk (And.intro ?_ ?_)
    | exact trivial
    | refine side ?_
    | refine sideL ?_
    | refine Or.inr ?_
    | refine sat_drawH (Tryd.ok ..) (by kernel_rfl) ?_
    | refine sat_drawH (COk.with_ (Tryd.ok ..) _ _) (by kernel_rfl) ?_
    | refine sat_drawH (COk.with_ (COk.with_ (Tryd.ok ..) _ _) _ _) (by kernel_rfl) ?_
    | refine Exists.intro [_] (And.intro (one_byte rfl) ?_)
    | refine Exists.intro [_] (And.intro (fun _ => one_byte rfl) ?_)
    | refine Exists.intro _ (And.intro (And.intro rfl rfl) ?_)
    | refine Exists.intro _ (And.intro (fun _ => And.intro rfl rfl) ?_)
    | refine Exists.intro _ (And.intro rfl ?_))
  obtain ⟨t, ht⟩ : ∃ t, t = x % 99989921 := ⟨_, rfl⟩
  have ht0 : 0 ≤ t ∧ t < 99989921 := by omega
  refine called_pure (.v (.int .i64 t)) rfl (fun w' => by rw [ht]; exact pick_any x 99989921 w' (by omega) (by omega)) ?_
  have k1 : timeOk t = true := timeOk_iff.2 (by omega)
  have k2 : timeOk (t + 10080) = true := timeOk_iff.2 (by omega)
  obtain ⟨a, ea⟩ : ∃ a, a = txB t := ⟨_, rfl⟩
  obtain ⟨b, eb⟩ : ∃ b, b = txB (t + 10080) := ⟨_, rfl⟩
  obtain ⟨r1, r2⟩ := rd_yes k1 ea.symm
  obtain ⟨r3, r4⟩ := rd_yes k2 eb.symm
  have za : a.size = (itB (t / 10080)).size + 10 := by rw [ea]; exact tx_size t
  have zb : b.size = (itB ((t + 10080) / 10080)).size + 10 := by rw [eb]; exact tx_size _
  have qa := itB_pos (show 0 ≤ t / 10080 by omega)
  have qb := itB_pos (show 0 ≤ (t + 10080) / 10080 by omega)
  have ra := itB_len (show 0 ≤ t / 10080 by omega) (show t / 10080 ≤ 99999 by omega)
  have rb := itB_len (show 0 ≤ (t + 10080) / 10080 by omega) (show (t + 10080) / 10080 ≤ 99999 by omega)
  have hab : a ≠ b := fun e => by
    have := tx_inj k1 k2 (by rw [← ea, ← eb, e])
    omega
  have hext : a.extract ((a.size : Int) - 9).toNat ((a.size : Int)).toNat = b.extract ((b.size : Int) - 9).toNat ((b.size : Int)).toNat := by
    rw [ea, eb, tx_last, tx_last]
    unfold txT
    rw [show (t + 10080) % 10080 = t % 10080 by omega]
  repeat' ((conv => whnf); first
    | refine walk (Tryd.ok ..) ?_
    | refine walk (COk.with_ (Tryd.ok ..) _ _) ?_
    | refine walk (COk.with_ (COk.with_ (Tryd.ok ..) _ _) _ _) ?_
    | (refine Cnd.mk (fun h => ?_) (fun h => ?_) <;> (first | (exfalso; simp only [decide_eq_true_eq, decide_eq_false_iff_not, Bool.not_eq_true', Bool.not_eq_false'] at h; omega) | (exfalso; simp at h; omega) | simp at h | skip))
    | refine And.intro (Kept.mk ?_) ?_
    | refine Two.mk (And.intro ?_ ?_)
    | exact trivial
    | refine side ?_
    | refine sideL ?_
    | refine Or.inr ?_
    | refine sat_drawH (Tryd.ok ..) (by kernel_rfl) ?_
    | refine sat_drawH (COk.with_ (Tryd.ok ..) _ _) (by kernel_rfl) ?_
    | refine sat_drawH (COk.with_ (COk.with_ (Tryd.ok ..) _ _) _ _) (by kernel_rfl) ?_
    | refine Exists.intro [_] (And.intro (one_byte rfl) ?_)
    | refine Exists.intro [_] (And.intro (fun _ => one_byte rfl) ?_)
    | refine Exists.intro _ (And.intro (And.intro rfl rfl) ?_)
    | refine Exists.intro _ (And.intro (fun _ => And.intro rfl rfl) ?_)
    | refine Exists.intro _ (And.intro rfl ?_))
  refine called_at (.t [.v (.string a), .v (.int .i64 0)]) rfl (fun w' hh => by
    have h1 := text_any t w' (hw.at_ rfl rfl hh)
    rw [(tv_yes k1).1, (tv_yes k1).2, ← ea] at h1
    exact h1) ?_
  repeat' ((conv => whnf); first
    | refine walk (Tryd.ok ..) ?_
    | refine walk (COk.with_ (Tryd.ok ..) _ _) ?_
    | refine walk (COk.with_ (COk.with_ (Tryd.ok ..) _ _) _ _) ?_
    | (refine Cnd.mk (fun h => ?_) (fun h => ?_) <;> (first | (exfalso; simp only [decide_eq_true_eq, decide_eq_false_iff_not, Bool.not_eq_true', Bool.not_eq_false'] at h; omega) | (exfalso; simp at h; omega) | simp at h | skip))
    | refine And.intro (Kept.mk ?_) ?_
    | refine Two.mk (And.intro ?_ ?_)
    | exact trivial
    | refine side ?_
    | refine sideL ?_
    | refine Or.inr ?_
    | refine sat_drawH (Tryd.ok ..) (by kernel_rfl) ?_
    | refine sat_drawH (COk.with_ (Tryd.ok ..) _ _) (by kernel_rfl) ?_
    | refine sat_drawH (COk.with_ (COk.with_ (Tryd.ok ..) _ _) _ _) (by kernel_rfl) ?_
    | refine Exists.intro [_] (And.intro (one_byte rfl) ?_)
    | refine Exists.intro [_] (And.intro (fun _ => one_byte rfl) ?_)
    | refine Exists.intro _ (And.intro (And.intro rfl rfl) ?_)
    | refine Exists.intro _ (And.intro (fun _ => And.intro rfl rfl) ?_)
    | refine Exists.intro _ (And.intro rfl ?_))
  refine called_at (.t [.v (.string b), .v (.int .i64 0)]) rfl (fun w' hh => by
    have h1 := text_any (t + 10080) w' (hw.at_ rfl rfl hh)
    rw [(tv_yes k2).1, (tv_yes k2).2, ← eb] at h1
    exact h1) ?_
  repeat' ((conv => whnf); first
    | refine walk (Tryd.ok ..) ?_
    | refine walk (COk.with_ (Tryd.ok ..) _ _) ?_
    | refine walk (COk.with_ (COk.with_ (Tryd.ok ..) _ _) _ _) ?_
    | (refine Cnd.mk (fun h => ?_) (fun h => ?_) <;> (first | (exfalso; simp only [decide_eq_true_eq, decide_eq_false_iff_not, Bool.not_eq_true', Bool.not_eq_false'] at h; omega) | (exfalso; simp at h; omega) | simp at h | skip))
    | refine And.intro (Kept.mk ?_) ?_
    | refine Two.mk (And.intro ?_ ?_)
    | exact trivial
    | refine side ?_
    | refine sideL ?_
    | refine Or.inr ?_
    | refine sat_drawH (Tryd.ok ..) (by kernel_rfl) ?_
    | refine sat_drawH (COk.with_ (Tryd.ok ..) _ _) (by kernel_rfl) ?_
    | refine sat_drawH (COk.with_ (COk.with_ (Tryd.ok ..) _ _) _ _) (by kernel_rfl) ?_
    | refine Exists.intro [_] (And.intro (one_byte rfl) ?_)
    | refine Exists.intro [_] (And.intro (fun _ => one_byte rfl) ?_)
    | refine Exists.intro _ (And.intro (And.intro rfl rfl) ?_)
    | refine Exists.intro _ (And.intro (fun _ => And.intro rfl rfl) ?_)
    | refine Exists.intro _ (And.intro rfl ?_))
  refine called_at (.t [.v (.int .i64 t), .v (.int .i64 0)]) rfl (fun w' hh => by
    have h1 := read_any a w' (by omega) (hw.at_ rfl rfl hh)
    rw [r1, r2] at h1
    exact h1) ?_
  repeat' ((conv => whnf); first
    | refine walk (Tryd.ok ..) ?_
    | refine walk (COk.with_ (Tryd.ok ..) _ _) ?_
    | refine walk (COk.with_ (COk.with_ (Tryd.ok ..) _ _) _ _) ?_
    | (refine Cnd.mk (fun h => ?_) (fun h => ?_) <;> (first | (exfalso; simp only [decide_eq_true_eq, decide_eq_false_iff_not, Bool.not_eq_true', Bool.not_eq_false'] at h; omega) | (exfalso; simp at h; omega) | simp at h | skip))
    | refine And.intro (Kept.mk ?_) ?_
    | refine Two.mk (And.intro ?_ ?_)
    | exact trivial
    | refine side ?_
    | refine sideL ?_
    | refine Or.inr ?_
    | refine sat_drawH (Tryd.ok ..) (by kernel_rfl) ?_
    | refine sat_drawH (COk.with_ (Tryd.ok ..) _ _) (by kernel_rfl) ?_
    | refine sat_drawH (COk.with_ (COk.with_ (Tryd.ok ..) _ _) _ _) (by kernel_rfl) ?_
    | refine Exists.intro [_] (And.intro (one_byte rfl) ?_)
    | refine Exists.intro [_] (And.intro (fun _ => one_byte rfl) ?_)
    | refine Exists.intro _ (And.intro (And.intro rfl rfl) ?_)
    | refine Exists.intro _ (And.intro (fun _ => And.intro rfl rfl) ?_)
    | refine Exists.intro _ (And.intro rfl ?_))
  refine called_at (.t [.v (.int .i64 (t + 10080)), .v (.int .i64 0)]) rfl (fun w' hh => by
    have h1 := read_any b w' (by omega) (hw.at_ rfl rfl hh)
    rw [r3, r4] at h1
    exact h1) ?_
  repeat' ((conv => whnf); first
    | refine walk (Tryd.ok ..) ?_
    | refine walk (COk.with_ (Tryd.ok ..) _ _) ?_
    | refine walk (COk.with_ (COk.with_ (Tryd.ok ..) _ _) _ _) ?_
    | (refine Cnd.mk (fun h => ?_) (fun h => ?_) <;> (first | (exfalso; simp only [decide_eq_true_eq, decide_eq_false_iff_not, Bool.not_eq_true', Bool.not_eq_false'] at h; omega) | (exfalso; simp at h; omega) | simp at h | skip))
    | refine And.intro (Kept.mk ?_) ?_
    | refine Two.mk (And.intro ?_ ?_)
    | exact trivial
    | refine side ?_
    | refine sideL ?_
    | refine Or.inr ?_
    | refine sat_drawH (Tryd.ok ..) (by kernel_rfl) ?_
    | refine sat_drawH (COk.with_ (Tryd.ok ..) _ _) (by kernel_rfl) ?_
    | refine sat_drawH (COk.with_ (COk.with_ (Tryd.ok ..) _ _) _ _) (by kernel_rfl) ?_
    | refine Exists.intro [_] (And.intro (one_byte rfl) ?_)
    | refine Exists.intro [_] (And.intro (fun _ => one_byte rfl) ?_)
    | refine Exists.intro _ (And.intro (And.intro rfl rfl) ?_)
    | refine Exists.intro _ (And.intro (fun _ => And.intro rfl rfl) ?_)
    | refine Exists.intro _ (And.intro rfl ?_))
  refine done_pure rfl rfl (congrArg Value.bool ?_)
  have l1 : (11 : Int) ≤ a.size := by omega
  have l2 : (11 : Int) ≤ b.size := by omega
  simp [hext, hab, l1, l2]
  exact hext
end Go.Proofs.YtodecgpjidlldaaDoor
