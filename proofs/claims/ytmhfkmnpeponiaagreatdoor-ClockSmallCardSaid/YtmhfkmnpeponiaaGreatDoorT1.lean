/-
  The walks of the clock package: two digits, the text of a time.
-/
import Derived.Test.YtmhfkmnpeponiaaGreatDoorTWf
import Derived.Test.YtmhfkmnpeponiaaGreatDoorShelf
import Derived.Lib.UnsafeStr
namespace Go.Proofs.YtmhfkmnpeponiaaGreatDoor
open Go Sat Go.RowKit Go.PlainAid
set_option linter.unusedSimpArgs false
set_option linter.unusedVariables false
theorem two_byte {cs : List SV} {off : Nat} {x y : Int} (h : cs[off]? = some (.v (.int .u8 x))) (h2 : cs[off + 1]? = some (.v (.int .u8 y))) : 2 = [x, y].length ∧ ∀ (j : Nat) (u : Value), ([x, y].map (Value.int .u8))[j]? = some u → cs[off + j]? = some (.v u) :=
  ⟨rfl, fun j u hu => by
    match j, hu with
    | 0, hu => simp at hu; subst hu; exact h
    | 1, hu => simp at hu; subst hu; exact h2
    | j + 2, hu => simp at hu⟩
theorem itoa_all {w : World} (hw : Wf w) (n : Int) (h0 : -9223372036854775808 ≤ n) (h1 : n ≤ 9223372036854775807) : Calls Tryz.prog 58 #[.int .i64 n] w fun e w' => e = .returned (.string (itB n)) ∧ Below w.heap.size w w' := by
  refine (Tryz.strconv_Itoa n h0 h1 w hw.tab).mono ?_
  rintro e w' ⟨he, k, os, rfl⟩
  refine ⟨he, ⟨rfl, rfl, rfl, by simp [Go.Sort.grow, World.drewN], fun k hk => ?_⟩⟩
  simp only [Go.Sort.grow, World.drewN]
  rw [Array.getElem?_append_left hk]
set_option maxRecDepth 100000 in
set_option maxHeartbeats 8000000 in
theorem two_any (n : Int) (w : World) (h0 : 0 ≤ n) (h1 : n ≤ 99) : Calls Tryz.prog 59 #[.int .i64 n] w fun e w' => e = .returned (.string (twoB n)) ∧ Below w.heap.size w w' := by
  refine calls_sat (cx := Tryz.cx 13 [] [] [] w) (Tryz.ok ..) Tryz.func59 rfl [.v (.int .i64 n)] rfl (by show 1 ≤ 13; omega) [] (holds_nil (Nat.le_refl _)) ?_
  repeat' ((conv => whnf); first | refine walk (Tryz.ok ..) ?_ | (refine Cnd.mk (fun h => ?_) (fun h => ?_) <;> (first | exact cndT h (by (try dsimp only); omega) | exact cndF h (by (try dsimp only); omega) | (exfalso; simp at h; omega) | simp at h | skip)) | refine kp ?_ ?_ | refine tw ?_ ?_ | exact trivial | refine side ?_ | refine sideL ?_ | refine Or.inr ?_ | refine sat_drawH (Tryz.ok ..) (by kernel_rfl) ?_ | refine xi _ (And.intro rfl rfl) ?_ | refine xi _ (fun _ => And.intro rfl rfl) ?_ | refine xi _ rfl ?_)
  intro g hg
  repeat' ((conv => whnf); first | refine walk (Tryz.ok ..) ?_ | (refine Cnd.mk (fun h => ?_) (fun h => ?_) <;> (first | exact cndT h (by (try dsimp only); omega) | exact cndF h (by (try dsimp only); omega) | (exfalso; simp at h; omega) | simp at h | skip)) | refine kp ?_ ?_ | refine tw ?_ ?_ | exact trivial | refine side ?_ | refine sideL ?_ | refine Or.inr ?_ | refine sat_drawH (Tryz.ok ..) (by kernel_rfl) ?_ | refine xi _ (And.intro rfl rfl) ?_ | refine xi _ (fun _ => And.intro rfl rfl) ?_ | refine xi _ rfl ?_)
  refine Exists.intro [48 + n / 10, 48 + n % 10] (And.intro (two_byte rfl rfl) ?_)
  repeat' ((conv => whnf); first | refine walk (Tryz.ok ..) ?_ | (refine Cnd.mk (fun h => ?_) (fun h => ?_) <;> (first | exact cndT h (by (try dsimp only); omega) | exact cndF h (by (try dsimp only); omega) | (exfalso; simp at h; omega) | simp at h | skip)) | refine kp ?_ ?_ | refine tw ?_ ?_ | exact trivial | refine side ?_ | refine sideL ?_ | refine Or.inr ?_ | refine sat_drawH (Tryz.ok ..) (by kernel_rfl) ?_ | refine xi _ (And.intro rfl rfl) ?_ | refine xi _ (fun _ => And.intro rfl rfl) ?_ | refine xi _ rfl ?_)
  exact done_pure rfl rfl rfl
set_option maxRecDepth 100000 in
set_option maxHeartbeats 8000000 in
theorem rtwo_any (n : Int) (w : World) (h0 : 0 ≤ n) (h1 : n ≤ 99) : Calls Tryz.prog 60 #[.int .i64 n] w fun e w' => e = .returned (.string (twoB n)) ∧ Below w.heap.size w w' := by
  refine calls_sat (cx := Tryz.cx 13 [] [] [] w) (Tryz.ok ..) Tryz.func60 rfl [.v (.int .i64 n)] rfl (by show 1 ≤ 13; omega) [] (holds_nil (Nat.le_refl _)) ?_
  repeat' ((conv => whnf); first | refine walk (Tryz.ok ..) ?_ | (refine Cnd.mk (fun h => ?_) (fun h => ?_) <;> (first | exact cndT h (by (try dsimp only); omega) | exact cndF h (by (try dsimp only); omega) | (exfalso; simp at h; omega) | simp at h | skip)) | refine kp ?_ ?_ | refine tw ?_ ?_ | exact trivial | refine side ?_ | refine sideL ?_ | refine Or.inr ?_ | refine sat_drawH (Tryz.ok ..) (by kernel_rfl) ?_ | refine xi _ (And.intro rfl rfl) ?_ | refine xi _ (fun _ => And.intro rfl rfl) ?_ | refine xi _ rfl ?_)
  intro g hg
  repeat' ((conv => whnf); first | refine walk (Tryz.ok ..) ?_ | (refine Cnd.mk (fun h => ?_) (fun h => ?_) <;> (first | exact cndT h (by (try dsimp only); omega) | exact cndF h (by (try dsimp only); omega) | (exfalso; simp at h; omega) | simp at h | skip)) | refine kp ?_ ?_ | refine tw ?_ ?_ | exact trivial | refine side ?_ | refine sideL ?_ | refine Or.inr ?_ | refine sat_drawH (Tryz.ok ..) (by kernel_rfl) ?_ | refine xi _ (And.intro rfl rfl) ?_ | refine xi _ (fun _ => And.intro rfl rfl) ?_ | refine xi _ rfl ?_)
  refine Exists.intro [48 + n / 10, 48 + n % 10] (And.intro (two_byte rfl rfl) ?_)
  repeat' ((conv => whnf); first | refine walk (Tryz.ok ..) ?_ | (refine Cnd.mk (fun h => ?_) (fun h => ?_) <;> (first | exact cndT h (by (try dsimp only); omega) | exact cndF h (by (try dsimp only); omega) | (exfalso; simp at h; omega) | simp at h | skip)) | refine kp ?_ ?_ | refine tw ?_ ?_ | exact trivial | refine side ?_ | refine sideL ?_ | refine Or.inr ?_ | refine sat_drawH (Tryz.ok ..) (by kernel_rfl) ?_ | refine xi _ (And.intro rfl rfl) ?_ | refine xi _ (fun _ => And.intro rfl rfl) ?_ | refine xi _ rfl ?_)
  exact done_pure rfl rfl rfl
def tvV (t : Int) : ByteArray := if timeOk t then txB t else ⟨#[]⟩
def tvE (t : Int) : Int := if timeOk t then 0 else 2
theorem tv_no {t : Int} (h : timeOk t = false) : tvV t = ⟨#[]⟩ ∧ tvE t = 2 := by unfold tvV tvE; rw [h]; exact ⟨rfl, rfl⟩
theorem tv_yes {t : Int} (h : timeOk t = true) : tvV t = txB t ∧ tvE t = 0 := by unfold tvV tvE; rw [h]; exact ⟨rfl, rfl⟩
theorem twoB_size (n : Int) : (twoB n).size = 2 := rfl
theorem day_size {d : Int} (h0 : 0 ≤ d) (h1 : d < 7) : (dayB d).size = 3 := by
  show (dayB d).data.size = 3
  rw [← Array.length_toList]
  exact day_len h0 h1
set_option maxRecDepth 100000 in
set_option maxHeartbeats 8000000 in
theorem text_any (t : Int) (w : World) (hw : Wf w) : Calls Tryz.prog 34 #[.int .i64 t] w fun e w' => e = .returned (.tuple #[.string (tvV t), .int .i64 (tvE t)]) ∧ Below w.heap.size w w' := by
  refine calls_sat (cx := Tryz.cx 30 [] [] [] w) (Tryz.ok ..) Tryz.func34 rfl [.v (.int .i64 t)] rfl (by show 1 ≤ 30; omega) [(2000000, .ro (some (0, 0)) 7 1 (dayN.map Value.string))] (holds_ros rfl rfl ⟨hw.days, trivial⟩) ?_
  repeat' ((conv => whnf); first | refine walk (Tryz.ok ..) ?_ | (refine Cnd.mk (fun h => ?_) (fun h => ?_) <;> (first | exact cndT h (by (try dsimp only); omega) | exact cndF h (by (try dsimp only); omega) | (exfalso; simp at h; omega) | simp at h | skip)) | refine kp ?_ ?_ | refine tw ?_ ?_ | exact trivial | refine side ?_ | refine sideL ?_ | refine Or.inr ?_ | refine sat_drawH (Tryz.ok ..) (by kernel_rfl) ?_ | refine xi _ (And.intro rfl rfl) ?_ | refine xi _ (fun _ => And.intro rfl rfl) ?_ | refine xi _ rfl ?_)
  refine called_pure (.v (.bool (timedB t))) rfl (fun w' => timed_any t w') ?_
  cases ht : timeOk t
  · obtain ⟨e1, e2⟩ := tv_no ht
    have ht2 : timedB t = false := ht
    rw [ht2, e1, e2]
    repeat' ((conv => whnf); first | refine walk (Tryz.ok ..) ?_ | (refine Cnd.mk (fun h => ?_) (fun h => ?_) <;> (first | exact cndT h (by (try dsimp only); omega) | exact cndF h (by (try dsimp only); omega) | (exfalso; simp at h; omega) | simp at h | skip)) | refine kp ?_ ?_ | refine tw ?_ ?_ | exact trivial | refine side ?_ | refine sideL ?_ | refine Or.inr ?_ | refine sat_drawH (Tryz.ok ..) (by kernel_rfl) ?_ | refine xi _ (And.intro rfl rfl) ?_ | refine xi _ (fun _ => And.intro rfl rfl) ?_ | refine xi _ rfl ?_)
    exact done_pure rfl rfl rfl
  · obtain ⟨e1, e2⟩ := tv_yes ht
    have ht2 : timedB t = true := ht
    obtain ⟨b1, b2, b3, b4⟩ := tx_bd ht
    obtain ⟨t1, t2⟩ := timeOk_iff.1 ht
    rw [ht2, e1, e2]
    have hday : (dayN.map Value.string)[0 + mulS (t % 10080 / 1440).toNat 1]? = some (.string (dayB (t % 10080 / 1440))) := by
      rw [mulS_eq, Nat.mul_one, Nat.zero_add, List.getElem?_map, day_get b2.1 b2.2]
      rfl
    have z1 := itB_len b1.1 (show t / 10080 ≤ 99999 by omega)
    have z2 := day_size b2.1 b2.2
    have z3 := twoB_size (t % 10080 % 1440 / 60)
    have z4 := twoB_size (t % 10080 % 60)
    have z5 : (⟨#[32]⟩ : ByteArray).size = 1 := rfl
    have z6 : (⟨#[58]⟩ : ByteArray).size = 1 := rfl
    repeat' ((conv => whnf); first | refine walk (Tryz.ok ..) ?_ | (refine Cnd.mk (fun h => ?_) (fun h => ?_) <;> (first | exact cndT h (by (try dsimp only); omega) | exact cndF h (by (try dsimp only); omega) | (exfalso; simp at h; omega) | simp at h | skip)) | refine kp ?_ ?_ | refine tw ?_ ?_ | exact trivial | refine side ?_ | refine sideL ?_ | refine Or.inr ?_ | refine sat_drawH (Tryz.ok ..) (by kernel_rfl) ?_ | refine xi _ (And.intro rfl rfl) ?_ | refine xi _ (fun _ => And.intro rfl rfl) ?_ | refine xi _ rfl ?_)
    refine calledQ_at (.v (.string (itB (t / 10080)))) rfl (fun _ w' hh => itoa_all (hw.at_ rfl rfl hh) (t / 10080) (by omega) (by omega)) ?_
    repeat' ((conv => whnf); first | refine walk (Tryz.ok ..) ?_ | (refine Cnd.mk (fun h => ?_) (fun h => ?_) <;> (first | exact cndT h (by (try dsimp only); omega) | exact cndF h (by (try dsimp only); omega) | (exfalso; simp at h; omega) | simp at h | skip)) | refine kp ?_ ?_ | refine tw ?_ ?_ | exact trivial | refine side ?_ | refine sideL ?_ | refine Or.inr ?_ | refine sat_drawH (Tryz.ok ..) (by kernel_rfl) ?_ | refine xi _ (And.intro rfl rfl) ?_ | refine xi _ (fun _ => And.intro rfl rfl) ?_ | refine xi _ rfl ?_ | refine xi _ (fun _ => (hday)) ?_ | refine xi _ (hday) ?_)
    refine calledQ_at (.v (.string (twoB (t % 10080 % 1440 / 60)))) rfl (fun _ w' hh => two_any _ w' (by omega) (by omega)) ?_
    repeat' ((conv => whnf); first | refine walk (Tryz.ok ..) ?_ | (refine Cnd.mk (fun h => ?_) (fun h => ?_) <;> (first | exact cndT h (by (try dsimp only); omega) | exact cndF h (by (try dsimp only); omega) | (exfalso; simp at h; omega) | simp at h | skip)) | refine kp ?_ ?_ | refine tw ?_ ?_ | exact trivial | refine side ?_ | refine sideL ?_ | refine Or.inr ?_ | refine sat_drawH (Tryz.ok ..) (by kernel_rfl) ?_ | refine xi _ (And.intro rfl rfl) ?_ | refine xi _ (fun _ => And.intro rfl rfl) ?_ | refine xi _ rfl ?_)
    refine calledQ_at (.v (.string (twoB (t % 10080 % 60)))) rfl (fun _ w' hh => two_any _ w' (by omega) (by omega)) ?_
    repeat' ((conv => whnf); first | refine walk (Tryz.ok ..) ?_ | (refine Cnd.mk (fun h => ?_) (fun h => ?_) <;> (first | exact cndT h (by (try dsimp only); omega) | exact cndF h (by (try dsimp only); omega) | (exfalso; simp at h; omega) | simp at h | skip)) | refine kp ?_ ?_ | refine tw ?_ ?_ | exact trivial | refine side ?_ | refine sideL ?_ | refine Or.inr ?_ | refine sat_drawH (Tryz.ok ..) (by kernel_rfl) ?_ | refine xi _ (And.intro rfl rfl) ?_ | refine xi _ (fun _ => And.intro rfl rfl) ?_ | refine xi _ rfl ?_)
    exact done_pure rfl rfl rfl
end Go.Proofs.YtmhfkmnpeponiaaGreatDoor
