/-
  The walks of the laws of routes: the chapter's examples.
-/
import Derived.Test.YtbpklalkoocneaaDoorW
import Derived.Test.YtbpklalkoocneaaDoorY
import Derived.Test.YtbpklalkoocneaaDoorPlain3
namespace Go.Proofs.YtbpklalkoocneaaDoor
open Go Sat Go.RowKit Go.PlainAid
set_option linter.unusedSimpArgs false
set_option linter.unusedVariables false
theorem done_blk {cx : Cx} {v : SV} {H : Heap} {e size n : Nat} {cs : List SV} {xs : List Value} {mk : Value → Value} (hn : cx.n0 = cx.W.heap.size) (hM : cx.M = []) (d g : Nat) (hf : hfind H d = some (.blk g e cs)) (hc : cs.length = n * size) (hm : n ≤ maxLen) (hx : cs.map SV.r1 = xs) (h : v.real = mk (.slice (some ⟨g, 0, none⟩) n n)) :
    Done cx (fun e' w' => ∃ v, e' = .returned (mk v) ∧ w'.ownsRow cx.W.heap.size e size v n xs ∧ Below cx.W.heap.size cx.W w') v H := by
  subst hx
  refine ⟨fun w hw => ⟨_, by rw [h], ?_, below_of hn hM hw⟩⟩
  have hb : (HB.blk g e cs).holds cx w := hw.at_ hf
  have hg : cx.n0 ≤ g := by
    rcases hb.1 with h1 | h1
    · exact h1
    · rw [hM] at h1; cases h1
  exact ⟨by rw [List.length_map]; exact hc, .inr ⟨g, n, _, rfl, by rw [← hn]; exact hg, hb.2, Nat.le_refl _, hm, by simp [hc], by rw [← hc]; simp [List.take_of_length_le]⟩⟩
def exA : Cl := ⟨⟨#[78, 76, 82, 84, 77]⟩, 1000, 12500⟩
def exB : Cl := ⟨⟨#[68, 69, 72, 65, 77]⟩, 2500, 0⟩
def exC : Cl := ⟨⟨#[83, 69, 71, 79, 84]⟩, 4000, 9800⟩
def exL : List Cl := [exA, exB, exC]
set_option maxRecDepth 100000 in
set_option maxHeartbeats 8000000 in
theorem example_any (w : World) : Calls Tryd.prog 32 #[] w fun e w' => ∃ v, e = .returned v ∧ w'.ownsRow w.heap.size 26 3 v 3 (cells exL) ∧ Below w.heap.size w w' := by
  refine calls_sat (cx := Tryd.cx 5 [] [] [] w) (Tryd.ok ..) Tryd.func32 rfl [] rfl (by show 0 ≤ 5; omega) [] (holds_nil (Nat.le_refl _)) ?_
  repeat' ((conv => whnf); first
    | refine walk (Tryd.ok ..) ?_
    | refine walk (COk.with_ (Tryd.ok ..) _ _) ?_
    | refine walk (COk.with_ (COk.with_ (Tryd.ok ..) _ _) _ _) ?_
    | (refine Cnd.mk (fun h => ?_) (fun h => ?_) <;> (first | (exfalso; simp only [decide_eq_true_eq, decide_eq_false_iff_not, Bool.not_eq_true', Bool.not_eq_false'] at h; omega) | (exfalso; simp at h; omega) | simp at h | skip))
    | refine And.intro (Kept.mk ?_) ?_
    | refine Two.mk (And.intro ?_ ?_)
    | exact trivial
    | refine side ?_
    | refine sideL ?_
    | refine Or.inr ?_
    | refine sat_drawH (Tryd.ok ..) (by kernel_rfl) ?_
    | refine sat_drawH (COk.with_ (Tryd.ok ..) _ _) (by kernel_rfl) ?_
    | refine sat_drawH (COk.with_ (COk.with_ (Tryd.ok ..) _ _) _ _) (by kernel_rfl) ?_
    | refine Exists.intro [_] (And.intro (one_byte rfl) ?_)
    | refine Exists.intro [_] (And.intro (fun _ => one_byte rfl) ?_)
    | refine Exists.intro _ (And.intro (And.intro rfl rfl) ?_)
    | refine Exists.intro _ (And.intro (fun _ => And.intro rfl rfl) ?_)
    | refine Exists.intro _ (And.intro rfl ?_))
  intro g4 hg4
  repeat' ((conv => whnf); first
    | refine walk (Tryd.ok ..) ?_
    | refine walk (COk.with_ (Tryd.ok ..) _ _) ?_
    | refine walk (COk.with_ (COk.with_ (Tryd.ok ..) _ _) _ _) ?_
    | (refine Cnd.mk (fun h => ?_) (fun h => ?_) <;> (first | (exfalso; simp only [decide_eq_true_eq, decide_eq_false_iff_not, Bool.not_eq_true', Bool.not_eq_false'] at h; omega) | (exfalso; simp at h; omega) | simp at h | skip))
    | refine And.intro (Kept.mk ?_) ?_
    | refine Two.mk (And.intro ?_ ?_)
    | exact trivial
    | refine side ?_
    | refine sideL ?_
    | refine Or.inr ?_
    | refine sat_drawH (Tryd.ok ..) (by kernel_rfl) ?_
    | refine sat_drawH (COk.with_ (Tryd.ok ..) _ _) (by kernel_rfl) ?_
    | refine sat_drawH (COk.with_ (COk.with_ (Tryd.ok ..) _ _) _ _) (by kernel_rfl) ?_
    | refine Exists.intro [_] (And.intro (one_byte rfl) ?_)
    | refine Exists.intro [_] (And.intro (fun _ => one_byte rfl) ?_)
    | refine Exists.intro _ (And.intro (And.intro rfl rfl) ?_)
    | refine Exists.intro _ (And.intro (fun _ => And.intro rfl rfl) ?_)
    | refine Exists.intro _ (And.intro rfl ?_))
  exact done_blk (mk := fun v => v) rfl rfl 4 g4 rfl rfl (by unfold maxLen; omega) rfl rfl
theorem exV : valI exL = -1 ∧ valE exL = 0 := by decide +kernel
theorem exLim : limI exL 0 = 12500 ∧ limI exL 1 = 9800 ∧ limI exL 2 = 9800 := by decide +kernel
theorem exAt : atB exL 999 (-1) = true ∧ atB exL 1000 0 = true ∧ atB exL 2499 0 = true ∧ atB exL 99999 2 = true := by decide +kernel
theorem exLegN : legN exL = 2 := by decide +kernel
theorem exLegL : legL exL = [.string exA.p, .string exB.p, .int .i64 1500, .string exB.p, .string exC.p, .int .i64 1500] := by
  unfold legL
  rw [exLegN]
  rfl
theorem exDE : delE exL 1 10 = 0 ∧ delE exL 1 99996001 = 4 := by decide +kernel
theorem exDN : delN exL 1 10 = 3 := by unfold delN; rw [exDE.1]; rfl
theorem exDX : delX exL 1 10 = cells [exA, ⟨exB.p, 2510, 0⟩, ⟨exC.p, 4010, 9800⟩] := by
  unfold delX
  rw [exDE.1]
  rfl
theorem exDN4 : delN exL 1 99996001 = 0 := by unfold delN; rw [exDE.2]; rfl
theorem exDX4 : delX exL 1 99996001 = [] := by unfold delX; rw [exDE.2]; rfl
theorem dec3 (n : Nat) (h : 10 ≤ n) : Lib.decDigits n = Lib.decDigits (n / 10) ++ [UInt8.ofNat (48 + n % 10)] := by rw [Lib.decDigits, dif_neg (by omega)]
theorem dec1 (n : Nat) (h : n < 10) : Lib.decDigits n = [UInt8.ofNat (48 + n)] := by rw [Lib.decDigits, dif_pos h]
theorem exWr : wrS exA = ⟨#[78, 76, 82, 84, 77, 32, 49, 48, 48, 48, 32, 49, 50, 53, 48, 48]⟩ ∧ wrE exA = 0 := by
  have h : rightC exA = true := by decide +kernel
  have e1 : itB exA.t = ⟨#[49, 48, 48, 48]⟩ := by
    show (⟨(Lib.itoa 1000).toArray⟩ : ByteArray) = _
    rw [itoa_pos (by omega), show (1000 : Int).toNat = 1000 from rfl, dec3 1000 (by omega), dec3 (1000 / 10) (by omega), dec3 (1000 / 10 / 10) (by omega), dec1 _ (by omega)]
    rfl
  have e2 : itB exA.d = ⟨#[49, 50, 53, 48, 48]⟩ := by
    show (⟨(Lib.itoa 12500).toArray⟩ : ByteArray) = _
    rw [itoa_pos (by omega), show (12500 : Int).toNat = 12500 from rfl, dec3 12500 (by omega), dec3 (12500 / 10) (by omega), dec3 (12500 / 10 / 10) (by omega), dec3 (12500 / 10 / 10 / 10) (by omega), dec1 _ (by omega)]
    rfl
  unfold wrS wrE
  rw [h]
  refine ⟨?_, rfl⟩
  show wrB exA = _
  unfold wrB
  rw [e1, e2]
  rfl
def tx : Nat → ByteArray
  | 0 => ⟨#[78, 76, 82, 84, 77, 32, 48, 49, 48, 48, 48, 32, 49, 50, 53, 48, 48]⟩
  | 1 => ⟨#[78, 76, 82, 84, 77, 32, 49, 48, 48, 48]⟩
  | _ => ⟨#[110, 108, 114, 116, 109, 32, 49, 48, 48, 48, 32, 49, 50, 53, 48, 48]⟩
theorem exPr (i : Nat) : prE (tx i) = 201 := by
  refine (pr_none (prs_none fun c h1 h2 => ?_)).2
  have hp := wr_parts h1 h2
  match i with
  | 0 => exact hp.k6 (by decide +kernel)
  | 1 => exact absurd hp.n8 (by decide +kernel)
  | i + 2 =>
    have := hp.p
    have hu : upB c.p = true := by unfold rightC at h1; simp at h1; exact h1.1.1.1.1.2
    rw [← this] at hu
    exact absurd hu (by show ¬ upB ((⟨#[110, 108, 114, 116, 109, 32, 49, 48, 48, 48, 32, 49, 50, 53, 48, 48]⟩ : ByteArray).extract (0 : Int).toNat (5 : Int).toNat) = true; decide +kernel)
theorem exVV : valI [exA, exA] = 1 ∧ valE [exA, exA] = 200 := by decide +kernel
end Go.Proofs.YtbpklalkoocneaaDoor

