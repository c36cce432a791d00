/-
  The walks of the hydro package: how deep a row lies, and the first row that lies deep enough.
-/
import Derived.Test.YtomhfakkebaciaaH9
set_option linter.unusedSimpArgs false
set_option linter.unusedVariables false
namespace Go.Proofs.Ytomhfakkebaciaa
open Go Sat Go.RowKit Go.PlainAid
def ptrV (g : Nat) : Value := .pointer (some ⟨g, 0, none⟩)
theorem cmpE_bd (f g : Fr) : -1 ≤ (cmpE f g).1 ∧ (cmpE f g).1 ≤ 1 := by
  unfold cmpE
  split
  · show -1 ≤ cmpF f g ∧ cmpF f g ≤ 1
    unfold cmpF cmpN
    repeat' split
    all_goals omega
  · show -1 ≤ (0 : Int) ∧ (0 : Int) ≤ 1
    omega
theorem frW_at {f : Fr} : (frW f).length = 17 ∧ ∀ j, j < 17 → (frW f)[0 + j]? = (frW f)[j]? := ⟨frW_len f, fun j _ => by rw [Nat.zero_add]⟩
theorem deeper_any (x : Fr) (r : HRow) (g : Nat) (w : World) (hx : Big x) (hd : I64 r.d) (hg : Ro w (some (g, 0)) 1 17 (frW x)) :
    Calls Try.prog 45 #[rwV r, ptrV g] w fun e w' => e = .returned (.int .i64 (deepC x r)) ∧ Below w.heap.size w w' := by
  have ld := frC_len (ofF r.d)
  have hC := fun w => cmpE_any (ofF r.d) x w (ofF_big _) hx
  refine calls_sat (cx := Try.cx 15 [] [] [] w) (Try.ok ..) Try.func45 rfl [.a (rwC r), .p 300 g 0 0] rfl (by show 2 ≤ 15; omega) [(300, .ro (some (g, 0)) 1 17 (frW x))] (holds_ros rfl rfl ⟨hg, trivial⟩) ?_
  repeat' ((conv => whnf); first | refine walk (Try.ok ..) ?_ | (refine Cnd.mk (fun h => ?_) (fun h => ?_) <;> (first | exact cndT h (by (try dsimp only); omega) | exact cndF h (by (try dsimp only); omega) | (exfalso; simp at h; omega) | simp at h | skip)) | refine kp ?_ ?_ | refine tw ?_ ?_ | exact trivial | refine side2 ?_ | refine sideL2 ?_ | refine Or.inr ?_ | refine sat_drawH (Try.ok ..) (by kernel_rfl) ?_ | refine xi _ (And.intro rfl rfl) ?_ | refine xi _ (fun _ => And.intro rfl rfl) ?_ | refine xi _ rfl ?_)
  (conv => whnf)
  intro g2 hg2
  repeat' ((conv => whnf); first | refine walk (Try.ok ..) ?_ | (refine Cnd.mk (fun h => ?_) (fun h => ?_) <;> (first | exact cndT h (by (try dsimp only); omega) | exact cndF h (by (try dsimp only); omega) | (exfalso; simp at h; omega) | simp at h | skip)) | refine kp ?_ ?_ | refine tw ?_ ?_ | exact trivial | refine side2 ?_ | refine sideL2 ?_ | refine Or.inr ?_ | refine sat_drawH (Try.ok ..) (by kernel_rfl) ?_ | refine xi _ (And.intro rfl rfl) ?_ | refine xi _ (fun _ => And.intro rfl rfl) ?_ | refine xi _ rfl ?_ | refine xi _ (fun _ => frW_at) ?_ | refine xi _ frW_at ?_)
  refine calledQ_pure (.a (frC (ofF r.d))) rfl (fun _ w' => by exact of_frac _ w' hd) ?_
  repeat' ((conv => whnf); first | refine walk (Try.ok ..) ?_ | (refine Cnd.mk (fun h => ?_) (fun h => ?_) <;> (first | exact cndT h (by (try dsimp only); omega) | exact cndF h (by (try dsimp only); omega) | (exfalso; simp at h; omega) | simp at h | skip)) | refine kp ?_ ?_ | refine tw ?_ ?_ | exact trivial | refine side2 ?_ | refine sideL2 ?_ | refine Or.inr ?_ | refine sat_drawH (Try.ok ..) (by kernel_rfl) ?_ | refine xi _ (And.intro rfl rfl) ?_ | refine xi _ (fun _ => And.intro rfl rfl) ?_ | refine xi _ rfl ?_ | refine xi _ (fun _ => frW_at) ?_ | refine xi _ frW_at ?_)
  refine calledQ_pure (.t [.v (.int .i64 (deepC x r)), .v (.int .i64 (cmpE (ofF r.d) x).2)]) rfl (fun _ w' => by rw [frW_v]; exact hC w') ?_
  repeat' ((conv => whnf); first | refine walk (Try.ok ..) ?_ | (refine Cnd.mk (fun h => ?_) (fun h => ?_) <;> (first | exact cndT h (by (try dsimp only); omega) | exact cndF h (by (try dsimp only); omega) | (exfalso; simp at h; omega) | simp at h | skip)) | refine kp ?_ ?_ | refine tw ?_ ?_ | exact trivial | refine side2 ?_ | refine sideL2 ?_ | refine Or.inr ?_ | refine sat_drawH (Try.ok ..) (by kernel_rfl) ?_ | refine xi _ (And.intro rfl rfl) ?_ | refine xi _ (fun _ => And.intro rfl rfl) ?_ | refine xi _ rfl ?_)
  exact done_pure rfl rfl rfl
theorem deep_enough (x : Fr) (r : HRow) (g g6 : Nat) (w : World) (hx : Big x) (hd : I64 r.d) (hg : Ro w (some (g, 0)) 1 17 (frW x)) (h6 : Ro w (some (g6, 0)) 1 1 [.func (.func 45) #[] #[ptrV g]]) :
    Calls Try.prog 47 #[rwV r, ptrV g6] w fun e w' => e = .returned (.bool (decide (0 ≤ deepC x r))) ∧ Below w.heap.size w w' := by
  refine calls_sat (cx := Try.cx 8 [] [] [] w) (Try.ok ..) Try.func47 rfl [.a (rwC r), .p 301 g6 0 0] rfl (by show 2 ≤ 8; omega) [(300, .ro (some (g, 0)) 1 17 (frW x)), (301, .ro (some (g6, 0)) 1 1 [.func (.func 45) #[] #[ptrV g]])] (holds_ros rfl rfl ⟨hg, h6, trivial⟩) ?_
  repeat' ((conv => whnf); first | refine walk (Try.ok ..) ?_ | (refine Cnd.mk (fun h => ?_) (fun h => ?_) <;> (first | exact cndT h (by (try dsimp only); omega) | exact cndF h (by (try dsimp only); omega) | (exfalso; simp at h; omega) | simp at h | skip)) | refine kp ?_ ?_ | refine tw ?_ ?_ | exact trivial | refine side2 ?_ | refine sideL2 ?_ | refine Or.inr ?_ | refine sat_drawH (Try.ok ..) (by kernel_rfl) ?_ | refine xi _ (And.intro rfl rfl) ?_ | refine xi _ (fun _ => And.intro rfl rfl) ?_ | refine xi _ rfl ?_)
  (conv => whnf)
  intro g2 hg2
  repeat' ((conv => whnf); first | refine walk (Try.ok ..) ?_ | (refine Cnd.mk (fun h => ?_) (fun h => ?_) <;> (first | exact cndT h (by (try dsimp only); omega) | exact cndF h (by (try dsimp only); omega) | (exfalso; simp at h; omega) | simp at h | skip)) | refine kp ?_ ?_ | refine tw ?_ ?_ | exact trivial | refine side2 ?_ | refine sideL2 ?_ | refine Or.inr ?_ | refine sat_drawH (Try.ok ..) (by kernel_rfl) ?_ | refine xi _ (And.intro rfl rfl) ?_ | refine xi _ (fun _ => And.intro rfl rfl) ?_ | refine xi _ rfl ?_)
  (conv => whnf)
  refine called_at (.v (.int .i64 (deepC x r))) rfl (fun w' hh => by exact deeper_any x r g w' hx hd (ro_of_ro hh (id := 300) rfl)) ?_
  repeat' ((conv => whnf); first | refine walk (Try.ok ..) ?_ | (refine Cnd.mk (fun h => ?_) (fun h => ?_) <;> (first | exact cndT h (by (try dsimp only); omega) | exact cndF h (by (try dsimp only); omega) | (exfalso; simp at h; omega) | simp at h | skip)) | refine kp ?_ ?_ | refine tw ?_ ?_ | exact trivial | refine side2 ?_ | refine sideL2 ?_ | refine Or.inr ?_ | refine sat_drawH (Try.ok ..) (by kernel_rfl) ?_ | refine xi _ (And.intro rfl rfl) ?_ | refine xi _ (fun _ => And.intro rfl rfl) ?_ | refine xi _ rfl ?_)
  exact done_pure rfl rfl rfl
def whereI (n i : Nat) : Int := if i < n then i else -1
set_option maxRecDepth 100000 in
theorem index_any (l : List HRow) (A : Option (Nat × Nat)) (cap : Nat) (x : Fr) (g g6 : Nat) (w : World) (hA : Ro w A l.length 5 (rwL l)) (hr : rightH l = true) (hx : Big x) (hg : Ro w (some (g, 0)) 1 17 (frW x)) (h6 : Ro w (some (g6, 0)) 1 1 [.func (.func 45) #[] #[ptrV g]]) :
    Calls Try.prog 46 #[.slice (adr A) l.length cap, .func (.func 47) #[] #[ptrV g6]] w fun e w' => e = .returned (.int .i64 (whereI l.length (deepI l x))) ∧ Below w.heap.size w w' := by
  have h100 := (right_is hr).most
  refine calls_sat (cx := Try.cx 19 [] [] [] w) (Try.ok ..) Try.func46 rfl [.o 100 A l.length cap, .v (.func (.func 47) #[] #[ptrV g6])] rfl (by show 2 ≤ 19; omega) [(100, .ro A l.length 5 (rwL l)), (300, .ro (some (g, 0)) 1 17 (frW x)), (301, .ro (some (g6, 0)) 1 1 [.func (.func 45) #[] #[ptrV g]])] (holds_ros rfl rfl ⟨hA, hg, h6, trivial⟩) ?_
  repeat' ((conv => whnf); first | refine walk (Try.ok ..) ?_ | (refine Cnd.mk (fun h => ?_) (fun h => ?_) <;> (first | exact cndT h (by (try dsimp only); omega) | exact cndF h (by (try dsimp only); omega) | (exfalso; simp at h; omega) | simp at h | skip)) | refine kp ?_ ?_ | refine tw ?_ ?_ | exact trivial | refine side2 ?_ | refine sideL2 ?_ | refine Or.inr ?_ | refine sat_drawH (Try.ok ..) (by kernel_rfl) ?_ | refine xi _ (And.intro rfl rfl) ?_ | refine xi _ (fun _ => And.intro rfl rfl) ?_ | refine xi _ rfl ?_)
  refine sat_loop (Try.ok ..) (α := Nat) (fun k => ([(0, .yes, .o 100 A l.length cap), (1, .yes, .v (.func (.func 47) #[] #[ptrV g6])), (7, .yes, .v (.int .i64 l.length)), (8, .yes, .v (.int .i64 k))], [(100, .ro A l.length 5 (rwL l)), (300, .ro (some (g, 0)) 1 17 (frW x)), (301, .ro (some (g6, 0)) 1 1 [.func (.func 45) #[] #[ptrV g]])]))
    (fun k => k ≤ l.length ∧ ∀ (j : Nat) (c : HRow), j < k → l[j]? = some c → deepC x c < 0) (fun k => l.length - k) (fun _ => rfl) ?_ ?_
  · refine ⟨0, ⟨by omega, fun j c hj => absurd hj (Nat.not_lt_zero _)⟩, ?_, ?_, rfl⟩
    all_goals ((repeat' (first | exact trivial | exact rfl | refine And.intro ?_ ?_)) <;> (try (conv => whnf)) <;> (try simp only [SV.real, SV.r2, SV.r1]))
  rintro k ⟨hk, hno⟩
  by_cases hk1 : k < l.length
  case neg =>
    have hw : whereI l.length (deepI l x) = -1 := by
      unfold whereI
      rw [if_neg]
      have := deep_none (l := l) (x := x) (fun i c hc => hno i c (by have := (List.getElem?_eq_some_iff.1 hc).1; omega) hc)
      have h2 := List.getElem?_eq_none_iff.1 this
      omega
    rw [hw]
    repeat' ((conv => whnf); first | refine walk (Try.ok ..) ?_ | (refine Cnd.mk (fun h => ?_) (fun h => ?_) <;> (first | exact cndT h (by (try dsimp only); omega) | exact cndF h (by (try dsimp only); omega) | (exfalso; simp at h; omega) | simp at h | skip)) | refine kp ?_ ?_ | refine tw ?_ ?_ | exact trivial | refine side2 ?_ | refine sideL2 ?_ | refine Or.inr ?_ | refine sat_drawH (Try.ok ..) (by kernel_rfl) ?_ | refine xi _ (And.intro rfl rfl) ?_ | refine xi _ (fun _ => And.intro rfl rfl) ?_ | refine xi _ rfl ?_)
    exact done_pure rfl rfl rfl
  obtain ⟨r, hrk⟩ : ∃ a, l[k]? = some a := ⟨_, List.getElem?_eq_getElem hk1⟩
  obtain ⟨⟨_, _⟩, _, _, _, _⟩ := ok_row ((right_is hr).row _ r hrk)
  repeat' ((conv => whnf); first | refine walk (Try.ok ..) ?_ | (refine Cnd.mk (fun h => ?_) (fun h => ?_) <;> (first | exact cndT h (by (try dsimp only); omega) | exact cndF h (by (try dsimp only); omega) | (exfalso; simp at h; omega) | simp at h | skip)) | refine kp ?_ ?_ | refine tw ?_ ?_ | exact trivial | refine side2 ?_ | refine sideL2 ?_ | refine Or.inr ?_ | refine sat_drawH (Try.ok ..) (by kernel_rfl) ?_ | refine xi _ (And.intro rfl rfl) ?_ | refine xi _ (fun _ => And.intro rfl rfl) ?_ | refine xi _ rfl ?_ | refine xi _ (fun _ => (rw_cells hrk rfl)) ?_ | refine xi _ (rw_cells hrk rfl) ?_)
  (conv => whnf)
  refine called_at (.v (.bool (decide (0 ≤ deepC x r)))) rfl (fun w' hh => by exact deep_enough x r g g6 w' hx (by refine ⟨?_, ?_⟩ <;> omega) (ro_of_ro hh (id := 300) rfl) (ro_of_ro hh (id := 301) rfl)) ?_
  by_cases h0 : 0 ≤ deepC x r
  · have hw : whereI l.length (deepI l x) = k := by
      rw [deep_at hrk h0 hno]
      unfold whereI
      rw [if_pos hk1]
    rw [hw]
    repeat' ((conv => whnf); first | refine walk (Try.ok ..) ?_ | (refine Cnd.mk (fun h => ?_) (fun h => ?_) <;> (first | exact cndT h (by (try dsimp only); omega) | exact cndF h (by (try dsimp only); omega) | (exfalso; simp at h; omega) | simp at h | skip)) | refine kp ?_ ?_ | refine tw ?_ ?_ | exact trivial | refine side2 ?_ | refine sideL2 ?_ | refine Or.inr ?_ | refine sat_drawH (Try.ok ..) (by kernel_rfl) ?_ | refine xi _ (And.intro rfl rfl) ?_ | refine xi _ (fun _ => And.intro rfl rfl) ?_ | refine xi _ rfl ?_)
    exact done_pure rfl rfl rfl
  · repeat' ((conv => whnf); first | refine walk (Try.ok ..) ?_ | (refine Cnd.mk (fun h => ?_) (fun h => ?_) <;> (first | exact cndT h (by (try dsimp only); omega) | exact cndF h (by (try dsimp only); omega) | (exfalso; simp at h; omega) | simp at h | skip)) | refine kp ?_ ?_ | refine tw ?_ ?_ | exact trivial | refine side2 ?_ | refine sideL2 ?_ | refine Or.inr ?_ | refine sat_drawH (Try.ok ..) (by kernel_rfl) ?_ | refine xi _ (And.intro rfl rfl) ?_ | refine xi _ (fun _ => And.intro rfl rfl) ?_ | refine xi _ rfl ?_)
    refine ⟨k + 1, ⟨⟨by omega, fun i c hi hc => ?_⟩, by omega⟩, ?_, ?_, rfl⟩
    · rcases Nat.lt_or_eq_of_le (Nat.le_of_lt_succ hi) with h3 | h3
      · exact hno i c h3 hc
      · subst h3
        rw [hrk] at hc
        cases hc
        omega
    all_goals ((repeat' (first | exact trivial | exact rfl | refine And.intro ?_ ?_)) <;> (try (conv => whnf)) <;> (try simp only [SV.real, SV.r2, SV.r1]))
end Go.Proofs.Ytomhfakkebaciaa
