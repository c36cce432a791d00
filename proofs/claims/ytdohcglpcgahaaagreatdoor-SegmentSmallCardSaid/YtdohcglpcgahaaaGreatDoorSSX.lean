/-
  The walks of single and kinds; strings.Clone. What Read of package segment makes of a text, segment by segment. No program in sight.
-/
import Derived.Test.YtdohcglpcgahaaaGreatDoorSWX
import Derived.Test.YtdohcglpcgahaaaGreatDoorW6
set_option linter.unusedSimpArgs false
set_option linter.unusedVariables false
namespace Go.Proofs.YtdohcglpcgahaaaGreatDoor
section
open Go Sat Go.RowKit Go.PlainAid
def oneB (e : Elem) : Bool := decide (e.length = 1)
def singleB (d : Dat) : Bool := decide (d.length = 3) && d.all oneB
def firstNot (l : Dat) : Int := if l.all oneB = true then -1 else (l.findIdx (fun s => !oneB s) : Nat)
theorem firstNot_at {l : Dat} {k : Nat} {s : Elem} (h : (l.take k).all oneB = true) (hs : l[k]? = some s) (hb : oneB s = false) : firstNot l = k := by
  have hk := (List.getElem?_eq_some_iff.1 hs).1
  unfold firstNot
  rw [if_neg (by rw [all_no hs hb]; simp)]
  congr 1
  rw [List.findIdx_eq hk]
  refine ⟨?_, fun j hj => ?_⟩
  · rw [(List.getElem?_eq_some_iff.1 hs).2, hb]
    rfl
  · have := List.all_eq_true.1 h (l[j]'(by omega)) (List.mem_iff_getElem.2 ⟨j, by rw [List.length_take]; omega, by rw [List.getElem_take]⟩)
    rw [this]
    rfl
theorem firstNot_nn (l : Dat) : decide (0 ≤ firstNot l) = !l.all oneB := by
  unfold firstNot
  cases h : l.all oneB with
  | true => simp
  | false => simp
set_option maxRecDepth 100000 in
set_option maxHeartbeats 8000000 in
theorem single1_any (e : Elem) (v : Value) (w : World) (hA : NEA w (fun _ => True) v e) :
    Calls Tryz.prog 97 #[v] w fun r w' => r = .returned (.bool (!oneB e)) ∧ Below w.heap.size w w' := by
  obtain ⟨A', A, cA, rfl, aA, hcA, hA, -⟩ := nea_row hA
  refine calls_sat (cx := Tryz.cx 6 [] [] [] w) (Tryz.ok ..) Tryz.func97 rfl [.v (.slice A' e.length cA)] rfl (by show 1 ≤ 6; omega) [] (holds_nil (Nat.le_refl _)) ?_
  repeat' ((conv => whnf); first | refine walk (Tryz.ok ..) ?_ | fail)
  refine done_pure rfl rfl ?_
  unfold oneB
  simp only [SV.real, SV.r2, SV.r1]
  congr 1
  rw [Bool.eq_iff_iff]
  simp
  omega
set_option maxRecDepth 100000 in
set_option maxHeartbeats 8000000 in
theorem index1_any (l : Dat) (v : Value) (w : World) (hA : NSA w (fun _ => True) v l) :
    Calls Tryz.prog 106 #[v, .func (.func 97) #[] #[]] w fun e w' => e = .returned (.int .i64 (firstNot l)) ∧ Below w.heap.size w w' := by
  obtain ⟨A', A, cA, xs, rfl, aA, hcA, hrA, -, hxA⟩ := hA
  refine calls_sat (cx := Tryz.cx 19 [] [] [] w) (Tryz.ok ..) Tryz.func106 rfl [.v (.slice A' l.length cA), .v (.func (.func 97) #[] #[])] rfl (by show 2 ≤ 19; omega) [] (holds_nil (Nat.le_refl _)) ?_
  have hmax : l.length ≤ 9223372036854775807 := Nat.le_trans (Nat.le_trans hcA.1 hcA.2) (by decide)
  repeat' ((conv => whnf); first | refine walk (Tryz.ok ..) ?_ | fail)
  refine sat_loop (Tryz.ok ..) (α := Nat) (fun i => ([(0, .yes, .v (.slice A' l.length cA)), (1, .yes, .v (.func (.func 97) #[] #[])), (7, .yes, .v (.int .i64 l.length)), (8, .yes, .v (.int .i64 i))], []))
    (fun k => k ≤ l.length ∧ (l.take k).all oneB = true) (fun k => l.length - k) (fun _ => rfl) ?_ ?_
  · refine ⟨0, ⟨Nat.zero_le _, by simp⟩, ?_, ?_, rfl⟩
    all_goals ((repeat' (first | exact trivial | exact rfl | refine And.intro ?_ ?_)) <;> (try (conv => whnf)) <;> (try simp only [SV.real, SV.r2, SV.r1]))
  rintro i ⟨hi, he⟩
  by_cases hi1 : i < l.length
  · obtain ⟨s, hs⟩ : ∃ s, l[i]? = some s := ⟨_, List.getElem?_eq_getElem hi1⟩
    obtain ⟨x, hx, hne⟩ := nest_at hxA hrA.1 hs
    obtain ⟨p, rfl, rfl⟩ := some_of aA hrA (by omega)
    repeat' ((conv => whnf); first | refine walk (Tryz.ok ..) ?_ | (refine Cnd.mk (fun h => ?_) (fun h => ?_) <;> (first | exact cndT h (by (try dsimp only); omega) | exact cndF h (by (try dsimp only); omega) | (exfalso; simp at h; omega) | simp at h | skip)) | refine side2 ?_ | refine xi _ (ro_at rfl rfl hrA hx rfl) ?_ | fail)
    (conv => whnf)
    refine called_at (.v (.bool (!oneB s))) rfl (fun w' hh => by exact single1_any s x w' (lent_nest nea_stays rfl rfl hne hh)) ?_
    cases hr : oneB s with
    | true =>
      repeat' ((conv => whnf); first | refine walk (Tryz.ok ..) ?_ | (refine Cnd.mk (fun h => ?_) (fun h => ?_) <;> (first | exact cndT h (by (try dsimp only); omega) | exact cndF h (by (try dsimp only); omega) | (exfalso; simp at h; omega) | simp at h | skip)) | refine sideL2 ?_ | fail)
      refine ⟨i + 1, ⟨⟨hi1, all_step he hs hr⟩, by omega⟩, ?_, ?_, rfl⟩
      all_goals ((repeat' (first | exact trivial | exact rfl | refine And.intro ?_ ?_)) <;> (try (conv => whnf)) <;> (try simp only [SV.real, SV.r2, SV.r1]))
    | false =>
      rw [firstNot_at he hs hr]
      repeat' ((conv => whnf); first | refine walk (Tryz.ok ..) ?_ | (refine Cnd.mk (fun h => ?_) (fun h => ?_) <;> (first | exact cndT h (by (try dsimp only); omega) | exact cndF h (by (try dsimp only); omega) | (exfalso; simp at h; omega) | simp at h | skip)) | fail)
      exact done_pure rfl rfl rfl
  · obtain rfl : i = l.length := by omega
    rw [List.take_length] at he
    rw [show firstNot l = -1 from by unfold firstNot; rw [if_pos he]]
    repeat' ((conv => whnf); first | refine walk (Tryz.ok ..) ?_ | (refine Cnd.mk (fun h => ?_) (fun h => ?_) <;> (first | exact cndT h (by (try dsimp only); omega) | exact cndF h (by (try dsimp only); omega) | (exfalso; simp at h; omega) | simp at h | skip)) | fail)
    exact done_pure rfl rfl rfl
set_option maxRecDepth 100000 in
set_option maxHeartbeats 8000000 in
theorem contains1_any (l : Dat) (v : Value) (w : World) (hA : NSA w (fun _ => True) v l) :
    Calls Tryz.prog 96 #[v, .func (.func 97) #[] #[]] w fun e w' => e = .returned (.bool (!l.all oneB)) ∧ Below w.heap.size w w' := by
  obtain ⟨a0, n0, c0, hv⟩ : ∃ a n c, v = .slice a n c := by
    obtain ⟨a, A, cap, xs, hv, -⟩ := hA
    exact ⟨_, _, _, hv⟩
  subst hv
  refine calls_sat (cx := Tryz.cx 9 [] [] [] w) (Tryz.ok ..) Tryz.func96 rfl [.v (.slice a0 n0 c0), .v (.func (.func 97) #[] #[])] rfl (by show 2 ≤ 9; omega) [] (holds_nil (Nat.le_refl _)) ?_
  repeat' ((conv => whnf); first | refine walk (Tryz.ok ..) ?_ | fail)
  (conv => whnf)
  refine called_at (.v (.int .i64 (firstNot l))) rfl (fun w' hh => by exact index1_any l _ w' (lent_nest nsa_stays rfl rfl hA hh)) ?_
  repeat' ((conv => whnf); first | refine walk (Tryz.ok ..) ?_ | fail)
  refine done_pure rfl rfl ?_
  rw [← firstNot_nn]
  rfl
set_option maxRecDepth 100000 in
set_option maxHeartbeats 8000000 in
theorem single_any (l : Dat) (v : Value) (w : World) (hA : NSA w (fun _ => True) v l) :
    Calls Tryz.prog 81 #[v] w fun e w' => e = .returned (.bool (singleB l)) ∧ Below w.heap.size w w' := by
  have hA0 := hA
  obtain ⟨A', A, cA, xs, rfl, aA, hcA, hrA, -, hxA⟩ := hA0
  refine calls_sat (cx := Tryz.cx 11 [] [] [] w) (Tryz.ok ..) Tryz.func81 rfl [.v (.slice A' l.length cA)] rfl (by show 1 ≤ 11; omega) [] (holds_nil (Nat.le_refl _)) ?_
  repeat' ((conv => whnf); first | refine walk (Tryz.ok ..) ?_ | refine sideL2 ?_ | fail)
  (conv => whnf)
  refine calledQ_at (.v (.bool (!l.all oneB))) rfl (fun _ w' hh => by exact contains1_any l _ w' (lent_nest nsa_stays rfl rfl hA hh)) ?_
  repeat' ((conv => whnf); first | refine walk (Tryz.ok ..) ?_ | refine side2 ?_ | fail)
  refine done_pure rfl rfl ?_
  simp only [SV.real, SV.r2, SV.r1, singleB, Bool.not_not]
  congr 2
  rw [Bool.eq_iff_iff]
  simp
  omega
theorem hdel_hdel : ∀ (H : Heap) (d : Nat), hdel (hdel H d) d = hdel H d
  | [], _ => rfl
  | (i, h) :: H, d => by
    cases hb : Nat.beq i d with
    | true =>
      have e : hdel ((i, h) :: H) d = hdel H d := by rw [hdel, hb]; rfl
      rw [e, hdel_hdel H d]
    | false =>
      have e : ∀ L : Heap, hdel ((i, h) :: L) d = (i, h) :: hdel L d := fun L => by rw [hdel, hb]; rfl
      rw [e, e, hdel_hdel H d]
def kindsV : ByteArray → Option Value := fun t => if t = endS then some (.func (.func 60) #[] #[]) else if t = hedS then some (.func (.func 59) #[] #[]) else none
set_option maxRecDepth 100000 in
set_option maxHeartbeats 8000000 in
theorem kinds_called {N n0 : Nat} {SR SC : List Nat} {W : World} {H : Heap} {K : SV → Heap → Prop} (hk : ∀ g, n0 ≤ g → K (.v (.map (some g))) ((1, HBm g kindsV) :: hdel H 1)) : Called (Tryz.cxg N [] [] [] n0 [] W) 30 [] H K := by
  refine called_in (Tryz.ok ..) Tryz.func30 rfl (by show 0 ≤ 3; omega) ?_
  repeat' ((conv => whnf); first | refine walk (Tryz.ok ..) ?_ | fail)
  (conv => whnf)
  refine other_make fun g hg => ?_
  skip
  (conv => whnf)
  refine other_update 1 (.inr rfl) Tryz.underlying74 Tryz.underlying9 rfl rfl rfl rfl ?_
  skip
  (conv => whnf)
  refine other_update 1 (.inr rfl) Tryz.underlying74 Tryz.underlying9 rfl rfl rfl rfl ?_
  repeat' ((conv => whnf); first | refine walk (Tryz.ok ..) ?_ | fail)
  have e : hdel (hdel (hdel H 1) 1) 1 = hdel H 1 := by rw [hdel_hdel, hdel_hdel]
  refine done_in ?_
  show K _ ((1, _) :: hdel (hdel (hdel H 1) 1) 1)
  rw [e]
  exact hk g hg
set_option maxRecDepth 100000 in
set_option maxHeartbeats 8000000 in
theorem cloneS_any (s : ByteArray) (w : World) (hs : s.size ≤ 281474976710656) :
    Calls Tryz.prog 58 #[.string s] w fun e w' => e = .returned (.string s) ∧ Below w.heap.size w w' := by
  refine calls_sat (cx := Tryz.cx 5 [] [] [] w) (Tryz.ok ..) Tryz.func58 rfl [.v (.string s)] rfl (by show 1 ≤ 5; omega) [] (holds_nil (Nat.le_refl _)) ?_
  repeat' ((conv => whnf); first | refine walk (Tryz.ok ..) ?_ | fail)
  (conv => whnf)
  refine called_at (.v (.string s)) rfl (fun w' hh => by exact Tryz.stringslite_Clone s w' hs) ?_
  repeat' ((conv => whnf); first | refine walk (Tryz.ok ..) ?_ | fail)
  exact done_pure rfl rfl rfl
end
section
open Go Sat Go.RowKit Go.PlainAid
structure Rst where
  opn : Bool
  kind : ByteArray
  ref : ByteArray
  segs : List Sg
  met : List ByteArray
  out : List Msg
def rst0 : Rst := ⟨false, emp, emp, [], [], []⟩
def Rst.msg (r : Rst) : Msg := ⟨r.kind, r.ref, r.segs⟩
def at2 (d : Dat) (i : Nat) : ByteArray := ((d[i]?).bind (·[0]?)).getD emp
abbrev StepG := Except Int Rst
def headG (r : Rst) (d : Dat) : StepG :=
  if r.opn = true ∨ singleB d = false ∨ refB (at2 d 1) = false ∨ kindB (at2 d 2) = false then .error 51
  else if at2 d 1 ∈ r.met then .error 53
  else .ok { r with opn := true, kind := at2 d 2, ref := at2 d 1, segs := [], met := at2 d 1 :: r.met }
def endG (r : Rst) (d : Dat) : StepG :=
  if r.opn = false then .error 51
  else if singleB d = false ∨ at2 d 1 ≠ itB (r.segs.length + 2) ∨ at2 d 2 ≠ r.ref then .error 52
  else .ok { r with opn := false, out := r.out ++ [r.msg] }
def firstB (d : Dat) : Bool := match d with
  | e :: _ => oneB e
  | [] => false
def otherG (r : Rst) (d : Dat) : StepG :=
  if r.opn = false then .error 51
  else if firstB d = false ∨ tagB (at2 d 0) = false then .error 50
  else .ok { r with segs := r.segs ++ [(at2 d 0, d.tail)] }
def stepG (r : Rst) (d : Dat) : StepG :=
  if firstB d = true ∧ at2 d 0 = hedS then headG r d
  else if firstB d = true ∧ at2 d 0 = endS then endG r d
  else otherG r d
def runG : List Segm → Nat → Rst → List Msg × Int × Int
  | [], i, r => if r.opn = true then ([], i, 52) else (r.out, 0, 0)
  | s :: l, i, r => match stepG r (trimS s) with
    | .error e => ([], i, e)
    | .ok r' => runG l (i + 1) r'
def readG (l : List UInt8) : List Msg × Int × Int := if (readE l).2.2 = 0 then runG (readE l).1 0 rst0 else ([], (readE l).2.1, (readE l).2.2)
theorem at2_at {d : Dat} {i : Nat} {e : Elem} {s : ByteArray} (h : d[i]? = some e) (hs : e[0]? = some s) : at2 d i = s := by
  unfold at2
  rw [h]
  simp [hs]
theorem single_at {d : Dat} (h : singleB d = true) {i : Nat} (hi : i < 3) : ∃ e, d[i]? = some e ∧ e = [at2 d i] ∧ d.length = 3 := by
  unfold singleB at h
  rw [Bool.and_eq_true, decide_eq_true_eq] at h
  obtain ⟨h1, h2⟩ := h
  refine ⟨d[i]'(by omega), List.getElem?_eq_getElem _, ?_, h1⟩
  have h3 := List.all_eq_true.1 h2 d[i] (List.getElem_mem _)
  unfold oneB at h3
  rw [decide_eq_true_eq] at h3
  obtain ⟨s, hs⟩ := List.length_eq_one_iff.1 h3
  have : at2 d i = s := at2_at (List.getElem?_eq_getElem (by omega)) (by rw [hs]; rfl)
  rw [this, hs]
end
end Go.Proofs.YtdohcglpcgahaaaGreatDoor
