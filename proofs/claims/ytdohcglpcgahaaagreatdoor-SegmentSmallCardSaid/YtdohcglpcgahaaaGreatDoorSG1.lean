/-
  The walk of Right.
-/
import Derived.Test.YtdohcglpcgahaaaGreatDoorSR1
import Derived.Test.YtdohcglpcgahaaaGreatDoorSA
import Derived.Test.YtdohcglpcgahaaaGreatDoorWFX
set_option linter.unusedSimpArgs false
set_option linter.unusedVariables false
namespace Go.Proofs.YtdohcglpcgahaaaGreatDoor
open Go Sat Go.RowKit Go.PlainAid
def rightG (s : Sg) : Bool := tagB s.1 && rightS ([s.1] :: s.2)
def rightM (m : Msg) : Bool := kindB m.kind && refB m.ref && m.segs.all rightG
/-- bounds for segments that are asked about -/
structure FewG (s : Sg) : Prop where
  tag : s.1.size ≤ 9223372036854775807
  dat : s.2.length * 24 ≤ 140737488351232
set_option maxRecDepth 100000 in
set_option maxHeartbeats 8000000 in
theorem right1_any (s : Sg) (v : Value) (w : World) (hA : NSA w (fun _ => True) v s.2) (hf : FewG s) :
    Calls Tryz.prog 40 #[.agg #[.string s.1, v]] w fun e w' => e = .returned (.bool (!rightG s)) ∧ Below w.heap.size w w' := by
  obtain ⟨a0, n0, c0, hv⟩ : ∃ a n c, v = .slice a n c := by
    obtain ⟨a, A, cap, xs, hv, -⟩ := hA
    exact ⟨_, _, _, hv⟩
  subst hv
  refine calls_sat (cx := Tryz.cx 16 [] [] [] w) (Tryz.ok ..) Tryz.func40 rfl [.a [.v (.string s.1), .v (.slice a0 n0 c0)]] rfl (by show 1 ≤ 16; omega) [] (holds_nil (Nat.le_refl _)) ?_
  repeat' ((conv => whnf); first | refine walk (Tryz.ok ..) ?_ | fail)
  (conv => whnf)
  intro g1 hg1
  repeat' ((conv => whnf); first | refine walk (Tryz.ok ..) ?_ | refine side2 ?_ | refine xi _ (And.intro rfl rfl) ?_ | fail)
  (conv => whnf)
  refine called_at (.v (.bool (tagB s.1))) rfl (fun w' hh => by exact tag_any s.1 w' hf.tag) ?_
  cases ht : tagB s.1 with
  | true =>
    rw [show rightG s = rightS ([s.1] :: s.2) from by unfold rightG; rw [ht]; rfl]
    repeat' ((conv => whnf); first | refine side2 ?_ | (with_reducible refine Or.inr (Cnd.mk (fun _ => ?_) (fun h => absurd h (by simp)))) | refine xi _ (fun _ => And.intro rfl rfl) ?_ | fail)
    (conv => whnf)
    refine called_nestK 70 (mk := id) (Q := fun w' B v => NSA w' (fun g => B g ∨ g < w.heap.size) v ([s.1] :: s.2)) (fun v => .v v) (fun _ => rfl) (fun w' hh => ?_) ?_
    · exact rowa_any s.1 s.2 _ w' _ (lent_low nsa_stays nsa_narrow rfl rfl hA hh) hf.dat
    intro w4 gs4 v4 h4 hw4
    obtain ⟨a4, n4, c4, hv4⟩ : ∃ a n c, v4 = .slice a n c := by
      obtain ⟨a, A, cap, xs, hv, -⟩ := h4
      exact ⟨_, _, _, hv⟩
    subst hv4
    repeat' ((conv => whnf); first | (refine Cnd.mk (fun h => ?_) (fun h => ?_) <;> (first | exact cndT h (by (try dsimp only); omega) | exact cndF h (by (try dsimp only); omega) | (exfalso; simp at h; omega) | simp at h | skip)) | refine Or.inr ?_ | fail)
    (conv => whnf)
    refine called_at (.v (.bool (rightS ([s.1] :: s.2)))) rfl (fun w' hh => by exact right_anyA _ _ w' (mix_nest nsa_stays rfl h4 hw4 (d := 70) rfl hh _ (fun _ _ => trivial))) ?_
    repeat' ((conv => whnf); first | refine walk (Tryz.ok ..) ?_ | refine side2 ?_ | fail)
    exact done_pure rfl rfl (by simp [SV.real, SV.r2, SV.r1])
  | false =>
    rw [show rightG s = false from by unfold rightG; rw [ht]; rfl]
    repeat' ((conv => whnf); first | refine side2 ?_ | refine sideL2 ?_ | refine xi _ (fun _ => And.intro rfl rfl) ?_ | fail)
    (conv => whnf)
    refine calledQ_at (.v (.bool false)) rfl (fun h _ _ => absurd h Bool.false_ne_true) ?_
    repeat' ((conv => whnf); first | refine sideL2 ?_ | fail)
    (conv => whnf)
    refine calledQ_at (.v (.bool false)) rfl (fun h _ _ => absurd h Bool.false_ne_true) ?_
    repeat' ((conv => whnf); first | refine walk (Tryz.ok ..) ?_ | refine side2 ?_ | fail)
    exact done_pure rfl rfl rfl
/-- all cells of an element of what is lent -/
theorem ro_aggz {cx : Cx} {A : Option (Nat × Nat)} {n z : Nat} {xs : List Value} {k i : Nat} {cs : List Value} (hM : cx.M = []) (hn : cx.n0 = cx.W.heap.size) (h : Ro cx.W A n z xs) (hc : cut1 xs z i = cs) (hl : cs.length = z) (hk : k = i * z) (hi : i < n) : ∀ {H : Heap}, cs.length = z ∧ ∀ w, Holds cx H w → ∀ (j : Nat) (u : Value), cs[j]? = some u → w.cell? ((adAt (adr A) k).add j) = some u := by
  intro H
  refine ⟨hl, fun w hw j u hu => ?_⟩
  have hj : j < z := by rw [← hl]; exact (List.getElem?_eq_some_iff.1 hu).1
  have hx : xs[k + j]? = some u := by rw [hk, cut1_at hc (by omega), hu]
  obtain ⟨p, rfl, hlt, hcell⟩ := h.2 (by omega)
  rw [← hcell (k + j) u hx, ad_some, add_mk]
  rw [Nat.add_assoc]
  exact World.cell?_of_block (hw.keep.block p.1 (by omega) (by rw [hM]; simp))
def firstBad (l : List Sg) : Int := if l.all rightG = true then -1 else (l.findIdx (fun s => !rightG s) : Nat)
theorem firstBad_at {l : List Sg} {k : Nat} {s : Sg} (h : (l.take k).all rightG = true) (hs : l[k]? = some s) (hb : rightG s = false) : firstBad l = k := by
  have hk := (List.getElem?_eq_some_iff.1 hs).1
  unfold firstBad
  rw [if_neg (by rw [all_no hs hb]; simp)]
  congr 1
  rw [List.findIdx_eq hk]
  refine ⟨?_, fun j hj => ?_⟩
  · rw [(List.getElem?_eq_some_iff.1 hs).2, hb]
    rfl
  · have := List.all_eq_true.1 h (l[j]'(by omega)) (List.mem_iff_getElem.2 ⟨j, by rw [List.length_take]; omega, by rw [List.getElem_take]⟩)
    rw [this]
    rfl
set_option maxRecDepth 100000 in
set_option maxHeartbeats 8000000 in
theorem index_any (l : List Sg) (v : Value) (w : World) (hA : NSegs NSA w (fun _ => True) v l) (hf : ∀ s ∈ l, FewG s) :
    Calls Tryz.prog 69 #[v, .func (.func 40) #[] #[]] w fun e w' => e = .returned (.int .i64 (firstBad l)) ∧ Below w.heap.size w w' := by
  obtain ⟨A', A, cA, xs, rfl, aA, hcA, hrA, -, hxA⟩ := hA
  refine calls_sat (cx := Tryz.cx 19 [] [] [] w) (Tryz.ok ..) Tryz.func69 rfl [.v (.slice A' l.length cA), .v (.func (.func 40) #[] #[])] rfl (by show 2 ≤ 19; omega) [] (holds_nil (Nat.le_refl _)) ?_
  have hmax : l.length ≤ 9223372036854775807 := Nat.le_trans (Nat.le_trans hcA.1 hcA.2) (by decide)
  repeat' ((conv => whnf); first | refine walk (Tryz.ok ..) ?_ | fail)
  refine sat_loop (Tryz.ok ..) (α := Nat) (fun i => ([(0, .yes, .v (.slice A' l.length cA)), (1, .yes, .v (.func (.func 40) #[] #[])), (7, .yes, .v (.int .i64 l.length)), (8, .yes, .v (.int .i64 i))], []))
    (fun k => k ≤ l.length ∧ (l.take k).all rightG = true) (fun k => l.length - k) (fun _ => rfl) ?_ ?_
  · refine ⟨0, ⟨Nat.zero_le _, by simp⟩, ?_, ?_, rfl⟩
    all_goals ((repeat' (first | exact trivial | exact rfl | refine And.intro ?_ ?_)) <;> (try (conv => whnf)) <;> (try simp only [SV.real, SV.r2, SV.r1]))
  rintro i ⟨hi, he⟩
  by_cases hi1 : i < l.length
  · obtain ⟨s, hs⟩ : ∃ s, l[i]? = some s := ⟨_, List.getElem?_eq_getElem hi1⟩
    obtain ⟨vd, hcs, hd⟩ := hxA i s hs
    obtain ⟨p, rfl, rfl⟩ := some_ofz aA hrA (by omega)
    repeat' ((conv => whnf); first | refine walk (Tryz.ok ..) ?_ | (refine Cnd.mk (fun h => ?_) (fun h => ?_) <;> (first | exact cndT h (by (try dsimp only); omega) | exact cndF h (by (try dsimp only); omega) | (exfalso; simp at h; omega) | simp at h | skip)) | refine side2 ?_ | refine xi _ (ro_aggz rfl rfl hrA hcs rfl (by rw [mulS_eq, Int.toNat_natCast]) hi1) ?_ | fail)
    (conv => whnf)
    refine called_at (.v (.bool (!rightG s))) rfl (fun w' hh => by exact right1_any s vd w' (lent_nest nsa_stays rfl rfl hd hh) (hf s (List.mem_of_getElem? hs))) ?_
    cases hr : rightG s with
    | true =>
      repeat' ((conv => whnf); first | refine walk (Tryz.ok ..) ?_ | (refine Cnd.mk (fun h => ?_) (fun h => ?_) <;> (first | exact cndT h (by (try dsimp only); omega) | exact cndF h (by (try dsimp only); omega) | (exfalso; simp at h; omega) | simp at h | skip)) | refine sideL2 ?_ | fail)
      refine ⟨i + 1, ⟨⟨hi1, all_step he hs hr⟩, by omega⟩, ?_, ?_, rfl⟩
      all_goals ((repeat' (first | exact trivial | exact rfl | refine And.intro ?_ ?_)) <;> (try (conv => whnf)) <;> (try simp only [SV.real, SV.r2, SV.r1]))
    | false =>
      rw [firstBad_at he hs hr]
      repeat' ((conv => whnf); first | refine walk (Tryz.ok ..) ?_ | (refine Cnd.mk (fun h => ?_) (fun h => ?_) <;> (first | exact cndT h (by (try dsimp only); omega) | exact cndF h (by (try dsimp only); omega) | (exfalso; simp at h; omega) | simp at h | skip)) | fail)
      exact done_pure rfl rfl rfl
  · obtain rfl : i = l.length := by omega
    rw [List.take_length] at he
    rw [show firstBad l = -1 from by unfold firstBad; rw [if_pos he]]
    repeat' ((conv => whnf); first | refine walk (Tryz.ok ..) ?_ | (refine Cnd.mk (fun h => ?_) (fun h => ?_) <;> (first | exact cndT h (by (try dsimp only); omega) | exact cndF h (by (try dsimp only); omega) | (exfalso; simp at h; omega) | simp at h | skip)) | fail)
    exact done_pure rfl rfl rfl
theorem firstBad_nn (l : List Sg) : decide (0 ≤ firstBad l) = !l.all rightG := by
  unfold firstBad
  cases h : l.all rightG with
  | true => simp
  | false => simp
set_option maxRecDepth 100000 in
set_option maxHeartbeats 8000000 in
theorem contains_any (l : List Sg) (v : Value) (w : World) (hA : NSegs NSA w (fun _ => True) v l) (hf : ∀ s ∈ l, FewG s) :
    Calls Tryz.prog 39 #[v, .func (.func 40) #[] #[]] w fun e w' => e = .returned (.bool (!l.all rightG)) ∧ Below w.heap.size w w' := by
  obtain ⟨a0, n0, c0, hv⟩ : ∃ a n c, v = .slice a n c := by
    obtain ⟨a, A, cap, xs, hv, -⟩ := hA
    exact ⟨_, _, _, hv⟩
  subst hv
  refine calls_sat (cx := Tryz.cx 9 [] [] [] w) (Tryz.ok ..) Tryz.func39 rfl [.v (.slice a0 n0 c0), .v (.func (.func 40) #[] #[])] rfl (by show 2 ≤ 9; omega) [] (holds_nil (Nat.le_refl _)) ?_
  repeat' ((conv => whnf); first | refine walk (Tryz.ok ..) ?_ | fail)
  (conv => whnf)
  refine called_at (.v (.int .i64 (firstBad l))) rfl (fun w' hh => by exact index_any l _ w' (lent_nest (nsegs_stays nsa_stays) rfl rfl hA hh) hf) ?_
  repeat' ((conv => whnf); first | refine walk (Tryz.ok ..) ?_ | fail)
  refine done_pure rfl rfl ?_
  rw [← firstBad_nn]
  rfl
/-- bounds for a message that is asked about -/
structure FewM (m : Msg) : Prop where
  kind : m.kind.size ≤ 9223372036854775807
  ref : m.ref.size ≤ 9223372036854775807
  seg : ∀ s ∈ m.segs, FewG s
set_option maxRecDepth 100000 in
set_option maxHeartbeats 8000000 in
theorem rightm_any (m : Msg) (v : Value) (w : World) (hA : NSegs NSA w (fun _ => True) v m.segs) (hf : FewM m) :
    Calls Tryz.prog 17 #[.agg #[.string m.kind, .string m.ref, v]] w fun e w' => e = .returned (.bool (rightM m)) ∧ Below w.heap.size w w' := by
  obtain ⟨a0, n0, c0, hv⟩ : ∃ a n c, v = .slice a n c := by
    obtain ⟨a, A, cap, xs, hv, -⟩ := hA
    exact ⟨_, _, _, hv⟩
  subst hv
  refine calls_sat (cx := Tryz.cx 17 [] [] [] w) (Tryz.ok ..) Tryz.func17 rfl [.a [.v (.string m.kind), .v (.string m.ref), .v (.slice a0 n0 c0)]] rfl (by show 1 ≤ 17; omega) [] (holds_nil (Nat.le_refl _)) ?_
  repeat' ((conv => whnf); first | refine walk (Tryz.ok ..) ?_ | fail)
  (conv => whnf)
  intro g1 hg1
  repeat' ((conv => whnf); first | refine walk (Tryz.ok ..) ?_ | refine side2 ?_ | refine xi _ (And.intro rfl rfl) ?_ | fail)
  (conv => whnf)
  refine called_at (.v (.bool (kindB m.kind))) rfl (fun w' hh => by exact kind_any m.kind w' hf.kind) ?_
  repeat' ((conv => whnf); first | refine side2 ?_ | refine sideL2 ?_ | refine xi _ (fun _ => And.intro rfl rfl) ?_ | fail)
  (conv => whnf)
  refine calledQ_at (.v (.bool (refB m.ref))) rfl (fun _ w' hh => by exact reference_any m.ref w' hf.ref) ?_
  repeat' ((conv => whnf); first | refine side2 ?_ | refine sideL2 ?_ | refine xi _ (fun _ => And.intro rfl rfl) ?_ | fail)
  (conv => whnf)
  refine calledQ_at (.v (.bool (!m.segs.all rightG))) rfl (fun _ w' hh => by exact contains_any m.segs _ w' (lent_nest (nsegs_stays nsa_stays) rfl rfl hA hh) hf.seg) ?_
  repeat' ((conv => whnf); first | refine walk (Tryz.ok ..) ?_ | refine side2 ?_ | fail)
  refine done_pure rfl rfl ?_
  simp [SV.real, SV.r2, SV.r1, rightM, Bool.and_assoc]
end Go.Proofs.YtdohcglpcgahaaaGreatDoor
