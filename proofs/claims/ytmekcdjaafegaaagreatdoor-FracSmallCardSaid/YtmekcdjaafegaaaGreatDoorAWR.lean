/-
  The region that lays the examples' map, in any order: what has come, and each step.
-/
import Derived.Test.YtmekcdjaafegaaaGreatDoorAWP
namespace Go.Proofs.YtmekcdjaafegaaaGreatDoor
open Go Sat Go.RowKit Go.PlainAid
set_option linter.unusedSimpArgs false
set_option linter.unusedVariables false
def repT : ByteArray := ⟨(List.replicate 78 48).toArray⟩
structure Rm (listed : Array Bool) (f : Env) (H : Heap) (g : Nat) (es : Array MapEntry) : Prop where
  at_ : find f 114 = some (.yes, .v (.map (some g)))
  obj : hfind H 114 = some (HBo g (.map es es.size))
  ent : Ent listed es
  mv : listed.getD 11 true = true → find f 117 = some (.yes, .v (.map (some g)))
  it : listed.getD 12 true = true → ∃ g2, find f 118 = some (.yes, .v (.pointer (some ⟨g2, 0, none⟩))) ∧ hfind H 118 = some (HBo g2 (.mapIter (some g) es.size #[] es.size))
structure RI (listed : Array Bool) (f : Env) (H : Heap) : Prop where
  size : listed.size = 13
  marks : marksOf 143 f = []
  rep : listed.getD 8 true = true → find f 115 = some (.yes, .v (.string repT))
  lng : listed.getD 9 true = true → find f 116 = some (.yes, .v (.string longT))
  late : listed.getD 11 true = true → ∀ i, okI i → listed.getD i true = true
  late2 : listed.getD 12 true = true → listed.getD 11 true = true
  need : ∀ i, 1 ≤ i → i ≠ 8 → i ≠ 9 → i ≤ 12 → listed.getD i true = true → listed.getD 0 true = true
  map : listed.getD 0 true = true → ∃ g es, Rm listed f H g es
theorem getD_ne {l : Array Bool} {i j : Nat} (h : i ≠ j) : (l.setIfInBounds j true).getD i true = l.getD i true := by
  obtain ⟨l⟩ := l
  by_cases hi : i < l.length
  · simp [Array.getD, hi, List.getElem_set_ne (Ne.symm h)]
  · simp [Array.getD, hi]
theorem ev_tmp {f : Env} {t : Nat} {v : SV} {K : SV → Prop} (h : find f t = some (.yes, v)) (hk : K v) : ev f .yes (.tmp t) K := by
  unfold ev
  dsimp only
  rw [h]
  exact hk
theorem hfind_off {H : Heap} {i j : Nat} (h : i ≠ j) : hfind (hdel H j) i = hfind H i := by
  induction H with
  | nil => rfl
  | cons e H ih =>
    obtain ⟨k, b⟩ := e
    unfold hdel
    by_cases hk : k = j
    · subst hk
      rw [show Nat.beq k k = true from Nat.beq_refl k]
      show hfind (hdel H k) i = bif Nat.beq k i then some b else hfind H i
      rw [ih, show Nat.beq k i = false from by rw [← Bool.not_eq_true]; intro e; exact h (Nat.eq_of_beq_eq_true e).symm]
      rfl
    · rw [show Nat.beq k j = false from by rw [← Bool.not_eq_true]; intro e; exact hk (Nat.eq_of_beq_eq_true e)]
      show (bif Nat.beq k i then some b else hfind (hdel H j) i) = bif Nat.beq k i then some b else hfind H i
      rw [ih]
theorem ri_insert {cx : Cx} {listed : Array Bool} {f : Env} {H : Heap} (h : RI listed f H) {t kt et i : Nat} (ht : cx.P.underlying t = some (.map kt et)) (hkt : cx.P.underlying kt = some .string) (hi : okI i) (hn : listed.getD i true = false) (h0 : listed.getD 0 true = true)
    {k v : Operand} (hk : ev f .yes k (fun u => u = .v (.string (keyT i)))) (hv : ev f .yes v (fun u => u = .v (.int .i64 (valT i)))) :
    OtherM cx H f (.insert t (.tmp 114) k v) none (fun v H' => RI (listed.setIfInBounds i true) f H') := by
  obtain ⟨g, es, hm⟩ := h.map h0
  have n11 : listed.getD 11 true = false := by
    rw [← Bool.not_eq_true]
    intro e
    rw [h.late e i hi] at hn
    cases hn
  have n12 : listed.getD 12 true = false := by
    rw [← Bool.not_eq_true]
    intro e
    rw [h.late2 e] at n11
    cases n11
  have hne : i ≠ 0 ∧ i ≠ 8 ∧ i ≠ 9 ∧ i ≠ 11 ∧ i ≠ 12 := by
    rcases hi with rfl | rfl | rfl | rfl | rfl | rfl | rfl | rfl <;> decide
  refine other_insert 114 (g := g) (es := es) (clock := es.size) (s := keyT i) (val := .int .i64 (valT i)) ht hkt (ev_tmp hm.at_ rfl) hk hv hm.obj (hm.ent.fresh hi hn) ?_
  refine ⟨by rw [Array.size_setIfInBounds]; exact h.size, h.marks, fun e => h.rep (by rw [getD_ne (Ne.symm hne.2.1)] at e; exact e), fun e => h.lng (by rw [getD_ne (Ne.symm hne.2.2.1)] at e; exact e), fun e => ?_, fun e => ?_, fun _ _ _ _ _ _ => getD_set h0, fun _ => ⟨g, es.push { key := .string (keyT i), val := .int .i64 (valT i), born := es.size }, hm.at_, ?_, hm.ent.push hi, fun e => ?_, fun e => ?_⟩⟩
  · rw [getD_ne (Ne.symm hne.2.2.2.1), n11] at e; cases e
  · rw [getD_ne (Ne.symm hne.2.2.2.2), n12] at e; cases e
  · rw [Array.size_push]; rfl
  · rw [getD_ne (Ne.symm hne.2.2.2.1), n11] at e; cases e
  · rw [getD_ne (Ne.symm hne.2.2.2.2), n12] at e; cases e
theorem ri_make {cx : Cx} {listed : Array Bool} {f : Env} {H : Heap} (h : RI listed f H) {t : Nat} (hn : listed.getD 0 true = false) :
    OtherM cx H f (.makeMap t none) (some 114) (fun v H' => RI (listed.setIfInBounds 0 true) ((114, .yes, v) :: f) H') := by
  refine other_makeMap fun g hg => ?_
  have no : ∀ i, 1 ≤ i → i ≠ 8 → i ≠ 9 → i ≤ 12 → listed.getD i true = false := fun i h1 h2 h3 h4 => by
    rw [← Bool.not_eq_true]
    intro e
    rw [h.need i h1 h2 h3 h4 e] at hn
    cases hn
  have n11 := no 11 (by omega) (by omega) (by omega) (by omega)
  have n12 := no 12 (by omega) (by omega) (by omega) (by omega)
  refine ⟨by rw [Array.size_setIfInBounds]; exact h.size, h.marks, fun e => h.rep (by rw [getD_ne (by decide)] at e; exact e), fun e => h.lng (by rw [getD_ne (by decide)] at e; exact e), fun e => ?_, fun e => ?_, fun _ _ _ _ _ _ => getD_at, fun _ => ⟨g, #[], rfl, rfl, ent_nil _, fun e => ?_, fun e => ?_⟩⟩
  · rw [getD_ne (by decide), n11] at e; cases e
  · rw [getD_ne (by decide), n12] at e; cases e
  · rw [getD_ne (by decide), n11] at e; cases e
  · rw [getD_ne (by decide), n12] at e; cases e
theorem Rm.step {listed : Array Bool} {f f' : Env} {H : Heap} {g : Nat} {es : Array MapEntry} (h : Rm listed f H g es) {j : Nat} (h11 : j ≠ 11) (h12 : j ≠ 12) (e1 : find f' 114 = find f 114) (e2 : find f' 117 = find f 117) (e3 : find f' 118 = find f 118) : Rm (listed.setIfInBounds j true) f' H g es :=
  ⟨by rw [e1]; exact h.at_, h.obj, h.ent.mono j, fun e => by rw [e2]; exact h.mv (by rw [getD_ne (Ne.symm h11)] at e; exact e), fun e => by rw [e3]; exact h.it (by rw [getD_ne (Ne.symm h12)] at e; exact e)⟩
theorem ri_rep {listed : Array Bool} {f : Env} {H : Heap} (h : RI listed f H) : RI (listed.setIfInBounds 8 true) ((115, .yes, .v (.string repT)) :: f) H := by
  refine ⟨by rw [Array.size_setIfInBounds]; exact h.size, h.marks, fun _ => rfl, fun e => h.lng (by rw [getD_ne (by decide)] at e; exact e), fun e i hi => getD_set (h.late (by rw [getD_ne (by decide)] at e; exact e) i hi), fun e => getD_set (h.late2 (by rw [getD_ne (by decide)] at e; exact e)),
    fun i h1 h2 h3 h4 e => getD_set (h.need i h1 h2 h3 h4 (by rw [getD_ne h2] at e; exact e)), fun e => ?_⟩
  obtain ⟨g, es, hm⟩ := h.map (by rw [getD_ne (by decide)] at e; exact e)
  exact ⟨g, es, hm.step (by decide) (by decide) rfl rfl rfl⟩
theorem ri_lng {listed : Array Bool} {f : Env} {H : Heap} (h : RI listed f H) : RI (listed.setIfInBounds 9 true) ((116, .yes, .v (.string longT)) :: f) H := by
  refine ⟨by rw [Array.size_setIfInBounds]; exact h.size, h.marks, fun e => h.rep (by rw [getD_ne (by decide)] at e; exact e), fun _ => rfl, fun e i hi => getD_set (h.late (by rw [getD_ne (by decide)] at e; exact e) i hi), fun e => getD_set (h.late2 (by rw [getD_ne (by decide)] at e; exact e)),
    fun i h1 h2 h3 h4 e => getD_set (h.need i h1 h2 h3 h4 (by rw [getD_ne h3] at e; exact e)), fun e => ?_⟩
  obtain ⟨g, es, hm⟩ := h.map (by rw [getD_ne (by decide)] at e; exact e)
  exact ⟨g, es, hm.step (by decide) (by decide) rfl rfl rfl⟩
theorem ri_mv {listed : Array Bool} {f : Env} {H : Heap} (h : RI listed f H) (h0 : listed.getD 0 true = true) (hall : ∀ i, okI i → listed.getD i true = true) (hn : listed.getD 11 true = false) :
    ∃ g es, Rm listed f H g es ∧ RI (listed.setIfInBounds 11 true) ((117, .yes, .v (.map (some g))) :: f) H := by
  obtain ⟨g, es, hm⟩ := h.map h0
  have n12 : listed.getD 12 true = false := by
    rw [← Bool.not_eq_true]
    intro e
    rw [h.late2 e] at hn
    cases hn
  refine ⟨g, es, hm, by rw [Array.size_setIfInBounds]; exact h.size, h.marks, fun e => h.rep (by rw [getD_ne (by decide)] at e; exact e), fun e => h.lng (by rw [getD_ne (by decide)] at e; exact e), fun _ i hi => getD_set (hall i hi), fun _ => getD_at, fun _ _ _ _ _ _ => getD_set h0, fun _ => ⟨g, es, hm.at_, hm.obj, hm.ent.mono 11, fun _ => rfl, fun e => ?_⟩⟩
  rw [getD_ne (by decide), n12] at e
  cases e
theorem ri_range {cx : Cx} {listed : Array Bool} {f : Env} {H : Heap} (h : RI listed f H) {t kt et : Nat} (ht : cx.P.underlying t = some (.map kt et)) (h0 : listed.getD 0 true = true) (h11 : listed.getD 11 true = true) :
    OtherM cx H f (.range t (.tmp 117)) (some 118) (fun v H' => RI (listed.setIfInBounds 12 true) ((118, .yes, v) :: f) H') := by
  obtain ⟨g, es, hm⟩ := h.map h0
  refine other_range_map ht 114 (ev_tmp (hm.mv h11) rfl) hm.obj fun g2 hg2 => ?_
  refine ⟨by rw [Array.size_setIfInBounds]; exact h.size, h.marks, fun e => h.rep (by rw [getD_ne (by decide)] at e; exact e), fun e => h.lng (by rw [getD_ne (by decide)] at e; exact e), fun e i hi => getD_set (h.late h11 i hi), fun _ => getD_set h11, fun _ _ _ _ _ _ => getD_set h0, fun _ => ⟨g, es, hm.at_, ?_, hm.ent.mono 12, fun _ => hm.mv h11, fun _ => ⟨g2, rfl, rfl⟩⟩⟩
  show hfind (hdel H 118) 114 = _
  rw [hfind_off (by decide)]
  exact hm.obj
/-- nothing has come -/
theorem ri_start (f : Env) (H : Heap) (hf : marksOf 143 f = []) : RI (Array.replicate 13 false) f H := by
  have no : ∀ i, i ≤ 12 → (Array.replicate 13 false).getD i true = false := fun i hi => by simp [Array.getD, show i < 13 by omega]
  refine ⟨by simp, hf, fun e => ?_, fun e => ?_, fun e => ?_, fun e => ?_, fun i _ _ _ h4 e => ?_, fun e => ?_⟩
  · rw [no 8 (by omega)] at e; cases e
  · rw [no 9 (by omega)] at e; cases e
  · rw [no 11 (by omega)] at e; cases e
  · rw [no 12 (by omega)] at e; cases e
  · rw [no i h4] at e; cases e
  · rw [no 0 (by omega)] at e; cases e
end Go.Proofs.YtmekcdjaafegaaaGreatDoor
