/-
  A region that draws its order, by a table of values.
-/
import Derived.Test.YtmekcdjaafegaaaGreatDoorSatB
set_option linter.unusedSimpArgs false
set_option linter.unusedVariables false
namespace Go.Proofs.YtmekcdjaafegaaaGreatDoor
namespace Sat
open Go Go.RowKit Go.PlainAid
/-! A region that draws its order, some of whose operations each yield one value whatever came before: a table of values. -/
def tabV (i : Nat) : List (Nat × SV) → Option SV
  | [] => none
  | (k, v) :: T => bif Nat.beq k i then some v else tabV i T
def tabE (ops : List Oper) (T : List (Nat × SV)) (i : Nat) : Option (Nat × Grd × SV) :=
  match oget ops i, tabV i T with
  | some o, some v => (match o.dst with | some d => some (d, .yes, v) | none => none)
  | _, _ => none
def tabDeps (ops : List Oper) (T : List (Nat × SV)) : List Edge → Env
  | [] => []
  | e :: l => bif Region.binds .any e then (match tabE ops T e.on with | some x => x :: tabDeps ops T l | none => tabDeps ops T l) else tabDeps ops T l
def tabAll (ops : List Oper) : List (Nat × SV) → Env
  | [] => []
  | (i, v) :: T => match oget ops i with
    | some o => (match o.dst with | some d => (d, .yes, v) :: tabAll ops T | none => tabAll ops T)
    | none => tabAll ops T
structure TabEnd (f' f : Env) (H' H : Heap) : Prop where
  e : f' = f
  h : H' = H
def tabSteps (cx : Cx) (ops : List Oper) (f0 f : Env) (H0 : Heap) (T : List (Nat × SV)) : List (Nat × SV) → Prop
  | [] => True
  | (i, v) :: l => match oget ops i with
    | some o => Two (vcStep cx ops o (tabDeps ops T o.after.toList ++ (f0 ++ f)) H0 fun f' H' => TabEnd f' (put (tabDeps ops T o.after.toList ++ (f0 ++ f)) o.dst .yes v) H' H0) (tabSteps cx ops f0 f H0 T l)
    | none => False
def vcPre (cx : Cx) (ops : List Oper) (G : Heap) : List Nat → Env → (Env → Prop) → Prop
  | [], f, K => K f
  | i :: l, f, K => match oget ops i with
    | some o => vcTake cx ops o f G fun f' => vcPre cx ops G l f' K
    | none => False
def preOk (ops : Array Oper) : List Nat → Array Bool → Bool
  | [], _ => true
  | i :: l, listed => Region.free .any ops listed i && ((Region.ready .any ops listed).contains i && preOk ops l (listed.setIfInBounds i true))
def setAll : List Nat → Array Bool → Array Bool
  | [], a => a
  | i :: l, a => setAll l (a.setIfInBounds i true)
def reach (ops : List Oper) (i : Nat) : Nat → Nat → Bool
  | 0, k => Nat.beq k i
  | n + 1, k => Nat.beq k i || (match oget ops k with
    | some o => o.after.toList.any fun e => Region.binds .any e && reach ops i n e.on
    | none => false)
def yesB : Grd → Bool
  | .yes => true
  | _ => false
def dstOf (ops : List Oper) (i : Nat) : Option Nat := (oget ops i).bind (·.dst)
def tabsOk (N : Nat) (ops : List Oper) (listed : Array Bool) (f0 : Env) : List Nat → Bool
  | [] => true
  | i :: I => (match dstOf ops i with
    | some d => Nat.blt d N && (!((I.map (dstOf ops)).contains (some d)) && (f0.all fun e => !(Nat.beq e.1 d)))
    | none => false) && (listed.getD i true == false && tabsOk N ops listed f0 I)
def tabOk (N : Nat) (ops : Array Oper) (f0 : Env) (I : List Nat) (listed : Array Bool) (p : Plan) : Bool :=
  (listed.size == ops.size) && ((f0.all fun e => yesB e.2.1 && Nat.blt e.1 N) && (tabsOk N ops.toList listed f0 I && ((I.all fun k => match oget ops.toList k with
      | some o => o.after.toList.all fun e => !(Region.binds .any e) || (Nat.blt e.on k && (listed.getD e.on false || I.contains e.on))
      | none => false) &&
    (((List.range ops.size).all fun k => listed.getD k false || (I.contains k || I.all fun i => match oget ops.toList k with
      | some o => o.after.toList.any fun e => Region.binds .any e && reach ops.toList i ops.size e.on
      | none => false)) && (((List.range ops.size).all fun k => !(listed.getD k false) || (match oget ops.toList k with
      | some o => o.after.toList.all fun e => !(Region.binds .any e) || listed.getD e.on false
      | none => false)) && (planOk ops false p (setAll I listed) && Nat.ble p.depth ((setAll I listed).toList.count false)))))))
theorem find_app {P f : Env} {t : Nat} (h : ∀ e ∈ P, find f e.1 = some (.yes, e.2.2) ∧ e.2.1 = .yes) : find (P ++ f) t = find f t := by
  induction P with
  | nil => rfl
  | cons x P ih =>
    obtain ⟨t', c, v⟩ := x
    have hx := h _ List.mem_cons_self
    show (bif Nat.beq t' t then some (c, v) else find (P ++ f) t) = _
    cases hb : Nat.beq t' t
    · exact ih fun e he => h e (List.mem_cons_of_mem _ he)
    · obtain rfl := Nat.eq_of_beq_eq_true hb
      dsimp only at hx
      rw [hx.1, hx.2]
      rfl
theorem marks_app {N : Nat} {P f : Env} (h : ∀ e ∈ P, e.1 < N) : marksOf N (P ++ f) = marksOf N f := by
  induction P with
  | nil => rfl
  | cons x P ih =>
    obtain ⟨t', c, v⟩ := x
    have hx : Nat.blt t' N = true := by rw [Nat.blt_eq]; exact h _ List.mem_cons_self
    show (bif Nat.blt t' N then marksOf N (P ++ f) else _) = _
    rw [hx]
    exact ih fun e he => h e (List.mem_cons_of_mem _ he)
theorem fits_app {cx : Cx} {P f : Env} {a : Act} (h : ∀ e ∈ P, find f e.1 = some (.yes, e.2.2) ∧ e.2.1 = .yes) (hN : ∀ e ∈ P, e.1 < cx.N) (hf : Fits cx f a) : Fits cx (P ++ f) a :=
  ⟨by rw [marks_app hN]; exact hf.defers, hf.size, fun t c v e => hf.slot t c v (by rw [← find_app h]; exact e), fun t c v e => hf.none_ t c v (by rw [← find_app h]; exact e)⟩
theorem mem_deps {ops : List Oper} {V : List (Nat × SV)} {l : List Edge} {x : Nat × Grd × SV} (h : x ∈ tabDeps ops V l) : ∃ e ∈ l, Region.binds .any e = true ∧ tabE ops V e.on = some x := by
  induction l with
  | nil => cases h
  | cons e l ih =>
    have tl : x ∈ tabDeps ops V l → ∃ e' ∈ e :: l, Region.binds .any e' = true ∧ tabE ops V e'.on = some x := fun h => by
      obtain ⟨e', h1, h2⟩ := ih h
      exact ⟨e', List.mem_cons_of_mem _ h1, h2⟩
    unfold tabDeps at h
    cases hb : Region.binds .any e
    · rw [hb] at h; exact tl h
    · rw [hb] at h
      dsimp only [cond] at h
      cases ht : tabE ops V e.on with
      | none => rw [ht] at h; exact tl h
      | some y =>
        rw [ht] at h
        rcases List.mem_cons.1 h with rfl | h
        · exact ⟨e, List.mem_cons_self, hb, ht⟩
        · exact tl h
theorem tabV_mem {i : Nat} {v : SV} : ∀ {T : List (Nat × SV)}, tabV i T = some v → (i, v) ∈ T := by
  intro T
  induction T with
  | nil => intro h; cases h
  | cons x T ih =>
    intro h
    obtain ⟨k, u⟩ := x
    unfold tabV at h
    cases hb : Nat.beq k i
    · rw [hb] at h; exact List.mem_cons_of_mem _ (ih h)
    · rw [hb] at h
      cases h
      rw [Nat.eq_of_beq_eq_true hb]
      exact List.mem_cons_self
theorem tab_dst {ops : List Oper} {V : List (Nat × SV)} {i : Nat} {x : Nat × Grd × SV} (h : tabE ops V i = some x) : ∃ v, (i, v) ∈ V ∧ dstOf ops i = some x.1 ∧ x = (x.1, .yes, v) := by
  unfold tabE at h
  split at h
  · rename_i o v h1 h2
    split at h
    · rename_i d hd
      cases h
      exact ⟨v, tabV_mem h2, by unfold dstOf; rw [h1]; exact hd, rfl⟩
    · cases h
  · cases h
theorem tabs_ok {N : Nat} {ops : List Oper} {listed : Array Bool} {f0 : Env} : ∀ {I : List Nat}, tabsOk N ops listed f0 I = true → ∀ i ∈ I, ∃ d, dstOf ops i = some d ∧ d < N ∧ (∀ e ∈ f0, e.1 ≠ d) ∧ listed.getD i true = false ∧ ∀ j ∈ I, dstOf ops j = some d → j = i := by
  intro I
  induction I with
  | nil => intro _ i hi; cases hi
  | cons k I ih =>
    intro h i hi
    unfold tabsOk at h
    rw [Bool.and_eq_true, Bool.and_eq_true] at h
    obtain ⟨h1, h2, h3⟩ := h
    split at h1
    · rename_i d hd
      simp only [Bool.and_eq_true, Bool.not_eq_true', List.all_eq_true] at h1
      obtain ⟨k1, k2, k3⟩ := h1
      have k2' : some d ∉ I.map (dstOf ops) := fun hm => by
        rw [List.contains_eq_mem, decide_eq_false_iff_not] at k2
        exact k2 hm
      rcases List.mem_cons.1 hi with rfl | hi'
      · refine ⟨d, hd, by rwa [Nat.blt_eq] at k1, fun e he hx => ?_, by simpa using h2, fun j hj hjd => ?_⟩
        · have := k3 e he
          rw [hx, Nat.beq_refl] at this
          cases this
        · rcases List.mem_cons.1 hj with rfl | hj
          · rfl
          · exact absurd (List.mem_map.2 ⟨j, hj, hjd⟩) k2'
      · obtain ⟨d', m1, m2, m3, m4, m5⟩ := ih h3 i hi'
        refine ⟨d', m1, m2, m3, m4, fun j hj hjd => ?_⟩
        rcases List.mem_cons.1 hj with rfl | hj
        · rw [hd] at hjd
          cases hjd
          exact absurd (List.mem_map.2 ⟨i, hi', m1⟩) k2'
        · exact m5 j hj hjd
    · cases h1
theorem tabV_get {T : List (Nat × SV)} {i : Nat} {v : SV} (hn : ∀ j ∈ T, ∀ k ∈ T, j.1 = k.1 → j = k) (h : (i, v) ∈ T) : tabV i T = some v := by
  induction T with
  | nil => cases h
  | cons x T ih =>
    obtain ⟨k, u⟩ := x
    unfold tabV
    cases hb : Nat.beq k i
    · rcases List.mem_cons.1 h with e | h
      · cases e; rw [Nat.beq_refl] at hb; cases hb
      · exact ih (fun j hj k hk => hn j (List.mem_cons_of_mem _ hj) k (List.mem_cons_of_mem _ hk)) h
    · have e := Nat.eq_of_beq_eq_true hb
      have := hn _ h _ List.mem_cons_self e.symm
      cases this
      rfl
theorem tab_step {cx : Cx} {ops : List Oper} {f0 f : Env} {H0 : Heap} {T : List (Nat × SV)} : ∀ {l : List (Nat × SV)}, tabSteps cx ops f0 f H0 T l → ∀ {j : Nat} {v : SV}, (j, v) ∈ l → ∃ o, oget ops j = some o ∧ vcStep cx ops o (tabDeps ops T o.after.toList ++ (f0 ++ f)) H0 fun f' H' => TabEnd f' (put (tabDeps ops T o.after.toList ++ (f0 ++ f)) o.dst .yes v) H' H0 := by
  intro l
  induction l with
  | nil => intro _ j v h; cases h
  | cons x l ih =>
    intro h j v hv
    obtain ⟨i, u⟩ := x
    unfold tabSteps at h
    split at h
    · rename_i o ho
      obtain ⟨h1, h2⟩ := Two.out h
      rcases List.mem_cons.1 hv with e | hv
      · cases e; exact ⟨o, ho, h1⟩
      · exact ih h2 hv
    · exact h.elim
theorem mem_all {ops : List Oper} {x : Nat × Grd × SV} : ∀ {T : List (Nat × SV)}, x ∈ tabAll ops T → ∃ i v, (i, v) ∈ T ∧ dstOf ops i = some x.1 ∧ x = (x.1, .yes, v) := by
  intro T
  induction T with
  | nil => intro h; cases h
  | cons y T ih =>
    intro h
    obtain ⟨i, v⟩ := y
    have tl : x ∈ tabAll ops T → ∃ i' v', (i', v') ∈ (i, v) :: T ∧ dstOf ops i' = some x.1 ∧ x = (x.1, .yes, v') := fun h => by
      obtain ⟨i', v', h1, h2⟩ := ih h
      exact ⟨i', v', List.mem_cons_of_mem _ h1, h2⟩
    unfold tabAll at h
    split at h
    · rename_i o ho
      split at h
      · rename_i d hd
        rcases List.mem_cons.1 h with rfl | h
        · exact ⟨i, v, List.mem_cons_self, by unfold dstOf; rw [ho]; exact hd, rfl⟩
        · exact tl h
      · exact tl h
    · exact tl h
/-- what is listed holds all that it comes behind -/
def Closed (ops : Array Oper) (listed : Array Bool) : Prop := ∀ k o, listed.getD k false = true → ops[k]? = some o → ∀ e ∈ o.after, Region.binds .any e = true → listed.getD e.on false = true
theorem reach_listed {ops : Array Oper} {listed : Array Bool} (hc : Closed ops listed) {i : Nat} : ∀ {n k : Nat}, listed.getD k false = true → reach ops.toList i n k = true → listed.getD i false = true := by
  intro n
  induction n with
  | zero => intro k hk h; rw [← Nat.eq_of_beq_eq_true h]; exact hk
  | succ n ih =>
    intro k hk h
    unfold reach at h
    rw [Bool.or_eq_true] at h
    rcases h with h | h
    · rw [← Nat.eq_of_beq_eq_true h]; exact hk
    · split at h
      · rename_i o ho
        obtain ⟨e, he, h2⟩ := List.any_eq_true.1 h
        rw [Bool.and_eq_true] at h2
        exact ih (hc k o hk (oget_arr ho) e (Array.mem_def.2 he) h2.1) h2.2
      · cases h
theorem getD_ft {l : Array Bool} {i : Nat} (h : l.getD i false = true) : l.getD i true = true := by
  obtain ⟨l⟩ := l
  rcases Nat.lt_or_ge i l.length with h1 | h1
  · simpa [Array.getD, h1] using h
  · simp [Array.getD, Nat.not_lt.2 h1] at h
theorem getD_tf {l : Array Bool} {i : Nat} (hi : i < l.size) (h : l.getD i false = false) : l.getD i true = false := by
  obtain ⟨l⟩ := l
  have hi' : i < l.length := hi
  simpa [Array.getD, hi'] using h
theorem cnt_set' {l : Array Bool} {j : Nat} (h : l.getD j true = false) : (l.setIfInBounds j true).toList.count false < l.toList.count false := by
  obtain ⟨l⟩ := l
  have hj : j < l.length := by
    rcases Nat.lt_or_ge j l.length with h1 | h1
    · exact h1
    · exact absurd h (by simp [Array.getD, Nat.not_lt.2 h1])
  have he : l[j] = false := by simpa [Array.getD, hj] using h
  simp only [List.setIfInBounds_toArray]
  rw [List.count_set hj, he]
  have : 0 < l.count false := List.count_pos_iff.2 (by rw [← he]; exact List.getElem_mem hj)
  simp
  omega
theorem setAll_size : ∀ (I : List Nat) (a : Array Bool), (setAll I a).size = a.size := by
  intro I
  induction I with
  | nil => intro a; rfl
  | cons i I ih => intro a; unfold setAll; rw [ih]; simp
theorem setAll_getD {d : Bool} : ∀ (I : List Nat) (a : Array Bool) (k : Nat), k < a.size → (setAll I a).getD k d = (decide (k ∈ I) || a.getD k d) := by
  intro I
  induction I with
  | nil => intro a k _; simp [setAll]
  | cons i I ih =>
    intro a k hk
    unfold setAll
    rw [ih _ k (by simpa using hk)]
    by_cases e : i = k
    · subst e
      simp [Array.getD, hk]
    · rw [getD_set_ne d e]
      have : decide (k ∈ i :: I) = decide (k ∈ I) := by
        simp [List.mem_cons, Ne.symm e]
      rw [this]
theorem ext_getD {a b : Array Bool} (hs : a.size = b.size) (h : ∀ k, k < a.size → a.getD k false = b.getD k false) : a = b := by
  refine Array.ext hs fun i hi hi2 => ?_
  have := h i hi
  simpa [Array.getD, hi, hi2] using this
structure TabInv (cx : Cx) (ops : Array Oper) (f0 : Env) (T : List (Nat × SV)) (L0 listed : Array Bool) (f : Env) : Prop where
  size : listed.size = ops.size
  old : ∀ k, k < ops.size → k ∉ T.map (·.1) → listed.getD k false = L0.getD k false
  closed : Closed ops listed
  base : ∀ e ∈ f0, find f e.1 = some (.yes, e.2.2)
  tab : ∀ i v d, listed.getD i false = true → (i, v) ∈ T → dstOf ops.toList i = some d → find f d = some (.yes, v)
  marks : marksOf cx.N f = []
theorem allYes_of {N : Nat} : ∀ g : Env, (∀ e ∈ g, e.2.1 = .yes) → allYes N g = true := by
  intro g
  induction g with
  | nil => intro _; rfl
  | cons x g ih =>
    intro h
    obtain ⟨t, c, v⟩ := x
    have := h _ List.mem_cons_self
    dsimp only at this
    subst this
    exact ih fun e he => h e (List.mem_cons_of_mem _ he)
theorem held_tab {cx : Cx} (hok : COk cx) {ops : Array Oper} (hs : Region.noSelect ops = true) (hnd : noDef ops.toList = true) {X : Act → World → Prop} {K : Env → Heap → Prop}
    (hK : ∀ f' H' a' w', Fits cx f' a' → Holds cx H' w' → K f' H' → X a' w') (f0 : Env) (H0 : Heap) (T : List (Nat × SV)) (L0 : Array Bool) (p : Plan) (hc : tabOk cx.N ops f0 (T.map (·.1)) L0 p = true) (hnodup : ∀ j ∈ T, ∀ k ∈ T, j.1 = k.1 → j = k)
    (hstep : ∀ f, tabSteps cx ops.toList f0 f H0 T T) (hfin : vcPlan cx ops.toList [] p (tabAll ops.toList T ++ f0) H0 K) :
    ∀ (fuel : Nat) (listed : Array Bool) (f : Env) (a : Act) (w : World), listed.toList.count false ≤ fuel → TabInv cx ops f0 T L0 listed f → Fits cx f a → Holds cx H0 w → heldIn cx.R cx.P ops X (Holds cx []) fuel listed a w := by
  unfold tabOk at hc
  simp only [Bool.and_eq_true, List.all_eq_true] at hc
  obtain ⟨hL0, hf0, hds, hlt, hrc, hcl, hpl, hdp⟩ := hc
  rw [Nat.ble_eq] at hdp
  have hL0 : L0.size = ops.size := by simpa using hL0
  have hyes : ∀ e ∈ f0, e.2.1 = .yes ∧ e.1 < cx.N := fun e he => by
    have := hf0 e he
    refine ⟨?_, by rw [← Nat.blt_eq]; exact this.2⟩
    have h1 := this.1
    cases hg : e.2.1 with
    | yes => rfl
    | wh b => rw [hg] at h1; cases h1
  have hent : ∀ i v, (i, v) ∈ T → ∃ d, dstOf ops.toList i = some d ∧ d < cx.N ∧ (∀ e ∈ f0, e.1 ≠ d) ∧ L0.getD i true = false ∧ ∀ j ∈ T.map (·.1), dstOf ops.toList j = some d → j = i := fun i v h => tabs_ok hds i (List.mem_map.2 ⟨(i, v), h, rfl⟩)
  have hiLt : ∀ i ∈ T.map (·.1), i < ops.size := fun i hi => by
    obtain ⟨x, hx, rfl⟩ := List.mem_map.1 hi
    obtain ⟨d, h1, _⟩ := hent x.1 x.2 hx
    unfold dstOf at h1
    cases ho : oget ops.toList x.1 with
    | none => rw [ho] at h1; cases h1
    | some o => exact (Array.getElem?_eq_some_iff.1 (oget_arr ho)).1
  -- what stands when all of the table has come
  have done : ∀ (fuel : Nat) (listed : Array Bool) (f : Env) (a : Act) (w : World), listed.toList.count false ≤ fuel → TabInv cx ops f0 T L0 listed f → Fits cx f a → Holds cx H0 w → (∀ i ∈ T.map (·.1), listed.getD i false = true) → heldIn cx.R cx.P ops X (Holds cx []) fuel listed a w := by
    intro fuel listed f a w hcnt hi hf hw hall
    have hfull : listed = setAll (T.map (·.1)) L0 := by
      refine ext_getD (by rw [setAll_size, hL0]; exact hi.size) fun k hk => ?_
      rw [hi.size] at hk
      rw [setAll_getD _ _ _ (by rw [hL0]; exact hk)]
      by_cases hm : k ∈ T.map (·.1)
      · rw [hall k hm, decide_eq_true hm]; rfl
      · rw [hi.old k hk hm, decide_eq_false hm]; rfl
    have hPf : Fits cx (tabAll ops.toList T ++ f0) a := hf.sub (fsub_of (List.map_congr_left fun e he => by
      rcases List.mem_append.1 he with he | he
      · obtain ⟨i, v, h1, h2, h3⟩ := mem_all he
        rw [hi.tab i v e.1 (hall i (List.mem_map.2 ⟨_, h1, rfl⟩)) h1 h2]
        rw [h3]
      · exact hi.base e he)) (allYes_of _ fun e he => by
        rcases List.mem_append.1 he with he | he
        · obtain ⟨i, v, h1, h2, h3⟩ := mem_all he
          rw [h3]
        · exact (hyes e he).1) (by
        rw [hi.marks]
        have := marks_app (N := cx.N) (P := tabAll ops.toList T ++ f0) (f := []) fun e he => by
          rcases List.mem_append.1 he with he | he
          · obtain ⟨i, v, h1, h2, h3⟩ := mem_all he
            obtain ⟨d, k1, k2, _⟩ := hent i v h1
            rw [h2] at k1
            cases k1
            exact k2
          · exact (hyes e he).2
        rw [List.append_nil] at this
        exact this.symm)
    rw [hfull] at hcnt
    exact (vcPlan_sound hok hs hnd hK p listed false fuel _ H0 a w (by rw [hfull]; exact hpl) (Nat.le_trans hdp hcnt) hfin hPf hw (hw.sub trivial)).1 rfl
  intro fuel
  induction fuel with
  | zero =>
    intro listed f a w hcnt hi hf hw
    refine done 0 listed f a w hcnt hi hf hw fun i hm => ?_
    rcases hb : listed.getD i false with _ | _
    · have := cnt_set' (getD_tf (by rw [hi.size]; exact hiLt i hm) hb)
      omega
    · rfl
  | succ n ih =>
    intro listed f a w hcnt hi hf hw
    by_cases hall : ∀ i ∈ T.map (·.1), listed.getD i false = true
    · exact done (n + 1) listed f a w hcnt hi hf hw hall
    · refine ⟨fun hr => ?_, fun j hj => ?_⟩
      · exfalso
        apply hall
        intro i
        induction i using Nat.strongRecOn with
        | _ i ih2 =>
          intro him
          rcases hb : listed.getD i false with _ | _
          · exfalso
            have h1 := hlt i him
            split at h1
            · rename_i o ho
              have hin : i ∈ Region.ready .any ops listed := mem_ready.2 ⟨getD_tf (by rw [hi.size]; exact hiLt i him) hb, o, oget_arr ho, fun e he hbd => by
                have h2 := List.all_eq_true.1 h1 e (Array.mem_def.1 he)
                rw [hbd, Bool.not_true, Bool.false_or, Bool.and_eq_true, Nat.blt_eq] at h2
                by_cases hm : e.on ∈ T.map (·.1)
                · exact ih2 e.on h2.1 hm
                · have h3 := h2.2
                  rw [Bool.or_eq_true] at h3
                  rcases h3 with h3 | h3
                  · rw [hi.old e.on (by have := hiLt i him; omega) hm]; exact h3
                  · exact absurd (by simpa using h3) hm⟩
              rw [hr] at hin
              cases hin
            · cases h1
          · rfl
      · obtain ⟨hun, o, ho, haft⟩ := mem_ready.1 hj
        have hjn : j < ops.size := (Array.getElem?_eq_some_iff.1 ho).1
        have hjm : j ∈ T.map (·.1) := by
          by_cases h : j ∈ T.map (·.1)
          · exact h
          · exfalso
            apply hall
            intro i him
            have h1 := hrc j (List.mem_range.2 hjn)
            rw [Bool.or_eq_true, Bool.or_eq_true] at h1
            rcases h1 with h1 | h1 | h1
            · rw [← hi.old j hjn h] at h1
              have := getD_ft h1
              rw [hun] at this; cases this
            · exact absurd (by simpa using h1) h
            · have h1 := List.all_eq_true.1 h1 i him
              split at h1
              · rename_i o' ho'
                have e := oget_arr ho'
                rw [ho] at e
                cases e
                obtain ⟨e, he, h2⟩ := List.any_eq_true.1 h1
                rw [Bool.and_eq_true] at h2
                exact reach_listed hi.closed (haft e (Array.mem_def.2 he) h2.1) h2.2
              · cases h1
        obtain ⟨x, hx, hxj⟩ := List.mem_map.1 hjm
        obtain ⟨j', v⟩ := x
        dsimp only at hxj
        subst hxj
        obtain ⟨o', ho', hvc⟩ := tab_step (hstep f) hx
        have e := oget_arr ho'
        rw [ho] at e
        cases e
        have hP : ∀ e ∈ tabDeps ops.toList T o.after.toList ++ f0, (find f e.1 = some (.yes, e.2.2) ∧ e.2.1 = .yes) ∧ e.1 < cx.N := fun e he => by
          rcases List.mem_append.1 he with he | he
          · obtain ⟨ed, h1, h2, h3⟩ := mem_deps he
            obtain ⟨u, k1, k2, k3⟩ := tab_dst h3
            obtain ⟨d, m1, m2, _⟩ := hent _ _ k1
            rw [k2] at m1
            cases m1
            have := hi.tab _ _ _ (haft ed (Array.mem_def.2 h1) h2) k1 k2
            refine ⟨⟨?_, by rw [k3]⟩, m2⟩
            rw [this, k3]
          · exact ⟨⟨hi.base e he, (hyes e he).1⟩, (hyes e he).2⟩
        have hfit : Fits cx (tabDeps ops.toList T o.after.toList ++ (f0 ++ f)) a := by
          rw [← List.append_assoc]
          exact fits_app (fun e he => (hP e he).1) (fun e he => (hP e he).2) hf
        obtain ⟨d, k1, k2, k3, _, k4⟩ := hent _ _ hx
        have hod : o.dst = some d := by
          unfold dstOf at k1
          rw [ho'] at k1
          exact k1
        have := vcStep_sound hok (Q := fun e a w => match e with | .normal => X a w | _ => False) hvc hfit hw (N := fun a' w' => Holds cx [] w' ∧ heldIn cx.R cx.P ops X (Holds cx []) n (listed.setIfInBounds j' true) a' w') (fun f' H' a' w' hf' hw' hk => by
          obtain ⟨rfl, rfl⟩ := hk
          refine ⟨hw'.sub trivial, ih _ _ a' w' (by have := cnt_set' hun; omega) ?_ hf' hw'⟩
          have hfd : ∀ t, find (put (tabDeps ops.toList T o.after.toList ++ (f0 ++ f)) o.dst .yes v) t = bif Nat.beq d t then some (.yes, v) else find f t := fun t => by
            rw [hod]
            show (bif Nat.beq d t then some (Grd.yes, v) else find (tabDeps ops.toList T o.after.toList ++ (f0 ++ f)) t) = _
            rw [← List.append_assoc, find_app fun e he => (hP e he).1]
          refine ⟨by simp [hi.size], fun k h1 h2 => by rw [getD_set_ne false (fun e => h2 (by rw [← e]; exact hjm))]; exact hi.old k h1 h2, fun k o2 hk hk2 e2 he2 hb2 => ?_, fun e2 he2 => ?_, fun i u du hli hx2 hdu => ?_, ?_⟩
          · by_cases e : j' = k
            · subst e
              rw [ho] at hk2
              cases hk2
              exact getD_set_true (haft e2 he2 hb2)
            · rw [getD_set_ne false e] at hk
              exact getD_set_true (hi.closed k o2 hk hk2 e2 he2 hb2)
          · rw [hfd]
            have : Nat.beq d e2.1 = false := by
              cases hb : Nat.beq d e2.1
              · rfl
              · exact absurd (Nat.eq_of_beq_eq_true hb).symm (k3 e2 he2)
            rw [this]
            exact hi.base e2 he2
          · rw [hfd]
            by_cases e : j' = i
            · subst e
              rw [k1] at hdu
              cases hdu
              rw [Nat.beq_refl]
              have : u = v := by
                obtain ⟨o3, ho3, _⟩ := tab_step (hstep f) hx2
                have hnd2 := hnodup _ hx2 _ hx rfl
                cases hnd2
                rfl
              rw [this]
              rfl
            · rw [getD_set_ne false e] at hli
              have : Nat.beq d du = false := by
                cases hb : Nat.beq d du
                · rfl
                · exfalso
                  have hdd := Nat.eq_of_beq_eq_true hb
                  subst hdd
                  exact e (k4 i (List.mem_map.2 ⟨_, hx2, rfl⟩) hdu).symm
              rw [this]
              exact hi.tab i u du hli hx2 hdu
          · have hd : Nat.blt d cx.N = true := by rw [Nat.blt_eq]; exact k2
            rw [hod]
            show (bif Nat.blt d cx.N then marksOf cx.N (tabDeps ops.toList T o.after.toList ++ (f0 ++ f)) else _) = _
            rw [hd]
            dsimp only [cond]
            rw [← List.append_assoc, marks_app fun e he => (hP e he).2]
            exact hi.marks)
        unfold wpOpIn
        rw [oget_arr ho']
        rw [Array.toArray_toList] at this
        exact this
/-- pure operations first -/
theorem held_pre {cx : Cx} (hok : COk cx) {ops : Array Oper} (hs : Region.noSelect ops = true) (hnd : noDef ops.toList = true) {G : Heap} {X : Act → World → Prop} {K : Env → Prop} :
    ∀ (I : List Nat) (listed : Array Bool) (n : Nat) (f : Env) (a : Act) (w : World), preOk ops I listed = true → vcPre cx ops.toList G I f K → Fits cx f a → Holds cx G w →
      (∀ f' a', K f' → Fits cx f' a' → heldIn cx.R cx.P ops X (Holds cx G) n (setAll I listed) a' w) → heldIn cx.R cx.P ops X (Holds cx G) (n + I.length) listed a w := by
  intro I
  induction I with
  | nil => intro listed n f a w _ h hf _ hk; exact hk f a h hf
  | cons i I ih =>
    intro listed n f a w hp h hf hg hk
    simp only [preOk, Bool.and_eq_true] at hp
    unfold vcPre at h
    split at h
    · rename_i o ho
      obtain ⟨v, f', hy, hf', hk'⟩ := vcTake_sound hok h hf
      rw [Array.toArray_toList] at hy
      rw [List.length_cons, ← Nat.add_assoc]
      exact take_first hnd hs (oget_arr ho) (n + I.length) listed a w (Region.free_spec (oget_arr ho) hp.1) (by simpa using hp.2.1) hy hg (ih (listed.setIfInBounds i true) n f' _ w hp.2.2 hk' hf' hg hk)
    · exact h.elim
def tabPlan (ops : List Oper) (rest : List Nat) (mask : Nat) : Plan := mkPlan rest.length ((items [] 0 ops).filter fun x => memN rest x.1) mask
structure PreEnd (cx : Cx) (f0 f : Env) : Prop where
  e : (f0.map fun e => find f e.1) = (f0.map fun e => some (Grd.yes, e.2.2))
  m : marksOf cx.N f = []
def nodupI : List Nat → Bool
  | [] => true
  | i :: l => !(l.contains i) && nodupI l
theorem nodup_of : ∀ {T : List (Nat × SV)}, nodupI (T.map (·.1)) = true → ∀ j ∈ T, ∀ k ∈ T, j.1 = k.1 → j = k := by
  intro T
  induction T with
  | nil => intro _ j hj; cases hj
  | cons x T ih =>
    intro h j hj k hk e
    simp only [List.map_cons, nodupI, Bool.and_eq_true, Bool.not_eq_true', List.contains_eq_mem, decide_eq_false_iff_not] at h
    rcases List.mem_cons.1 hj with rfl | hj' <;> rcases List.mem_cons.1 hk with rfl | hk'
    · rfl
    · exact absurd (List.mem_map.2 ⟨k, hk', e.symm⟩) h.1
    · exact absurd (List.mem_map.2 ⟨j, hj', e⟩) h.1
    · exact ih h.2 j hj' k hk' e
/-- a region that draws its order: pure operations (pre) first; those of the table are walked once each, in no order; the others (rest, a plan of their own) behind them. I: the table's indices; mask: the bits of pre and I -/
theorem sat_draw_tab {cx : Cx} (hok : COk cx) {id : Nat} {ops : Array Oper} {K : Exit → Env → Heap → Prop} {f : Env} {H : Heap} (pre I rest : List Nat) (mask : Nat) (f0 : Env) (H0 : Heap) (T : List (Nat × SV)) (hI : T.map (·.1) = I)
    (hH : (H0.map fun e => hfind H e.1) = (H0.map fun e => some e.2)) (hpre : vcPre cx ops.toList [] pre f fun f => PreEnd cx f0 f)
    (hstep : ∀ f, tabSteps cx ops.toList f0 f H0 T T) (hfin : vcPlan cx ops.toList [] (tabPlan ops.toList rest mask) (tabAll ops.toList T ++ f0) H0 (K .normal))
    (hc : (Region.noSelect ops && (noDef ops.toList && (nodupI I && (Nat.ble pre.length ops.size && (Nat.ble ((setAll pre (Array.replicate ops.size false)).toList.count false) (ops.size - pre.length) && (preOk ops pre (Array.replicate ops.size false) && tabOk cx.N ops f0 I (setAll pre (Array.replicate ops.size false)) (tabPlan ops.toList rest mask))))))) = true) : Sat cx (.region id ops true) K f H :=
  ⟨fun a w hf hw => by
    subst hI
    simp only [Bool.and_eq_true] at hc
    obtain ⟨h1, h2, h3, h4, hcount, h5, h6⟩ := hc
    rw [Nat.ble_eq] at h4 hcount
    have hw0 := (hw.sub (hsub_of hH)).drawn (w.drawn + 1)
    have hh := held_pre hok h1 h2 (X := fun a' w' => ∃ f' H', Fits cx f' a' ∧ Holds cx H' w' ∧ K .normal f' H') pre (Array.replicate ops.size false) (ops.size - pre.length) f a _ h5 hpre hf (hw0.sub trivial) (fun f' a' hk hf' =>
      held_tab hok h1 h2 (X := fun a' w' => ∃ f' H', Fits cx f' a' ∧ Holds cx H' w' ∧ K .normal f' H') (K := K .normal) (fun f' H' a' w' h1 h2 h3 => ⟨f', H', h1, h2, h3⟩) f0 H0 T _ _ h6 (nodup_of h3) hstep hfin (ops.size - pre.length) _ f' a' _ hcount
        ⟨by rw [setAll_size]; simp, fun _ _ _ => rfl, fun k o hk' ho e he hb => (by
          have hkn : k < ops.size := (Array.getElem?_eq_some_iff.1 ho).1
          unfold tabOk at h6
          simp only [Bool.and_eq_true] at h6
          have := List.all_eq_true.1 h6.2.2.2.2.2.1 k (List.mem_range.2 hkn)
          rw [hk', Bool.not_true, Bool.false_or] at this
          split at this
          · rename_i o' ho'
            have e1 := oget_arr ho'
            rw [ho] at e1
            cases e1
            have := List.all_eq_true.1 this e (Array.mem_def.1 he)
            rw [hb, Bool.not_true, Bool.false_or] at this
            exact this
          · cases this), fun e he => List.map_inj_left.1 hk.e e he, fun i v d hi hiT _ => (by
          exfalso
          unfold tabOk at h6
          simp only [Bool.and_eq_true] at h6
          obtain ⟨_, _, _, _, hL, _⟩ := tabs_ok h6.2.2.1 i (List.mem_map.2 ⟨(i, v), hiT, rfl⟩)
          have := getD_ft hi
          rw [hL] at this
          cases this), hk.m⟩ hf' hw0)
    rw [Nat.sub_add_cancel h4] at hh
    refine wpIn_mono (wpIn_region_any hok.order (any_of_held _ _ _ _ hh)) ?_
    intro e a w he
    cases e with
    | normal => exact he
    | _ => exact he.elim⟩
end Sat
end Go.Proofs.YtmekcdjaafegaaaGreatDoor
