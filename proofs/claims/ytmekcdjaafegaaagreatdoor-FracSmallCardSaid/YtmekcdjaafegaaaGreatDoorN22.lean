/-
  The walks of the laws' own helpers: the examples of the chapter.
-/
import Derived.Test.YtmekcdjaafegaaaGreatDoorN21
import Derived.Test.YtmekcdjaafegaaaGreatDoorSM
import Derived.Test.YtmekcdjaafegaaaGreatDoorAWS
namespace Go.Proofs.YtmekcdjaafegaaaGreatDoor
open Go Sat Go.RowKit Go.PlainAid
set_option linter.unusedSimpArgs false
set_option linter.unusedVariables false
theorem aft {listed : Array Bool} {o : Oper} (h : ∀ e ∈ o.after, Region.binds .any e = true → listed.getD e.on false = true) (k : Nat) {e : Edge} (he : o.after[k]? = some e) (hb : Region.binds .any e = true) : listed.getD e.on true = true := by
  have h1 := h e (Array.mem_of_getElem? he) hb
  obtain ⟨l⟩ := listed
  by_cases hi : e.on < l.length
  · simpa [Array.getD, hi] using h1
  · simp [Array.getD, hi]
theorem aw1 : ratioE 1 6 = (⟨false, 1, 6⟩, 0) := by kernel_rfl
theorem aw2 : ratioE 1 10 = (⟨false, 1, 10⟩, 0) := by kernel_rfl
theorem aw3 : addE ⟨false, 1, 6⟩ ⟨false, 1, 10⟩ = (⟨false, 4, 15⟩, 0) := by kernel_rfl
theorem aw4 : subE ⟨false, 1, 6⟩ ⟨false, 1, 10⟩ = (⟨false, 1, 15⟩, 0) := by kernel_rfl
theorem aw5 : mulE ⟨false, 1, 6⟩ ⟨false, 1, 10⟩ = (⟨false, 1, 60⟩, 0) := by kernel_rfl
theorem aw6 : divE ⟨false, 1, 6⟩ ⟨false, 1, 10⟩ = (⟨false, 5, 3⟩, 0) := by kernel_rfl
theorem aw7 : ratioE 6 (-4) = (⟨true, 3, 2⟩, 0) := by kernel_rfl
theorem aw8 : textE ⟨true, 3, 2⟩ = (⟨#[45, 51, 47, 50]⟩, 0) := by decide
theorem aw9 : ratioE (-3) 2 = (⟨true, 3, 2⟩, 0) := by kernel_rfl
theorem aw10 : ratioE 3 2 = (⟨false, 3, 2⟩, 0) := by kernel_rfl
theorem aw11 : floorE ⟨true, 3, 2⟩ = (-2, 0) := by decide
theorem aw12 : floorE ⟨false, 3, 2⟩ = (1, 0) := by decide
theorem aw13 : ratioE 4 15 = (⟨false, 4, 15⟩, 0) := by kernel_rfl
theorem aw14 : ratioE 1 15 = (⟨false, 1, 15⟩, 0) := by kernel_rfl
theorem aw15 : ratioE 1 60 = (⟨false, 1, 60⟩, 0) := by kernel_rfl
theorem aw16 : ratioE 5 3 = (⟨false, 5, 3⟩, 0) := by kernel_rfl
theorem same_fr (f : Fr) (hf : Big f) (w : World) : (Op.equal 28 (SV.a (List.take 17 (List.drop 0 (frC f)))).real (SV.a (frC f)).real).run Tryz.prog w = .ok true w := by
  have h := eqFr1 f f hf hf w
  rw [show eqFr f f = true from eqFr_iff.2 rfl] at h
  rw [tk1]
  exact h
theorem fit_big (neg : Bool) (n d : Nat) : Big (fitF neg n d).1 := ⟨(fitF_small _ _ _).1, (fitF_small _ _ _).2⟩
theorem ratio_big (a b : Int) : Big (ratioE a b).1 := by
  unfold ratioE
  split
  · exact ⟨by decide, by decide⟩
  · exact fit_big _ _ _
set_option maxRecDepth 100000 in
set_option maxHeartbeats 8000000 in
theorem awake_any (w : World) (hw : Wf w) : Calls Tryz.prog 6 #[] w fun e w' => e = .returned (.bool true) ∧ Below w.heap.size w w' := by
  obtain ⟨x, hx⟩ : ∃ x : Fr, x = ⟨false, 1, 6⟩ := ⟨_, rfl⟩
  obtain ⟨y, hy⟩ : ∃ x : Fr, x = ⟨false, 1, 10⟩ := ⟨_, rfl⟩
  obtain ⟨a, ha⟩ : ∃ x : Fr, x = ⟨false, 4, 15⟩ := ⟨_, rfl⟩
  obtain ⟨b, hb⟩ : ∃ x : Fr, x = ⟨false, 1, 15⟩ := ⟨_, rfl⟩
  obtain ⟨c, hc⟩ : ∃ x : Fr, x = ⟨false, 1, 60⟩ := ⟨_, rfl⟩
  obtain ⟨d, hd⟩ : ∃ x : Fr, x = ⟨false, 5, 3⟩ := ⟨_, rfl⟩
  obtain ⟨m, hm⟩ : ∃ x : Fr, x = ⟨true, 3, 2⟩ := ⟨_, rfl⟩
  obtain ⟨p, hp⟩ : ∃ x : Fr, x = ⟨false, 3, 2⟩ := ⟨_, rfl⟩
  have bx : Big x := by rw [hx]; exact ⟨by decide, by decide⟩
  have by' : Big y := by rw [hy]; exact ⟨by decide, by decide⟩
  have ba : Big a := by rw [ha]; exact ⟨by decide, by decide⟩
  have bb' : Big b := by rw [hb]; exact ⟨by decide, by decide⟩
  have bc : Big c := by rw [hc]; exact ⟨by decide, by decide⟩
  have bd : Big d := by rw [hd]; exact ⟨by decide, by decide⟩
  have bm : Big m := by rw [hm]; exact ⟨by decide, by decide⟩
  have bp : Big p := by rw [hp]; exact ⟨by decide, by decide⟩
  have lx := frC_len x
  have ly := frC_len y
  have la := frC_len a
  have lb := frC_len b
  have lc := frC_len c
  have ld := frC_len d
  have lm := frC_len m
  have lp := frC_len p
  have rx : ∀ w', Calls Tryz.prog 7 #[.int .i64 1, .int .i64 6] w' fun e w'' => e = .returned (frV x) ∧ Below w'.heap.size w' w'' := fun w' => by
    have h := rat_any 1 6 w' ⟨by decide, by decide⟩ ⟨by decide, by decide⟩
    rw [aw1, ← hx] at h; exact h
  have ry : ∀ w', Calls Tryz.prog 7 #[.int .i64 1, .int .i64 10] w' fun e w'' => e = .returned (frV y) ∧ Below w'.heap.size w' w'' := fun w' => by
    have h := rat_any 1 10 w' ⟨by decide, by decide⟩ ⟨by decide, by decide⟩
    rw [aw2, ← hy] at h; exact h
  have rm : ∀ w', Calls Tryz.prog 7 #[.int .i64 6, .int .i64 (-4)] w' fun e w'' => e = .returned (frV m) ∧ Below w'.heap.size w' w'' := fun w' => by
    have h := rat_any 6 (-4) w' ⟨by decide, by decide⟩ ⟨by decide, by decide⟩
    rw [aw7, ← hm] at h; exact h
  have rm2 : ∀ w', Calls Tryz.prog 7 #[.int .i64 (-3), .int .i64 2] w' fun e w'' => e = .returned (frV m) ∧ Below w'.heap.size w' w'' := fun w' => by
    have h := rat_any (-3) 2 w' ⟨by decide, by decide⟩ ⟨by decide, by decide⟩
    rw [aw9, ← hm] at h; exact h
  have rp : ∀ w', Calls Tryz.prog 7 #[.int .i64 3, .int .i64 2] w' fun e w'' => e = .returned (frV p) ∧ Below w'.heap.size w' w'' := fun w' => by
    have h := rat_any 3 2 w' ⟨by decide, by decide⟩ ⟨by decide, by decide⟩
    rw [aw10, ← hp] at h; exact h
  refine calls_sat (cx := Tryz.cx 143 [9, 13] [] [] w) (Tryz.ok ..) Tryz.func6 rfl [] rfl (by show 0 ≤ 143; omega) [] (holds_nil (Nat.le_refl _)) ?_
  repeat' ((conv => whnf); first | refine walk (Tryz.ok ..) ?_ | fail)
  refine called_pure (.a (frC x)) rfl rx ?_
  skip
  refine called_pure (.a (frC y)) rfl ry ?_
  skip
  intro g1 hg1
  skip
  intro g2 hg2
  repeat' ((conv => whnf); first | refine walk (Tryz.ok ..) ?_ | refine side2 ?_ | fail)
  refine called_pure (.t [.a (frC a), .v (.int .i64 0)]) rfl (fun w' => by have h := addE_any x y w' bx by'; rw [hx, hy, aw3, ← ha, ← hx, ← hy] at h; exact h) ?_
  skip
  intro g3 hg3
  repeat' ((conv => whnf); first | refine walk (Tryz.ok ..) ?_ | refine side2 ?_ | fail)
  refine called_pure (.t [.a (frC b), .v (.int .i64 0)]) rfl (fun w' => by have h := subE_any x y w' bx by'; rw [hx, hy, aw4, ← hb, ← hx, ← hy] at h; exact h) ?_
  skip
  intro g5 hg5
  repeat' ((conv => whnf); first | refine walk (Tryz.ok ..) ?_ | refine side2 ?_ | fail)
  refine called_pure (.t [.a (frC c), .v (.int .i64 0)]) rfl (fun w' => by have h := mul_any x y w' bx by'; rw [hx, hy, aw5, ← hc, ← hx, ← hy] at h; exact h) ?_
  skip
  intro g7 hg7
  repeat' ((conv => whnf); first | refine walk (Tryz.ok ..) ?_ | refine side2 ?_ | fail)
  refine called_pure (.t [.a (frC d), .v (.int .i64 0)]) rfl (fun w' => by have h := div_any x y w' bx by'; rw [hx, hy, aw6, ← hd, ← hx, ← hy] at h; exact h) ?_
  skip
  intro g9 hg9
  repeat' ((conv => whnf); first | refine walk (Tryz.ok ..) ?_ | refine side2 ?_ | fail)
  refine called_pure (.a (frC m)) rfl rm ?_
  skip
  refine called_pure (.t [.v (.string ⟨#[45, 51, 47, 50]⟩), .v (.int .i64 0)]) rfl (fun w' => by have h := textE_any m w' bm; rw [hm, aw8, ← hm] at h; exact h) ?_
  repeat' ((conv => whnf); first | refine walk (Tryz.ok ..) ?_ | fail)
  refine called_pure (.a (frC m)) rfl rm2 ?_
  skip
  refine called_pure (.t [.v (.int .i64 (-2)), .v (.int .i64 0)]) rfl (fun w' => by have h := floorE_any m w' bm; rw [hm, aw11, ← hm] at h; exact h) ?_
  repeat' ((conv => whnf); first | refine walk (Tryz.ok ..) ?_ | fail)
  refine called_pure (.a (frC p)) rfl rp ?_
  skip
  refine called_pure (.t [.v (.int .i64 1), .v (.int .i64 0)]) rfl (fun w' => by have h := floorE_any p w' bp; rw [hp, aw12, ← hp] at h; exact h) ?_
  repeat' ((conv => whnf); first | refine walk (Tryz.ok ..) ?_ | (refine Cnd.mk (fun h => ?_) (fun h => ?_) <;> (first | exact cndT h (by (try dsimp only); omega) | exact cndF h (by (try dsimp only); omega) | (exfalso; simp at h; omega) | simp at h | skip)) | refine side2 ?_ | refine sideL2 ?_ | refine Or.inr ?_ | refine sat_drawH (Tryz.ok ..) (by kernel_rfl) ?_ | fail)
  skip
  conv => whnf
  refine called_pure (.a (frC a)) rfl (fun w' => by have h := rat_any 4 15 w' ⟨by decide, by decide⟩ ⟨by decide, by decide⟩; rw [aw13, ← ha] at h; exact h) ?_
  repeat' ((conv => whnf); first | refine kp ?_ ?_ | exact trivial | refine side2 ?_ | fail)
  refine eqAgg_neq true eqgFr1 (same_fr a ba) ?_
  repeat' ((conv => whnf); first | (refine Cnd.mk (fun h => ?_) (fun h => ?_) <;> (first | exact cndT h (by (try dsimp only); omega) | exact cndF h (by (try dsimp only); omega) | (exfalso; simp at h; omega) | simp at h | skip)) | refine side2 ?_ | refine Or.inr ?_ | fail)
  conv => whnf
  refine called_pure (.a (frC b)) rfl (fun w' => by have h := rat_any 1 15 w' ⟨by decide, by decide⟩ ⟨by decide, by decide⟩; rw [aw14, ← hb] at h; exact h) ?_
  repeat' ((conv => whnf); first | refine kp ?_ ?_ | exact trivial | refine side2 ?_ | fail)
  refine eqAgg_neq true eqgFr1 (same_fr b bb') ?_
  repeat' ((conv => whnf); first | (refine Cnd.mk (fun h => ?_) (fun h => ?_) <;> (first | exact cndT h (by (try dsimp only); omega) | exact cndF h (by (try dsimp only); omega) | (exfalso; simp at h; omega) | simp at h | skip)) | refine side2 ?_ | refine Or.inr ?_ | fail)
  conv => whnf
  refine called_pure (.a (frC c)) rfl (fun w' => by have h := rat_any 1 60 w' ⟨by decide, by decide⟩ ⟨by decide, by decide⟩; rw [aw15, ← hc] at h; exact h) ?_
  repeat' ((conv => whnf); first | refine kp ?_ ?_ | exact trivial | refine side2 ?_ | fail)
  refine eqAgg_neq true eqgFr1 (same_fr c bc) ?_
  repeat' ((conv => whnf); first | (refine Cnd.mk (fun h => ?_) (fun h => ?_) <;> (first | exact cndT h (by (try dsimp only); omega) | exact cndF h (by (try dsimp only); omega) | (exfalso; simp at h; omega) | simp at h | skip)) | refine side2 ?_ | refine Or.inr ?_ | fail)
  conv => whnf
  refine called_pure (.a (frC d)) rfl (fun w' => by have h := rat_any 5 3 w' ⟨by decide, by decide⟩ ⟨by decide, by decide⟩; rw [aw16, ← hd] at h; exact h) ?_
  repeat' ((conv => whnf); first | refine kp ?_ ?_ | exact trivial | refine side2 ?_ | fail)
  refine eqAgg_neq true eqgFr1 (same_fr d bd) ?_
  repeat' ((conv => whnf); first | refine walk (Tryz.ok ..) ?_ | (refine Cnd.mk (fun h => ?_) (fun h => ?_) <;> (first | exact cndT h (by (try dsimp only); omega) | exact cndF h (by (try dsimp only); omega) | (exfalso; simp at h; omega) | simp at h | skip)) | refine side2 ?_ | fail)
  skip
  refine called_pure (.a (frC m)) rfl rm ?_
  repeat' ((conv => whnf); first | refine side2 ?_ | fail)
  refine eqAgg_neq true eqgFr1 (fun w => by
    have h := eqFr1 m m bm bm w
    rw [show eqFr m m = true from eqFr_iff.2 rfl] at h
    rw [hm] at h ⊢
    exact h) ?_
  repeat' ((conv => whnf); first | refine walk (Tryz.ok ..) ?_ | (refine Cnd.mk (fun h => ?_) (fun h => ?_) <;> (first | exact cndT h (by (try dsimp only); omega) | exact cndF h (by (try dsimp only); omega) | (exfalso; simp at h; omega) | simp at h | skip)) | fail)
  refine sat_to ([], []) rfl ?_ ?_ rfl ?_
  · ((repeat' (first | exact trivial | exact rfl | refine And.intro ?_ ?_)) <;> (try (conv => whnf)) <;> (try simp only [SV.real, SV.r2, SV.r1]))
  · ((repeat' (first | exact trivial | exact rfl | refine And.intro ?_ ?_)) <;> (try (conv => whnf)) <;> (try simp only [SV.real, SV.r2, SV.r1]))
  refine sat_draw_inv (Tryz.ok 143 [9, 13] [] [] w.heap.size [] w) RI (ri_start _ _ rfl) (fun listed f H hi hr => ?_) (fun listed f H hi j hj => ?_)
  rotate_left
  · obtain ⟨hun, o, ho, haft⟩ := mem_ready.1 hj
    have hj13 : j < 13 := (Array.getElem?_eq_some_iff.1 ho).1
    clear hj
    rcases (by omega : j = 0 ∨ j = 1 ∨ j = 2 ∨ j = 3 ∨ j = 4 ∨ j = 5 ∨ j = 6 ∨ j = 7 ∨ j = 8 ∨ j = 9 ∨ j = 10 ∨ j = 11 ∨ j = 12) with rfl | rfl | rfl | rfl | rfl | rfl | rfl | rfl | rfl | rfl | rfl | rfl | rfl
    · refine ⟨_, rfl, ?_⟩
      (conv => whnf)
      exact ri_make hi hun
    · refine ⟨_, rfl, ?_⟩
      obtain rfl := Option.some.inj ho
      (conv => whnf)
      exact ri_insert hi Tryz.underlying47 Tryz.underlying9 (.inl rfl) hun (aft haft 0 rfl rfl) rfl rfl
    · refine ⟨_, rfl, ?_⟩
      obtain rfl := Option.some.inj ho
      (conv => whnf)
      exact ri_insert hi Tryz.underlying47 Tryz.underlying9 (.inr (.inl rfl)) hun (aft haft 0 rfl rfl) rfl rfl
    · refine ⟨_, rfl, ?_⟩
      obtain rfl := Option.some.inj ho
      (conv => whnf)
      exact ri_insert hi Tryz.underlying47 Tryz.underlying9 (.inr (.inr (.inl rfl))) hun (aft haft 0 rfl rfl) rfl rfl
    · refine ⟨_, rfl, ?_⟩
      obtain rfl := Option.some.inj ho
      (conv => whnf)
      exact ri_insert hi Tryz.underlying47 Tryz.underlying9 (.inr (.inr (.inr (.inl rfl)))) hun (aft haft 0 rfl rfl) rfl rfl
    · refine ⟨_, rfl, ?_⟩
      obtain rfl := Option.some.inj ho
      (conv => whnf)
      exact ri_insert hi Tryz.underlying47 Tryz.underlying9 (.inr (.inr (.inr (.inr (.inl rfl))))) hun (aft haft 0 rfl rfl) rfl rfl
    · refine ⟨_, rfl, ?_⟩
      obtain rfl := Option.some.inj ho
      (conv => whnf)
      exact ri_insert hi Tryz.underlying47 Tryz.underlying9 (.inr (.inr (.inr (.inr (.inr (.inl rfl)))))) hun (aft haft 0 rfl rfl) rfl rfl
    · refine ⟨_, rfl, ?_⟩
      obtain rfl := Option.some.inj ho
      (conv => whnf)
      exact ri_insert hi Tryz.underlying47 Tryz.underlying9 (.inr (.inr (.inr (.inr (.inr (.inr (.inl rfl))))))) hun (aft haft 0 rfl rfl) rfl rfl
    · refine ⟨_, rfl, ?_⟩
      (conv => whnf)
      exact called_pure (v := .string repT) (.v (.string repT)) rfl (fun w' => by
        have h := Tryz.strings_Repeat ⟨#[48]⟩ 78 w' (by omega) (by show 1 * 78 ≤ 140737488355328; omega)
        rw [rep_eq] at h
        exact h) (ri_rep hi)
    · refine ⟨_, rfl, ?_⟩
      obtain rfl := Option.some.inj ho
      (conv => whnf)
      rw [hi.rep (aft haft 0 rfl rfl)]
      have h9 := ri_lng hi
      rw [← long_eq] at h9
      have zr : repT.size = 78 := by decide
      have zo : (⟨#[49]⟩ : ByteArray).size = 1 := rfl
      repeat' ((conv => whnf); first | refine side2 ?_ | fail)
      exact h9
    · refine ⟨_, rfl, ?_⟩
      obtain rfl := Option.some.inj ho
      (conv => whnf)
      exact ri_insert hi Tryz.underlying47 Tryz.underlying9 (.inr (.inr (.inr (.inr (.inr (.inr (.inr rfl))))))) hun (aft haft 0 rfl rfl) (ev_tmp (hi.lng (aft haft 1 rfl rfl)) rfl) rfl
    · refine ⟨_, rfl, ?_⟩
      obtain rfl := Option.some.inj ho
      (conv => whnf)
      obtain ⟨g, es, hm11, h11⟩ := ri_mv hi (aft haft 0 rfl rfl) (fun i hi8 => by
        rcases hi8 with rfl | rfl | rfl | rfl | rfl | rfl | rfl | rfl
        all_goals first
          | exact aft haft 1 rfl rfl
          | exact aft haft 2 rfl rfl
          | exact aft haft 3 rfl rfl
          | exact aft haft 4 rfl rfl
          | exact aft haft 5 rfl rfl
          | exact aft haft 6 rfl rfl
          | exact aft haft 7 rfl rfl
          | exact aft haft 8 rfl rfl
          | exact aft haft 9 rfl rfl
          | exact aft haft 10 rfl rfl
          | exact aft haft 11 rfl rfl
          | exact aft haft 12 rfl rfl) hun
      rw [hm11.at_]
      exact h11
    · refine ⟨_, rfl, ?_⟩
      obtain rfl := Option.some.inj ho
      have h11 : listed.getD 11 true = true := aft haft 0 rfl rfl
      (conv => whnf)
      exact ri_range hi Tryz.underlying47 (hi.need 11 (by omega) (by omega) (by omega) (by omega) h11) h11
  have hall := all_listed (ops := _) (by rw [hi.size]; rfl) hr (by kernel_rfl)
  obtain ⟨g, es, hmm⟩ := hi.map (hall 0 (by show 0 < 13; omega))
  obtain ⟨g2, hf2, hh2⟩ := hmm.it (hall 12 (by show 12 < 13; omega))
  have hh1 := hmm.obj
  have hent := hmm.ent
  have hmk := hi.marks
  clear hall hr hi hmm
  repeat' ((conv => whnf); first | refine walk (Tryz.ok ..) ?_ | fail)
  refine sat_loop (Tryz.ok 143 [9, 13] [] [] w.heap.size [] w) (α := Array Nat × Nat) (fun t => ([(118, .yes, .v (.pointer (some ⟨g2, 0, none⟩)))], [(114, HBo g (.map es es.size)), (118, HBo g2 (.mapIter (some g) es.size t.1 t.2))]))
    (fun t => es.size ≤ t.2) (fun t => (leftOf es t.1).size) (fun _ => rfl) ?_ ?_
  · refine ⟨(#[], es.size), Nat.le_refl _, ?_, ?_, hmk⟩
    · refine ⟨?_, trivial⟩
      dsimp only
      rw [hf2]
    · refine ⟨?_, ?_, trivial⟩
      · unfold Sat.hent
        rw [hh1]
        exact ⟨rfl, rfl⟩
      · unfold Sat.hent
        rw [hh2]
        exact ⟨rfl, rfl⟩
  rintro ⟨seen, c0⟩ hc0
  dsimp only at hc0
  repeat' ((conv => whnf); first | refine walk (Tryz.ok ..) ?_ | fail)
  refine other_next_map 114 118 (g := g2) (bm := g) (es := es) (clock := es.size) (since := es.size) (c0 := c0) (seen := seen) rfl rfl rfl hent.old hc0 ⟨fun hno => ?_, fun e he => ?_⟩
  · repeat' ((conv => whnf); first | refine walk (Tryz.ok ..) ?_ | (refine Cnd.mk (fun h => ?_) (fun h => ?_) <;> (first | exact cndT h (by (try dsimp only); omega) | exact cndF h (by (try dsimp only); omega) | (exfalso; simp at h; omega) | simp at h | skip)) | fail)
    (conv => whnf)
    refine called_at (.t [.a (frC m), .v (.int .i64 0)]) rfl (fun w' hh => by have h := read_any ⟨#[45, 51, 47, 50]⟩ w' (hw.at_ rfl rfl hh) (by show 4 ≤ 4294967280; omega); rw [read_last, ← hm] at h; exact h) ?_
    skip
    intro g20 hg20
    repeat' ((conv => whnf); first | refine walk (Tryz.ok ..) ?_ | refine side2 ?_ | refine sideL2 ?_ | fail)
    (conv => whnf)
    refine calledQ_pure (v := frV m) (.a (frC m)) rfl (fun _ w' => by exact rm w') ?_
    repeat' ((conv => whnf); first | refine side2 ?_ | fail)
    refine eqAgg_eql true eqgFr1 (same_fr m bm) ?_
    repeat' ((conv => whnf); first | refine walk (Tryz.ok ..) ?_ | refine side2 ?_ | fail)
    exact done_pure rfl rfl rfl
  · obtain ⟨he1, he2⟩ := mem_left he
    obtain ⟨i, hoi, _, hk, hv⟩ := hent.from_ e he1
    rw [hk, hv]
    repeat' ((conv => whnf); first | refine walk (Tryz.ok ..) ?_ | (refine Cnd.mk (fun h => ?_) (fun h => ?_) <;> (first | exact cndT h (by (try dsimp only); omega) | exact cndF h (by (try dsimp only); omega) | (exfalso; simp at h; omega) | simp at h | skip)) | fail)
    obtain ⟨F, hF⟩ : ∃ F, F = (readE (keyT i)).1 := ⟨_, rfl⟩
    have hrk := read_key hoi
    have hks := key_size hoi
    have l17 := frC_len F
    refine other_entry 114 118 (g := g2) (bm := g) (since := es.size) (clock := es.size) (seen := seen) (es := es) (e := e) rfl rfl rfl he1 hent.nodup ?_
    rw [hk, hv]
    repeat' ((conv => whnf); first | refine walk (Tryz.ok ..) ?_ | fail)
    refine called_at (.t [.a (frC F), .v (.int .i64 (valT i))]) rfl (fun w' hh => by rw [hF, ← hrk]; exact read_any (keyT i) w' (hw.at_ rfl rfl hh) (by omega)) ?_
    skip
    intro g19 hg19
    repeat' ((conv => whnf); first | refine walk (Tryz.ok ..) ?_ | (refine Cnd.mk (fun h => ?_) (fun h => ?_) <;> (first | exact cndT h (by (try dsimp only); omega) | exact cndF h (by (try dsimp only); omega) | (exfalso; simp at h; omega) | simp at h | skip)) | refine side2 ?_ | fail)
    skip
    refine ⟨(seen.push e.born, es.size), ⟨Nat.le_refl _, left_shrinks es seen e he⟩, ?_, ?_, rfl⟩
    all_goals ((repeat' (first | exact trivial | exact rfl | refine And.intro ?_ ?_)) <;> (try (conv => whnf)) <;> (try simp only [SV.real, SV.r2, SV.r1]))
end Go.Proofs.YtmekcdjaafegaaaGreatDoor
