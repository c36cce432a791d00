/-
  The walks of the route package: the call of a text.
-/
import Derived.Test.YtbpklalkoocneaaDoorV
import Derived.Test.YtbpklalkoocneaaDoorU
namespace Go.Proofs.YtbpklalkoocneaaDoor
open Go Sat Go.RowKit Go.PlainAid
set_option linter.unusedSimpArgs false
set_option linter.unusedVariables false
theorem wf_mod {cx : Cx} {H : Heap} {w : World} {g : Nat} (h : Wf cx.W) (hn : cx.n0 = cx.W.heap.size) (hM : cx.M = []) (hg : cx.n0 ≤ g) (hw : Holds cx H w) : ∀ w', Mod g w w' → Wf w' := by
  intro w' hm
  have hb := below_of hn hM hw
  refine h.mono (B := cx.W.heap.size) ⟨hm.os.trans hb.os, hm.tape.trans hb.tape, hm.output.trans hb.output, Nat.le_trans hb.size hm.size, fun k hk => ?_⟩ (Nat.le_refl _)
  rw [hm.block k (Nat.lt_of_lt_of_le hk hb.size) (by omega), hb.block k hk]
theorem split_any (s : ByteArray) (hs : s.size ≤ 4294967280) {w : World} (hw : Wf w) : Calls Tryd.prog 40 #[.string s, .string ⟨#[32]⟩] w fun e w' => ∃ v, e = .returned v ∧ w'.ownsRow w.heap.size 9 1 v (pieces s).length ((pieces s).map Value.string) ∧ Below w.heap.size w w' := by
  obtain ⟨m, hm⟩ := hw.top
  have hle := Lib.countB_le ⟨#[32]⟩ (by show 1 ≤ 1; omega) s.size s (Nat.le_refl _)
  refine (Any.strings_Split (ρ := Tryd.laysM146_ren) { Tryd.laysM146 with } Tryd.laysM146.i9 s ⟨#[32]⟩ m w (by omega) hm (by show 1 ≤ 1; omega)).mono ?_
  rintro e w' ⟨rfl, rfl⟩
  have hl := pieces_len s
  refine ⟨_, rfl, ⟨by simp, .inr ⟨w.heap.size, _, _, by rw [hl], Nat.le_refl _, heap_alloc_new w _, by omega, by unfold maxLen; omega, ?_, ?_⟩⟩, (Below.refl _ w).alloc (Nat.le_refl _) _⟩
  · show ((pieces s).map Value.string).toArray.size = _
    simp [hl]
  · show ((pieces s).map Value.string).toArray.toList.take _ = _
    rw [Nat.mul_one, List.toList_toArray, List.take_of_length_le (by simp)]
set_option maxRecDepth 100000 in
set_option maxHeartbeats 8000000 in
theorem parse_any (s : ByteArray) (w : World) (hs : s.size ≤ 4294967280) (hw : Wf w) : Calls Tryd.prog 20 #[.string s] w fun e w' => e = .returned (prV s) ∧ Below w.heap.size w w' := by
  refine calls_sat (cx := Tryd.cx 38 [6] [] [] w) (Tryd.ok ..) Tryd.func20 rfl [.v (.string s)] rfl (by show 1 ≤ 38; omega) [] (holds_nil (Nat.le_refl _)) ?_
  have bad : (∀ c, rightC c = true → wrB c ≠ s) → prV s = .tuple #[.agg #[.string ⟨#[]⟩, .int .i64 0, .int .i64 0], .int .i64 201] := fun h => by
    unfold prV; rw [(pr_none (prs_none h)).1, (pr_none (prs_none h)).2]
  repeat' ((conv => whnf); first
    | refine walk (Tryd.ok ..) ?_
    | refine walk (COk.with_ (Tryd.ok ..) _ _) ?_
    | refine walk (COk.with_ (COk.with_ (Tryd.ok ..) _ _) _ _) ?_
    | (refine Cnd.mk (fun h => ?_) (fun h => ?_) <;> (first | (exfalso; simp only [decide_eq_true_eq, decide_eq_false_iff_not, Bool.not_eq_true', Bool.not_eq_false'] at h; omega) | (exfalso; simp at h; omega) | simp at h | skip))
    | refine And.intro (Kept.mk ?_) ?_
    | refine Two.mk (And.intro ?_ ?_)
    | exact trivial
    | refine side ?_
    | refine sideL ?_
    | refine Or.inr ?_
    | refine sat_drawH (Tryd.ok ..) (by kernel_rfl) ?_
    | refine sat_drawH (COk.with_ (Tryd.ok ..) _ _) (by kernel_rfl) ?_
    | refine sat_drawH (COk.with_ (COk.with_ (Tryd.ok ..) _ _) _ _) (by kernel_rfl) ?_
    | refine Exists.intro [_] (And.intro (one_byte rfl) ?_)
    | refine Exists.intro [_] (And.intro (fun _ => one_byte rfl) ?_)
    | refine Exists.intro _ (And.intro (And.intro rfl rfl) ?_)
    | refine Exists.intro _ (And.intro (fun _ => And.intro rfl rfl) ?_)
    | refine Exists.intro _ (And.intro rfl ?_))
  intro g2 hg2
  repeat' ((conv => whnf); first
    | refine walk (Tryd.ok ..) ?_
    | refine walk (COk.with_ (Tryd.ok ..) _ _) ?_
    | refine walk (COk.with_ (COk.with_ (Tryd.ok ..) _ _) _ _) ?_
    | (refine Cnd.mk (fun h => ?_) (fun h => ?_) <;> (first | (exfalso; simp only [decide_eq_true_eq, decide_eq_false_iff_not, Bool.not_eq_true', Bool.not_eq_false'] at h; omega) | (exfalso; simp at h; omega) | simp at h | skip))
    | refine And.intro (Kept.mk ?_) ?_
    | refine Two.mk (And.intro ?_ ?_)
    | exact trivial
    | refine side ?_
    | refine sideL ?_
    | refine Or.inr ?_
    | refine sat_drawH (Tryd.ok ..) (by kernel_rfl) ?_
    | refine sat_drawH (COk.with_ (Tryd.ok ..) _ _) (by kernel_rfl) ?_
    | refine sat_drawH (COk.with_ (COk.with_ (Tryd.ok ..) _ _) _ _) (by kernel_rfl) ?_
    | refine Exists.intro [_] (And.intro (one_byte rfl) ?_)
    | refine Exists.intro [_] (And.intro (fun _ => one_byte rfl) ?_)
    | refine Exists.intro _ (And.intro (And.intro rfl rfl) ?_)
    | refine Exists.intro _ (And.intro (fun _ => And.intro rfl rfl) ?_)
    | refine Exists.intro _ (And.intro rfl ?_))
  intro g4 hg4
  repeat' ((conv => whnf); first
    | refine walk (Tryd.ok ..) ?_
    | refine walk (COk.with_ (Tryd.ok ..) _ _) ?_
    | refine walk (COk.with_ (COk.with_ (Tryd.ok ..) _ _) _ _) ?_
    | (refine Cnd.mk (fun h => ?_) (fun h => ?_) <;> (first | (exfalso; simp only [decide_eq_true_eq, decide_eq_false_iff_not, Bool.not_eq_true', Bool.not_eq_false'] at h; omega) | (exfalso; simp at h; omega) | simp at h | skip))
    | refine And.intro (Kept.mk ?_) ?_
    | refine Two.mk (And.intro ?_ ?_)
    | exact trivial
    | refine side ?_
    | refine sideL ?_
    | refine Or.inr ?_
    | refine sat_drawH (Tryd.ok ..) (by kernel_rfl) ?_
    | refine sat_drawH (COk.with_ (Tryd.ok ..) _ _) (by kernel_rfl) ?_
    | refine sat_drawH (COk.with_ (COk.with_ (Tryd.ok ..) _ _) _ _) (by kernel_rfl) ?_
    | refine Exists.intro [_] (And.intro (one_byte rfl) ?_)
    | refine Exists.intro [_] (And.intro (fun _ => one_byte rfl) ?_)
    | refine Exists.intro _ (And.intro (And.intro rfl rfl) ?_)
    | refine Exists.intro _ (And.intro (fun _ => And.intro rfl rfl) ?_)
    | refine Exists.intro _ (And.intro rfl ?_))
  refine called_row 40 (fun v => v) (fun A cap => .o 40 A (pieces s).length cap) (fun A cap => rfl) (fun w' hh => split_any s hs (hw.at_ rfl rfl hh)) ?_
  intro A1 cap1
  have hlen := pieces_len s
  have hle := Lib.countB_le ⟨#[32]⟩ (by show 1 ≤ 1; omega) s.size s (Nat.le_refl _)
  have hdat := pieces_data s
  obtain ⟨q, hq⟩ : ∃ q, pieces s = q := ⟨_, rfl⟩
  have hwp := fun c h1 h2 => (pieces_wr (s := s) (c := c) h1 h2)
  have hpw := fun p a d v1 v2 h => (wr_pieces (s := s) (p := p) (a := a) (d := d) (v1 := v1) (v2 := v2) h)
  rw [hq] at hlen hdat hwp hpw ⊢
  by_cases h3 : q.length = 3
  · obtain ⟨p, a, d, rfl⟩ : ∃ p a d, q = [p, a, d] := by
      match q, h3 with
      | [p, a, d], _ => exact ⟨p, a, d, rfl⟩
    have hsz : a.size ≤ s.size ∧ d.size ≤ s.size := by
      simp only [List.map_cons, List.map_nil] at hdat
      obtain ⟨e, _⟩ := cutAt_three hdat.symm
      have := congrArg List.length e
      simp at this
      omega
    repeat' ((conv => whnf); first
      | refine walk (Tryd.ok ..) ?_
      | refine walk (COk.with_ (Tryd.ok ..) _ _) ?_
      | refine walk (COk.with_ (COk.with_ (Tryd.ok ..) _ _) _ _) ?_
      | (refine Cnd.mk (fun h => ?_) (fun h => ?_) <;> (first | (exfalso; simp only [decide_eq_true_eq, decide_eq_false_iff_not, Bool.not_eq_true', Bool.not_eq_false'] at h; omega) | (exfalso; simp at h; omega) | simp at h | skip))
      | refine And.intro (Kept.mk ?_) ?_
      | refine Two.mk (And.intro ?_ ?_)
      | exact trivial
      | refine side ?_
      | refine sideL ?_
      | refine Or.inr ?_
      | refine Exists.intro [_] (And.intro (one_byte rfl) ?_)
      | refine Exists.intro [_] (And.intro (fun _ => one_byte rfl) ?_)
      | refine Exists.intro _ (And.intro (And.intro rfl rfl) ?_)
      | refine Exists.intro _ (And.intro (fun _ => And.intro rfl rfl) ?_)
      | refine Exists.intro _ (And.intro rfl ?_))
    refine sat_draw (Tryd.ok ..) [] [(40, .row A1 9 1 3 cap1 [.string p, .string a, .string d])] (by kernel_rfl) (fun w hw => hw.sub ?_) ?_
    · ((repeat' (first | exact trivial | exact rfl | refine And.intro ?_ ?_)) <;> (try (conv => whnf)) <;> (try simp only [SV.real, SV.r2, SV.r1]))
    obtain ⟨c, hc⟩ : ∃ c : Cl, c = ⟨p, atN a, atN d⟩ := ⟨_, rfl⟩
    repeat' ((conv => whnf); first
      | refine walk (Tryd.ok ..) ?_
      | refine walk (COk.with_ (Tryd.ok ..) _ _) ?_
      | refine walk (COk.with_ (COk.with_ (Tryd.ok ..) _ _) _ _) ?_
      | (refine Cnd.mk (fun h => ?_) (fun h => ?_) <;> (first | (exfalso; simp only [decide_eq_true_eq, decide_eq_false_iff_not, Bool.not_eq_true', Bool.not_eq_false'] at h; omega) | (exfalso; simp at h; omega) | simp at h | skip))
      | refine And.intro (Kept.mk ?_) ?_
      | refine Two.mk (And.intro ?_ ?_)
      | exact trivial
      | refine side ?_
      | refine sideL ?_
      | refine Or.inr ?_
      | refine sat_drawH (Tryd.ok ..) (by kernel_rfl) ?_
      | refine sat_drawH (COk.with_ (Tryd.ok ..) _ _) (by kernel_rfl) ?_
      | refine sat_drawH (COk.with_ (COk.with_ (Tryd.ok ..) _ _) _ _) (by kernel_rfl) ?_
      | refine Exists.intro [_] (And.intro (one_byte rfl) ?_)
      | refine Exists.intro [_] (And.intro (fun _ => one_byte rfl) ?_)
      | refine Exists.intro _ (And.intro (And.intro rfl rfl) ?_)
      | refine Exists.intro _ (And.intro (fun _ => And.intro rfl rfl) ?_)
      | refine Exists.intro _ (And.intro rfl ?_))
    · refine called_set 4 [.v (.bool (true && atF a))] (.v (.int .i64 (atN a))) rfl (fun w' hh => num_any a g4 (true) w' (by omega) (wf_mod hw rfl rfl hg4 hh) (hh.at_ (i := 4) rfl).2) ?_
      repeat' ((conv => whnf); first
        | refine walk (Tryd.ok ..) ?_
        | refine walk (COk.with_ (Tryd.ok ..) _ _) ?_
        | refine walk (COk.with_ (COk.with_ (Tryd.ok ..) _ _) _ _) ?_
        | (refine Cnd.mk (fun h => ?_) (fun h => ?_) <;> (first | (exfalso; simp only [decide_eq_true_eq, decide_eq_false_iff_not, Bool.not_eq_true', Bool.not_eq_false'] at h; omega) | (exfalso; simp at h; omega) | simp at h | skip))
        | refine And.intro (Kept.mk ?_) ?_
        | refine Two.mk (And.intro ?_ ?_)
        | exact trivial
        | refine side ?_
        | refine sideL ?_
        | refine Or.inr ?_
        | refine sat_drawH (Tryd.ok ..) (by kernel_rfl) ?_
        | refine sat_drawH (COk.with_ (Tryd.ok ..) _ _) (by kernel_rfl) ?_
        | refine sat_drawH (COk.with_ (COk.with_ (Tryd.ok ..) _ _) _ _) (by kernel_rfl) ?_
        | refine Exists.intro [_] (And.intro (one_byte rfl) ?_)
        | refine Exists.intro [_] (And.intro (fun _ => one_byte rfl) ?_)
        | refine Exists.intro _ (And.intro (And.intro rfl rfl) ?_)
        | refine Exists.intro _ (And.intro (fun _ => And.intro rfl rfl) ?_)
        | refine Exists.intro _ (And.intro rfl ?_))
      · refine called_set 4 [.v (.bool (true && atF a && atF d))] (.v (.int .i64 (atN d))) rfl (fun w' hh => num_any d g4 (true && atF a) w' (by omega) (wf_mod hw rfl rfl hg4 hh) (hh.at_ (i := 4) rfl).2) ?_
        repeat' ((conv => whnf); first
          | refine walk (Tryd.ok ..) ?_
          | refine walk (COk.with_ (Tryd.ok ..) _ _) ?_
          | refine walk (COk.with_ (COk.with_ (Tryd.ok ..) _ _) _ _) ?_
          | (refine Cnd.mk (fun h => ?_) (fun h => ?_) <;> (first | (exfalso; simp only [decide_eq_true_eq, decide_eq_false_iff_not, Bool.not_eq_true', Bool.not_eq_false'] at h; omega) | (exfalso; simp at h; omega) | simp at h | skip))
          | refine And.intro (Kept.mk ?_) ?_
          | refine Two.mk (And.intro ?_ ?_)
          | exact trivial
          | refine side ?_
          | refine sideL ?_
          | refine Or.inr ?_
          | refine sat_drawH (Tryd.ok ..) (by kernel_rfl) ?_
          | refine sat_drawH (COk.with_ (Tryd.ok ..) _ _) (by kernel_rfl) ?_
          | refine sat_drawH (COk.with_ (COk.with_ (Tryd.ok ..) _ _) _ _) (by kernel_rfl) ?_
          | refine Exists.intro [_] (And.intro (one_byte rfl) ?_)
          | refine Exists.intro [_] (And.intro (fun _ => one_byte rfl) ?_)
          | refine Exists.intro _ (And.intro (And.intro rfl rfl) ?_)
          | refine Exists.intro _ (And.intro (fun _ => And.intro rfl rfl) ?_)
          | refine Exists.intro _ (And.intro rfl ?_))
        intro g7 hg7
        repeat' ((conv => whnf); first
          | refine walk (Tryd.ok ..) ?_
          | refine walk (COk.with_ (Tryd.ok ..) _ _) ?_
          | refine walk (COk.with_ (COk.with_ (Tryd.ok ..) _ _) _ _) ?_
          | (refine Cnd.mk (fun h => ?_) (fun h => ?_) <;> (first | (exfalso; simp only [decide_eq_true_eq, decide_eq_false_iff_not, Bool.not_eq_true', Bool.not_eq_false'] at h; omega) | (exfalso; simp at h; omega) | simp at h | skip))
          | refine And.intro (Kept.mk ?_) ?_
          | refine Two.mk (And.intro ?_ ?_)
          | exact trivial
          | refine side ?_
          | refine sideL ?_
          | refine Or.inr ?_
          | refine sat_drawH (Tryd.ok ..) (by kernel_rfl) ?_
          | refine sat_drawH (COk.with_ (Tryd.ok ..) _ _) (by kernel_rfl) ?_
          | refine sat_drawH (COk.with_ (COk.with_ (Tryd.ok ..) _ _) _ _) (by kernel_rfl) ?_
          | refine Exists.intro [_] (And.intro (one_byte rfl) ?_)
          | refine Exists.intro [_] (And.intro (fun _ => one_byte rfl) ?_)
          | refine Exists.intro _ (And.intro (And.intro rfl rfl) ?_)
          | refine Exists.intro _ (And.intro (fun _ => And.intro rfl rfl) ?_)
          | refine Exists.intro _ (And.intro rfl ?_))
        refine calledQ_pure (.v (.bool (rightC c))) rfl (fun _ w' => by rw [hc]; exact right_any _ w') ?_
        repeat' ((conv => whnf); first
          | refine walk (Tryd.ok ..) ?_
          | refine walk (COk.with_ (Tryd.ok ..) _ _) ?_
          | refine walk (COk.with_ (COk.with_ (Tryd.ok ..) _ _) _ _) ?_
          | (refine Cnd.mk (fun h => ?_) (fun h => ?_) <;> (first | (exfalso; simp only [decide_eq_true_eq, decide_eq_false_iff_not, Bool.not_eq_true', Bool.not_eq_false'] at h; omega) | (exfalso; simp at h; omega) | simp at h | skip))
          | refine And.intro (Kept.mk ?_) ?_
          | refine Two.mk (And.intro ?_ ?_)
          | exact trivial
          | refine side ?_
          | refine sideL ?_
          | refine Or.inr ?_
          | refine sat_drawH (Tryd.ok ..) (by kernel_rfl) ?_
          | refine sat_drawH (COk.with_ (Tryd.ok ..) _ _) (by kernel_rfl) ?_
          | refine sat_drawH (COk.with_ (COk.with_ (Tryd.ok ..) _ _) _ _) (by kernel_rfl) ?_
          | refine Exists.intro [_] (And.intro (one_byte rfl) ?_)
          | refine Exists.intro [_] (And.intro (fun _ => one_byte rfl) ?_)
          | refine Exists.intro _ (And.intro (And.intro rfl rfl) ?_)
          | refine Exists.intro _ (And.intro (fun _ => And.intro rfl rfl) ?_)
          | refine Exists.intro _ (And.intro rfl ?_))
        · have hbad := h
          exact done_pure rfl rfl (by
            rw [bad fun e h1 h2 => ?_]
            · rfl
            have hq2 := hwp e h1 h2
            simp only [List.cons.injEq, and_true] at hq2
            obtain ⟨q1, q2, q3⟩ := hq2
            have hb := rightC_bd h1
            have r2 := at_itB hb.1 hb.2.1
            have r3 := at_itB hb.2.2.1 (show e.d ≤ 100000000 by omega)
            rw [← q2] at r2
            rw [← q3] at r3
            have hce : c = e := by rw [hc, r2.1, r3.1, q1]
            rw [r2.2, r3.2, hce, h1] at hbad
            simp at hbad)
        · have hgood := h
          have ha : atF a = true := hgood.1.1
          have hd : atF d = true := hgood.1.2
          have hrc : rightC c = true := hgood.2
          have hwr : wrB c = s := by rw [hc]; exact hpw p a d _ _ rfl (at_back ha) (at_back hd)
          have hpr := pr_some (prs_of hrc hwr)
          exact done_pure rfl rfl (by unfold prV; rw [hpr.1, hpr.2, hc]; rfl)
      · intro g7 hg7
        repeat' ((conv => whnf); first
          | refine walk (Tryd.ok ..) ?_
          | refine walk (COk.with_ (Tryd.ok ..) _ _) ?_
          | refine walk (COk.with_ (COk.with_ (Tryd.ok ..) _ _) _ _) ?_
          | (refine Cnd.mk (fun h => ?_) (fun h => ?_) <;> (first | (exfalso; simp only [decide_eq_true_eq, decide_eq_false_iff_not, Bool.not_eq_true', Bool.not_eq_false'] at h; omega) | (exfalso; simp at h; omega) | simp at h | skip))
          | refine And.intro (Kept.mk ?_) ?_
          | refine Two.mk (And.intro ?_ ?_)
          | exact trivial
          | refine side ?_
          | refine sideL ?_
          | refine Or.inr ?_
          | refine sat_drawH (Tryd.ok ..) (by kernel_rfl) ?_
          | refine sat_drawH (COk.with_ (Tryd.ok ..) _ _) (by kernel_rfl) ?_
          | refine sat_drawH (COk.with_ (COk.with_ (Tryd.ok ..) _ _) _ _) (by kernel_rfl) ?_
          | refine Exists.intro [_] (And.intro (one_byte rfl) ?_)
          | refine Exists.intro [_] (And.intro (fun _ => one_byte rfl) ?_)
          | refine Exists.intro _ (And.intro (And.intro rfl rfl) ?_)
          | refine Exists.intro _ (And.intro (fun _ => And.intro rfl rfl) ?_)
          | refine Exists.intro _ (And.intro rfl ?_))
        refine called_set 4 [.v (.bool (true && atF a && atF d))] (.v (.int .i64 (atN d))) rfl (fun w' hh => num_any d g4 (true && atF a) w' (by omega) (wf_mod hw rfl rfl hg4 hh) (hh.at_ (i := 4) rfl).2) ?_
        repeat' ((conv => whnf); first
          | refine walk (Tryd.ok ..) ?_
          | refine walk (COk.with_ (Tryd.ok ..) _ _) ?_
          | refine walk (COk.with_ (COk.with_ (Tryd.ok ..) _ _) _ _) ?_
          | (refine Cnd.mk (fun h => ?_) (fun h => ?_) <;> (first | (exfalso; simp only [decide_eq_true_eq, decide_eq_false_iff_not, Bool.not_eq_true', Bool.not_eq_false'] at h; omega) | (exfalso; simp at h; omega) | simp at h | skip))
          | refine And.intro (Kept.mk ?_) ?_
          | refine Two.mk (And.intro ?_ ?_)
          | exact trivial
          | refine side ?_
          | refine sideL ?_
          | refine Or.inr ?_
          | refine sat_drawH (Tryd.ok ..) (by kernel_rfl) ?_
          | refine sat_drawH (COk.with_ (Tryd.ok ..) _ _) (by kernel_rfl) ?_
          | refine sat_drawH (COk.with_ (COk.with_ (Tryd.ok ..) _ _) _ _) (by kernel_rfl) ?_
          | refine Exists.intro [_] (And.intro (one_byte rfl) ?_)
          | refine Exists.intro [_] (And.intro (fun _ => one_byte rfl) ?_)
          | refine Exists.intro _ (And.intro (And.intro rfl rfl) ?_)
          | refine Exists.intro _ (And.intro (fun _ => And.intro rfl rfl) ?_)
          | refine Exists.intro _ (And.intro rfl ?_))
        refine calledQ_pure (.v (.bool (rightC c))) rfl (fun _ w' => by rw [hc]; exact right_any _ w') ?_
        repeat' ((conv => whnf); first
          | refine walk (Tryd.ok ..) ?_
          | refine walk (COk.with_ (Tryd.ok ..) _ _) ?_
          | refine walk (COk.with_ (COk.with_ (Tryd.ok ..) _ _) _ _) ?_
          | (refine Cnd.mk (fun h => ?_) (fun h => ?_) <;> (first | (exfalso; simp only [decide_eq_true_eq, decide_eq_false_iff_not, Bool.not_eq_true', Bool.not_eq_false'] at h; omega) | (exfalso; simp at h; omega) | simp at h | skip))
          | refine And.intro (Kept.mk ?_) ?_
          | refine Two.mk (And.intro ?_ ?_)
          | exact trivial
          | refine side ?_
          | refine sideL ?_
          | refine Or.inr ?_
          | refine sat_drawH (Tryd.ok ..) (by kernel_rfl) ?_
          | refine sat_drawH (COk.with_ (Tryd.ok ..) _ _) (by kernel_rfl) ?_
          | refine sat_drawH (COk.with_ (COk.with_ (Tryd.ok ..) _ _) _ _) (by kernel_rfl) ?_
          | refine Exists.intro [_] (And.intro (one_byte rfl) ?_)
          | refine Exists.intro [_] (And.intro (fun _ => one_byte rfl) ?_)
          | refine Exists.intro _ (And.intro (And.intro rfl rfl) ?_)
          | refine Exists.intro _ (And.intro (fun _ => And.intro rfl rfl) ?_)
          | refine Exists.intro _ (And.intro rfl ?_))
        · have hbad := h
          exact done_pure rfl rfl (by
            rw [bad fun e h1 h2 => ?_]
            · rfl
            have hq2 := hwp e h1 h2
            simp only [List.cons.injEq, and_true] at hq2
            obtain ⟨q1, q2, q3⟩ := hq2
            have hb := rightC_bd h1
            have r2 := at_itB hb.1 hb.2.1
            have r3 := at_itB hb.2.2.1 (show e.d ≤ 100000000 by omega)
            rw [← q2] at r2
            rw [← q3] at r3
            have hce : c = e := by rw [hc, r2.1, r3.1, q1]
            rw [r2.2, r3.2, hce, h1] at hbad
            simp at hbad)
        · have hgood := h
          have ha : atF a = true := hgood.1.1
          have hd : atF d = true := hgood.1.2
          have hrc : rightC c = true := hgood.2
          have hwr : wrB c = s := by rw [hc]; exact hpw p a d _ _ rfl (at_back ha) (at_back hd)
          have hpr := pr_some (prs_of hrc hwr)
          exact done_pure rfl rfl (by unfold prV; rw [hpr.1, hpr.2, hc]; rfl)
    · intro g7 hg7
      repeat' ((conv => whnf); first
        | refine walk (Tryd.ok ..) ?_
        | refine walk (COk.with_ (Tryd.ok ..) _ _) ?_
        | refine walk (COk.with_ (COk.with_ (Tryd.ok ..) _ _) _ _) ?_
        | (refine Cnd.mk (fun h => ?_) (fun h => ?_) <;> (first | (exfalso; simp only [decide_eq_true_eq, decide_eq_false_iff_not, Bool.not_eq_true', Bool.not_eq_false'] at h; omega) | (exfalso; simp at h; omega) | simp at h | skip))
        | refine And.intro (Kept.mk ?_) ?_
        | refine Two.mk (And.intro ?_ ?_)
        | exact trivial
        | refine side ?_
        | refine sideL ?_
        | refine Or.inr ?_
        | refine sat_drawH (Tryd.ok ..) (by kernel_rfl) ?_
        | refine sat_drawH (COk.with_ (Tryd.ok ..) _ _) (by kernel_rfl) ?_
        | refine sat_drawH (COk.with_ (COk.with_ (Tryd.ok ..) _ _) _ _) (by kernel_rfl) ?_
        | refine Exists.intro [_] (And.intro (one_byte rfl) ?_)
        | refine Exists.intro [_] (And.intro (fun _ => one_byte rfl) ?_)
        | refine Exists.intro _ (And.intro (And.intro rfl rfl) ?_)
        | refine Exists.intro _ (And.intro (fun _ => And.intro rfl rfl) ?_)
        | refine Exists.intro _ (And.intro rfl ?_))
      refine called_set 4 [.v (.bool (true && atF a))] (.v (.int .i64 (atN a))) rfl (fun w' hh => num_any a g4 (true) w' (by omega) (wf_mod hw rfl rfl hg4 hh) (hh.at_ (i := 4) rfl).2) ?_
      repeat' ((conv => whnf); first
        | refine walk (Tryd.ok ..) ?_
        | refine walk (COk.with_ (Tryd.ok ..) _ _) ?_
        | refine walk (COk.with_ (COk.with_ (Tryd.ok ..) _ _) _ _) ?_
        | (refine Cnd.mk (fun h => ?_) (fun h => ?_) <;> (first | (exfalso; simp only [decide_eq_true_eq, decide_eq_false_iff_not, Bool.not_eq_true', Bool.not_eq_false'] at h; omega) | (exfalso; simp at h; omega) | simp at h | skip))
        | refine And.intro (Kept.mk ?_) ?_
        | refine Two.mk (And.intro ?_ ?_)
        | exact trivial
        | refine side ?_
        | refine sideL ?_
        | refine Or.inr ?_
        | refine sat_drawH (Tryd.ok ..) (by kernel_rfl) ?_
        | refine sat_drawH (COk.with_ (Tryd.ok ..) _ _) (by kernel_rfl) ?_
        | refine sat_drawH (COk.with_ (COk.with_ (Tryd.ok ..) _ _) _ _) (by kernel_rfl) ?_
        | refine Exists.intro [_] (And.intro (one_byte rfl) ?_)
        | refine Exists.intro [_] (And.intro (fun _ => one_byte rfl) ?_)
        | refine Exists.intro _ (And.intro (And.intro rfl rfl) ?_)
        | refine Exists.intro _ (And.intro (fun _ => And.intro rfl rfl) ?_)
        | refine Exists.intro _ (And.intro rfl ?_))
      refine called_set 4 [.v (.bool (true && atF a && atF d))] (.v (.int .i64 (atN d))) rfl (fun w' hh => num_any d g4 (true && atF a) w' (by omega) (wf_mod hw rfl rfl hg4 hh) (hh.at_ (i := 4) rfl).2) ?_
      repeat' ((conv => whnf); first
        | refine walk (Tryd.ok ..) ?_
        | refine walk (COk.with_ (Tryd.ok ..) _ _) ?_
        | refine walk (COk.with_ (COk.with_ (Tryd.ok ..) _ _) _ _) ?_
        | (refine Cnd.mk (fun h => ?_) (fun h => ?_) <;> (first | (exfalso; simp only [decide_eq_true_eq, decide_eq_false_iff_not, Bool.not_eq_true', Bool.not_eq_false'] at h; omega) | (exfalso; simp at h; omega) | simp at h | skip))
        | refine And.intro (Kept.mk ?_) ?_
        | refine Two.mk (And.intro ?_ ?_)
        | exact trivial
        | refine side ?_
        | refine sideL ?_
        | refine Or.inr ?_
        | refine sat_drawH (Tryd.ok ..) (by kernel_rfl) ?_
        | refine sat_drawH (COk.with_ (Tryd.ok ..) _ _) (by kernel_rfl) ?_
        | refine sat_drawH (COk.with_ (COk.with_ (Tryd.ok ..) _ _) _ _) (by kernel_rfl) ?_
        | refine Exists.intro [_] (And.intro (one_byte rfl) ?_)
        | refine Exists.intro [_] (And.intro (fun _ => one_byte rfl) ?_)
        | refine Exists.intro _ (And.intro (And.intro rfl rfl) ?_)
        | refine Exists.intro _ (And.intro (fun _ => And.intro rfl rfl) ?_)
        | refine Exists.intro _ (And.intro rfl ?_))
      refine calledQ_pure (.v (.bool (rightC c))) rfl (fun _ w' => by rw [hc]; exact right_any _ w') ?_
      repeat' ((conv => whnf); first
        | refine walk (Tryd.ok ..) ?_
        | refine walk (COk.with_ (Tryd.ok ..) _ _) ?_
        | refine walk (COk.with_ (COk.with_ (Tryd.ok ..) _ _) _ _) ?_
        | (refine Cnd.mk (fun h => ?_) (fun h => ?_) <;> (first | (exfalso; simp only [decide_eq_true_eq, decide_eq_false_iff_not, Bool.not_eq_true', Bool.not_eq_false'] at h; omega) | (exfalso; simp at h; omega) | simp at h | skip))
        | refine And.intro (Kept.mk ?_) ?_
        | refine Two.mk (And.intro ?_ ?_)
        | exact trivial
        | refine side ?_
        | refine sideL ?_
        | refine Or.inr ?_
        | refine sat_drawH (Tryd.ok ..) (by kernel_rfl) ?_
        | refine sat_drawH (COk.with_ (Tryd.ok ..) _ _) (by kernel_rfl) ?_
        | refine sat_drawH (COk.with_ (COk.with_ (Tryd.ok ..) _ _) _ _) (by kernel_rfl) ?_
        | refine Exists.intro [_] (And.intro (one_byte rfl) ?_)
        | refine Exists.intro [_] (And.intro (fun _ => one_byte rfl) ?_)
        | refine Exists.intro _ (And.intro (And.intro rfl rfl) ?_)
        | refine Exists.intro _ (And.intro (fun _ => And.intro rfl rfl) ?_)
        | refine Exists.intro _ (And.intro rfl ?_))
      · have hbad := h
        exact done_pure rfl rfl (by
          rw [bad fun e h1 h2 => ?_]
          · rfl
          have hq2 := hwp e h1 h2
          simp only [List.cons.injEq, and_true] at hq2
          obtain ⟨q1, q2, q3⟩ := hq2
          have hb := rightC_bd h1
          have r2 := at_itB hb.1 hb.2.1
          have r3 := at_itB hb.2.2.1 (show e.d ≤ 100000000 by omega)
          rw [← q2] at r2
          rw [← q3] at r3
          have hce : c = e := by rw [hc, r2.1, r3.1, q1]
          rw [r2.2, r3.2, hce, h1] at hbad
          simp at hbad)
      · have hgood := h
        have ha : atF a = true := hgood.1.1
        have hd : atF d = true := hgood.1.2
        have hrc : rightC c = true := hgood.2
        have hwr : wrB c = s := by rw [hc]; exact hpw p a d _ _ rfl (at_back ha) (at_back hd)
        have hpr := pr_some (prs_of hrc hwr)
        exact done_pure rfl rfl (by unfold prV; rw [hpr.1, hpr.2, hc]; rfl)
  · repeat' ((conv => whnf); first
      | refine walk (Tryd.ok ..) ?_
      | refine walk (COk.with_ (Tryd.ok ..) _ _) ?_
      | refine walk (COk.with_ (COk.with_ (Tryd.ok ..) _ _) _ _) ?_
      | (refine Cnd.mk (fun h => ?_) (fun h => ?_) <;> (first | (exfalso; simp only [decide_eq_true_eq, decide_eq_false_iff_not, Bool.not_eq_true', Bool.not_eq_false'] at h; omega) | (exfalso; simp at h; omega) | simp at h | skip))
      | refine And.intro (Kept.mk ?_) ?_
      | refine Two.mk (And.intro ?_ ?_)
      | exact trivial
      | refine side ?_
      | refine sideL ?_
      | refine Or.inr ?_
      | refine sat_drawH (Tryd.ok ..) (by kernel_rfl) ?_
      | refine sat_drawH (COk.with_ (Tryd.ok ..) _ _) (by kernel_rfl) ?_
      | refine sat_drawH (COk.with_ (COk.with_ (Tryd.ok ..) _ _) _ _) (by kernel_rfl) ?_
      | refine Exists.intro [_] (And.intro (one_byte rfl) ?_)
      | refine Exists.intro [_] (And.intro (fun _ => one_byte rfl) ?_)
      | refine Exists.intro _ (And.intro (And.intro rfl rfl) ?_)
      | refine Exists.intro _ (And.intro (fun _ => And.intro rfl rfl) ?_)
      | refine Exists.intro _ (And.intro rfl ?_))
    exact done_pure rfl rfl (by
      rw [bad fun c h1 h2 => ?_]
      · rfl
      exact h3 (by rw [hwp c h1 h2]; rfl))
end Go.Proofs.YtbpklalkoocneaaDoor

