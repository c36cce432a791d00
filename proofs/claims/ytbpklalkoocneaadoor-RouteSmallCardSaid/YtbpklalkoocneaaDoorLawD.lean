/-
  The walks of the laws of routes that are made of hops: what is written is read.
-/
import Derived.Test.YtbpklalkoocneaaDoorHopW
namespace Go.Proofs.YtbpklalkoocneaaDoor
open Go Sat Go.RowKit Go.PlainAid
set_option linter.unusedSimpArgs false
set_option linter.unusedVariables false
theorem wrB_size {c : Cl} (h : rightC c = true) : (wrB c).size ≤ 100 := by
  have hb := rightC_bd h
  have hp := rightC_size h
  have h1 := itB_len (n := c.t) (by omega) (by omega)
  have h2 := itB_len (n := c.d) (by omega) (by omega)
  have hs1 : (⟨#[32]⟩ : ByteArray).size = 1 := rfl
  unfold wrB
  simp only [ByteArray.size_append]
  omega
theorem pr_back {c : Cl} (h : rightC c = true) : prV (wrB c) = .tuple #[.agg #[.string c.p, .int .i64 c.t, .int .i64 c.d], .int .i64 0] := by
  have := pr_some (prs_of h (rfl : wrB c = wrB c))
  unfold prV
  rw [this.1, this.2]
set_option maxRecDepth 100000 in
set_option maxHeartbeats 8000000 in
theorem routeBack_any (x : List Hop) (A : Option (Nat × Nat)) (cap : Nat) (s : ByteArray) (w : World) (hro : Ro w A x.length 3 (hops x)) (hx : ∀ h ∈ x, HopOk h) (hl : x.length ≤ 9223372036854775807) (hcap : x.length ≤ cap) (hs : s.size ≤ 4294967280) (hw : Wf w) : Calls Tryd.prog 5 #[.slice (adr A) x.length cap, .string s] w fun e w' => e = .returned (.bool true) ∧ Below w.heap.size w w' := by
  refine calls_sat (cx := Tryd.cx 95 [] [] [] w) (Tryd.ok ..) Tryd.func5 rfl [.o 100 A x.length cap, .v (.string s)] rfl (by show 2 ≤ 95; omega) [(100, .ro A x.length 3 (hops x))] (holds_ros rfl rfl ⟨hro, trivial⟩) ?_
  have hM := made_is hx
  obtain ⟨L, hL⟩ : ∃ L, L = madeL x := ⟨_, rfl⟩
  rw [← hL] at hM
  obtain ⟨n2, n20, vI, vE, bd⟩ := hM
  repeat' ((conv => whnf); first
    | refine walk (Tryd.ok ..) ?_
    | refine walk (COk.with_ (Tryd.ok ..) _ _) ?_
    | refine walk (COk.with_ (COk.with_ (Tryd.ok ..) _ _) _ _) ?_
    | (refine Cnd.mk (fun h => ?_) (fun h => ?_) <;> (first | (exfalso; simp only [decide_eq_true_eq, decide_eq_false_iff_not, Bool.not_eq_true', Bool.not_eq_false'] at h; omega) | (exfalso; simp at h; omega) | simp at h | skip))
    | refine And.intro (Kept.mk ?_) ?_
    | refine Two.mk (And.intro ?_ ?_)
    | exact trivial
    | refine side ?_
    | refine sideL ?_
    | refine Or.inr ?_
    | refine sat_drawH (Tryd.ok ..) (by kernel_rfl) ?_
    | refine sat_drawH (COk.with_ (Tryd.ok ..) _ _) (by kernel_rfl) ?_
    | refine sat_drawH (COk.with_ (COk.with_ (Tryd.ok ..) _ _) _ _) (by kernel_rfl) ?_
    | refine Exists.intro [_] (And.intro (one_byte rfl) ?_)
    | refine Exists.intro [_] (And.intro (fun _ => one_byte rfl) ?_)
    | refine Exists.intro _ (And.intro (And.intro rfl rfl) ?_)
    | refine Exists.intro _ (And.intro (fun _ => And.intro rfl rfl) ?_)
    | refine Exists.intro _ (And.intro rfl ?_))
  refine called_row 19 (fun v => v) (fun A cap => .o 19 A L.length cap) (fun A cap => rfl) (fun w' hh => by have := made_row (ro_of_ro hh (id := 100) rfl) hx hl hcap; rw [← hL] at this; exact this) ?_
  intro A1 cap1
  repeat' ((conv => whnf); first
    | refine walk (Tryd.ok ..) ?_
    | refine walk (COk.with_ (Tryd.ok ..) _ _) ?_
    | refine walk (COk.with_ (COk.with_ (Tryd.ok ..) _ _) _ _) ?_
    | (refine Cnd.mk (fun h => ?_) (fun h => ?_) <;> (first | (exfalso; simp only [decide_eq_true_eq, decide_eq_false_iff_not, Bool.not_eq_true', Bool.not_eq_false'] at h; omega) | (exfalso; simp at h; omega) | simp at h | skip))
    | refine And.intro (Kept.mk ?_) ?_
    | refine Two.mk (And.intro ?_ ?_)
    | exact trivial
    | refine side ?_
    | refine sideL ?_
    | refine Or.inr ?_
    | refine sat_drawH (Tryd.ok ..) (by kernel_rfl) ?_
    | refine sat_drawH (COk.with_ (Tryd.ok ..) _ _) (by kernel_rfl) ?_
    | refine sat_drawH (COk.with_ (COk.with_ (Tryd.ok ..) _ _) _ _) (by kernel_rfl) ?_
    | refine Exists.intro [_] (And.intro (one_byte rfl) ?_)
    | refine Exists.intro [_] (And.intro (fun _ => one_byte rfl) ?_)
    | refine Exists.intro _ (And.intro (And.intro rfl rfl) ?_)
    | refine Exists.intro _ (And.intro (fun _ => And.intro rfl rfl) ?_)
    | refine Exists.intro _ (And.intro rfl ?_))
  refine called_at (.t [.v (.int .i64 (-1)), .v (.int .i64 0)]) rfl (fun w' hh => by have := valid_any L A1 cap1 w' (ro_of_row hh (id := 19) rfl) (by omega); rw [vI, vE] at this; exact this) ?_
  repeat' ((conv => whnf); first
    | refine walk (Tryd.ok ..) ?_
    | refine walk (COk.with_ (Tryd.ok ..) _ _) ?_
    | refine walk (COk.with_ (COk.with_ (Tryd.ok ..) _ _) _ _) ?_
    | (refine Cnd.mk (fun h => ?_) (fun h => ?_) <;> (first | (exfalso; simp only [decide_eq_true_eq, decide_eq_false_iff_not, Bool.not_eq_true', Bool.not_eq_false'] at h; omega) | (exfalso; simp at h; omega) | simp at h | skip))
    | refine And.intro (Kept.mk ?_) ?_
    | refine Two.mk (And.intro ?_ ?_)
    | exact trivial
    | refine side ?_
    | refine sideL ?_
    | refine Or.inr ?_
    | refine sat_drawH (Tryd.ok ..) (by kernel_rfl) ?_
    | refine sat_drawH (COk.with_ (Tryd.ok ..) _ _) (by kernel_rfl) ?_
    | refine sat_drawH (COk.with_ (COk.with_ (Tryd.ok ..) _ _) _ _) (by kernel_rfl) ?_
    | refine Exists.intro [_] (And.intro (one_byte rfl) ?_)
    | refine Exists.intro [_] (And.intro (fun _ => one_byte rfl) ?_)
    | refine Exists.intro _ (And.intro (And.intro rfl rfl) ?_)
    | refine Exists.intro _ (And.intro (fun _ => And.intro rfl rfl) ?_)
    | refine Exists.intro _ (And.intro rfl ?_))
  refine sat_loop (Tryd.ok ..) (α := Nat) (fun k => ([(1, .yes, .v (.string s)), (31, .yes, .o 19 A1 L.length cap1), (32, .yes, .v (.int .i64 L.length)), (33, .yes, .v (.int .i64 k))], [(19, .row A1 26 3 L.length cap1 (cells L))])) (fun k => k ≤ L.length) (fun k => L.length - k) (fun _ => rfl) ?_ ?_
  · refine ⟨0, Nat.zero_le _, ?_, ?_, rfl⟩
    all_goals ((repeat' (first | exact trivial | exact rfl | refine And.intro ?_ ?_)) <;> (try (conv => whnf)) <;> (try simp only [SV.real, SV.r2, SV.r1]))
  intro k hk
  by_cases hk1 : k < L.length
  · obtain ⟨c, hc⟩ : ∃ c, L[k]? = some c := ⟨L[k]'(by omega), List.getElem?_eq_getElem (by omega)⟩
    have hr := val_right vE hc
    have hsz := wrB_size hr
    obtain ⟨S, hS⟩ : ∃ S, S = wrB c := ⟨_, rfl⟩
    have hpb := pr_back hr
    rw [← hS] at hpb hsz
    have e1 : wrS c = S := by unfold wrS; rw [hr, hS]; rfl
    have e2 : wrE c = 0 := by unfold wrE; rw [hr]; rfl
    repeat' ((conv => whnf); first
      | refine walk (Tryd.ok ..) ?_
      | refine walk (COk.with_ (Tryd.ok ..) _ _) ?_
      | refine walk (COk.with_ (COk.with_ (Tryd.ok ..) _ _) _ _) ?_
      | (refine Cnd.mk (fun h => ?_) (fun h => ?_) <;> (first | (exfalso; simp only [decide_eq_true_eq, decide_eq_false_iff_not, Bool.not_eq_true', Bool.not_eq_false'] at h; omega) | (exfalso; simp at h; omega) | simp at h | skip))
      | refine And.intro (Kept.mk ?_) ?_
      | refine Two.mk (And.intro ?_ ?_)
      | exact trivial
      | refine side ?_
      | refine sideL ?_
      | refine Or.inr ?_
      | refine sat_drawH (Tryd.ok ..) (by kernel_rfl) ?_
      | refine sat_drawH (COk.with_ (Tryd.ok ..) _ _) (by kernel_rfl) ?_
      | refine sat_drawH (COk.with_ (COk.with_ (Tryd.ok ..) _ _) _ _) (by kernel_rfl) ?_
      | refine Exists.intro [_] (And.intro (one_byte rfl) ?_)
      | refine Exists.intro [_] (And.intro (fun _ => one_byte rfl) ?_)
      | refine Exists.intro _ (And.intro (And.intro rfl rfl) ?_)
      | refine Exists.intro _ (And.intro (fun _ => And.intro rfl rfl) ?_)
      | refine Exists.intro _ (And.intro rfl ?_)
      | refine Exists.intro _ (And.intro (fun _ => (at_c hc rfl)) ?_)
      | refine Exists.intro _ (And.intro (at_c hc rfl) ?_))
    intro g9 hg9
    repeat' ((conv => whnf); first
      | refine walk (Tryd.ok ..) ?_
      | refine walk (COk.with_ (Tryd.ok ..) _ _) ?_
      | refine walk (COk.with_ (COk.with_ (Tryd.ok ..) _ _) _ _) ?_
      | (refine Cnd.mk (fun h => ?_) (fun h => ?_) <;> (first | (exfalso; simp only [decide_eq_true_eq, decide_eq_false_iff_not, Bool.not_eq_true', Bool.not_eq_false'] at h; omega) | (exfalso; simp at h; omega) | simp at h | skip))
      | refine And.intro (Kept.mk ?_) ?_
      | refine Two.mk (And.intro ?_ ?_)
      | exact trivial
      | refine side ?_
      | refine sideL ?_
      | refine Or.inr ?_
      | refine sat_drawH (Tryd.ok ..) (by kernel_rfl) ?_
      | refine sat_drawH (COk.with_ (Tryd.ok ..) _ _) (by kernel_rfl) ?_
      | refine sat_drawH (COk.with_ (COk.with_ (Tryd.ok ..) _ _) _ _) (by kernel_rfl) ?_
      | refine Exists.intro [_] (And.intro (one_byte rfl) ?_)
      | refine Exists.intro [_] (And.intro (fun _ => one_byte rfl) ?_)
      | refine Exists.intro _ (And.intro (And.intro rfl rfl) ?_)
      | refine Exists.intro _ (And.intro (fun _ => And.intro rfl rfl) ?_)
      | refine Exists.intro _ (And.intro rfl ?_))
    refine called_at (.t [.v (.string S), .v (.int .i64 0)]) rfl (fun w' hh => by have := write_any c w' (hw.at_ rfl rfl hh); rw [e1, e2] at this; exact this) ?_
    repeat' ((conv => whnf); first
      | refine walk (Tryd.ok ..) ?_
      | refine walk (COk.with_ (Tryd.ok ..) _ _) ?_
      | refine walk (COk.with_ (COk.with_ (Tryd.ok ..) _ _) _ _) ?_
      | (refine Cnd.mk (fun h => ?_) (fun h => ?_) <;> (first | (exfalso; simp only [decide_eq_true_eq, decide_eq_false_iff_not, Bool.not_eq_true', Bool.not_eq_false'] at h; omega) | (exfalso; simp at h; omega) | simp at h | skip))
      | refine And.intro (Kept.mk ?_) ?_
      | refine Two.mk (And.intro ?_ ?_)
      | exact trivial
      | refine side ?_
      | refine sideL ?_
      | refine Or.inr ?_
      | refine sat_drawH (Tryd.ok ..) (by kernel_rfl) ?_
      | refine sat_drawH (COk.with_ (Tryd.ok ..) _ _) (by kernel_rfl) ?_
      | refine sat_drawH (COk.with_ (COk.with_ (Tryd.ok ..) _ _) _ _) (by kernel_rfl) ?_
      | refine Exists.intro [_] (And.intro (one_byte rfl) ?_)
      | refine Exists.intro [_] (And.intro (fun _ => one_byte rfl) ?_)
      | refine Exists.intro _ (And.intro (And.intro rfl rfl) ?_)
      | refine Exists.intro _ (And.intro (fun _ => And.intro rfl rfl) ?_)
      | refine Exists.intro _ (And.intro rfl ?_))
    refine called_at (.t [.a [.v (.string c.p), .v (.int .i64 c.t), .v (.int .i64 c.d)], .v (.int .i64 0)]) rfl (fun w' hh => by have := parse_any S w' (by omega) (hw.at_ rfl rfl hh); rw [hpb] at this; exact this) ?_
    repeat' ((conv => whnf); first
      | refine walk (Tryd.ok ..) ?_
      | refine walk (COk.with_ (Tryd.ok ..) _ _) ?_
      | refine walk (COk.with_ (COk.with_ (Tryd.ok ..) _ _) _ _) ?_
      | (refine Cnd.mk (fun h => ?_) (fun h => ?_) <;> (first | (exfalso; simp only [decide_eq_true_eq, decide_eq_false_iff_not, Bool.not_eq_true', Bool.not_eq_false'] at h; omega) | (exfalso; simp at h; omega) | simp at h | skip))
      | refine And.intro (Kept.mk ?_) ?_
      | refine Two.mk (And.intro ?_ ?_)
      | exact trivial
      | refine side ?_
      | refine sideL ?_
      | refine Or.inr ?_
      | refine sat_drawH (Tryd.ok ..) (by kernel_rfl) ?_
      | refine sat_drawH (COk.with_ (Tryd.ok ..) _ _) (by kernel_rfl) ?_
      | refine sat_drawH (COk.with_ (COk.with_ (Tryd.ok ..) _ _) _ _) (by kernel_rfl) ?_
      | refine Exists.intro [_] (And.intro (one_byte rfl) ?_)
      | refine Exists.intro [_] (And.intro (fun _ => one_byte rfl) ?_)
      | refine Exists.intro _ (And.intro (And.intro rfl rfl) ?_)
      | refine Exists.intro _ (And.intro (fun _ => And.intro rfl rfl) ?_)
      | refine Exists.intro _ (And.intro rfl ?_))
    intro g12 hg12
    repeat' ((conv => whnf); first
      | refine walk (Tryd.ok ..) ?_
      | refine walk (COk.with_ (Tryd.ok ..) _ _) ?_
      | refine walk (COk.with_ (COk.with_ (Tryd.ok ..) _ _) _ _) ?_
      | (refine Cnd.mk (fun h => ?_) (fun h => ?_) <;> (first | (exfalso; simp only [decide_eq_true_eq, decide_eq_false_iff_not, Bool.not_eq_true', Bool.not_eq_false'] at h; omega) | (exfalso; simp at h; omega) | simp at h | skip))
      | refine And.intro (Kept.mk ?_) ?_
      | refine Two.mk (And.intro ?_ ?_)
      | exact trivial
      | refine side ?_
      | refine sideL ?_
      | refine Or.inr ?_
      | refine sat_drawH (Tryd.ok ..) (by kernel_rfl) ?_
      | refine sat_drawH (COk.with_ (Tryd.ok ..) _ _) (by kernel_rfl) ?_
      | refine sat_drawH (COk.with_ (COk.with_ (Tryd.ok ..) _ _) _ _) (by kernel_rfl) ?_
      | refine Exists.intro [_] (And.intro (one_byte rfl) ?_)
      | refine Exists.intro [_] (And.intro (fun _ => one_byte rfl) ?_)
      | refine Exists.intro _ (And.intro (And.intro rfl rfl) ?_)
      | refine Exists.intro _ (And.intro (fun _ => And.intro rfl rfl) ?_)
      | refine Exists.intro _ (And.intro rfl ?_))
    refine eqAgg_neq _ Tryd.eqg26 (fun w => Tryd.eq26 _ _ _ _ _ _ w) ?_
    repeat' ((conv => whnf); first
      | refine walk (Tryd.ok ..) ?_
      | refine walk (COk.with_ (Tryd.ok ..) _ _) ?_
      | refine walk (COk.with_ (COk.with_ (Tryd.ok ..) _ _) _ _) ?_
      | (refine Cnd.mk (fun h => ?_) (fun h => ?_) <;> (first | (exfalso; simp only [decide_eq_true_eq, decide_eq_false_iff_not, Bool.not_eq_true', Bool.not_eq_false'] at h; omega) | (exfalso; simp at h; omega) | simp at h | skip))
      | refine And.intro (Kept.mk ?_) ?_
      | refine Two.mk (And.intro ?_ ?_)
      | exact trivial
      | refine side ?_
      | refine sideL ?_
      | refine Or.inr ?_
      | refine sat_drawH (Tryd.ok ..) (by kernel_rfl) ?_
      | refine sat_drawH (COk.with_ (Tryd.ok ..) _ _) (by kernel_rfl) ?_
      | refine sat_drawH (COk.with_ (COk.with_ (Tryd.ok ..) _ _) _ _) (by kernel_rfl) ?_
      | refine Exists.intro [_] (And.intro (one_byte rfl) ?_)
      | refine Exists.intro [_] (And.intro (fun _ => one_byte rfl) ?_)
      | refine Exists.intro _ (And.intro (And.intro rfl rfl) ?_)
      | refine Exists.intro _ (And.intro (fun _ => And.intro rfl rfl) ?_)
      | refine Exists.intro _ (And.intro rfl ?_))
    refine ⟨k + 1, ⟨by omega, by omega⟩, ?_, ?_, rfl⟩
    all_goals ((repeat' (first | exact trivial | exact rfl | refine And.intro ?_ ?_)) <;> (try (conv => whnf)) <;> (try simp only [SV.real, SV.r2, SV.r1]))
  · obtain rfl : k = L.length := by omega
    cases hps : prs s with
    | some c =>
      obtain ⟨hr, hwr⟩ := prs_some hps
      have hpv : prV s = .tuple #[.agg #[.string c.p, .int .i64 c.t, .int .i64 c.d], .int .i64 0] := by unfold prV; rw [(pr_some hps).1, (pr_some hps).2]
      have e1 : wrS c = s := by unfold wrS; rw [hr]; exact hwr
      have e2 : wrE c = 0 := by unfold wrE; rw [hr]; rfl
      repeat' ((conv => whnf); first
        | refine walk (Tryd.ok ..) ?_
        | refine walk (COk.with_ (Tryd.ok ..) _ _) ?_
        | refine walk (COk.with_ (COk.with_ (Tryd.ok ..) _ _) _ _) ?_
        | (refine Cnd.mk (fun h => ?_) (fun h => ?_) <;> (first | (exfalso; simp only [decide_eq_true_eq, decide_eq_false_iff_not, Bool.not_eq_true', Bool.not_eq_false'] at h; omega) | (exfalso; simp at h; omega) | simp at h | skip))
        | refine And.intro (Kept.mk ?_) ?_
        | refine Two.mk (And.intro ?_ ?_)
        | exact trivial
        | refine side ?_
        | refine sideL ?_
        | refine Or.inr ?_
        | refine sat_drawH (Tryd.ok ..) (by kernel_rfl) ?_
        | refine sat_drawH (COk.with_ (Tryd.ok ..) _ _) (by kernel_rfl) ?_
        | refine sat_drawH (COk.with_ (COk.with_ (Tryd.ok ..) _ _) _ _) (by kernel_rfl) ?_
        | refine Exists.intro [_] (And.intro (one_byte rfl) ?_)
        | refine Exists.intro [_] (And.intro (fun _ => one_byte rfl) ?_)
        | refine Exists.intro _ (And.intro (And.intro rfl rfl) ?_)
        | refine Exists.intro _ (And.intro (fun _ => And.intro rfl rfl) ?_)
        | refine Exists.intro _ (And.intro rfl ?_))
      refine called_at (.t [.a [.v (.string c.p), .v (.int .i64 c.t), .v (.int .i64 c.d)], .v (.int .i64 0)]) rfl (fun w' hh => by have := parse_any s w' hs (hw.at_ rfl rfl hh); rw [hpv] at this; exact this) ?_
      repeat' ((conv => whnf); first
        | refine walk (Tryd.ok ..) ?_
        | refine walk (COk.with_ (Tryd.ok ..) _ _) ?_
        | refine walk (COk.with_ (COk.with_ (Tryd.ok ..) _ _) _ _) ?_
        | (refine Cnd.mk (fun h => ?_) (fun h => ?_) <;> (first | (exfalso; simp only [decide_eq_true_eq, decide_eq_false_iff_not, Bool.not_eq_true', Bool.not_eq_false'] at h; omega) | (exfalso; simp at h; omega) | simp at h | skip))
        | refine And.intro (Kept.mk ?_) ?_
        | refine Two.mk (And.intro ?_ ?_)
        | exact trivial
        | refine side ?_
        | refine sideL ?_
        | refine Or.inr ?_
        | refine sat_drawH (Tryd.ok ..) (by kernel_rfl) ?_
        | refine sat_drawH (COk.with_ (Tryd.ok ..) _ _) (by kernel_rfl) ?_
        | refine sat_drawH (COk.with_ (COk.with_ (Tryd.ok ..) _ _) _ _) (by kernel_rfl) ?_
        | refine Exists.intro [_] (And.intro (one_byte rfl) ?_)
        | refine Exists.intro [_] (And.intro (fun _ => one_byte rfl) ?_)
        | refine Exists.intro _ (And.intro (And.intro rfl rfl) ?_)
        | refine Exists.intro _ (And.intro (fun _ => And.intro rfl rfl) ?_)
        | refine Exists.intro _ (And.intro rfl ?_))
      intro g14 hg14
      repeat' ((conv => whnf); first
        | refine walk (Tryd.ok ..) ?_
        | refine walk (COk.with_ (Tryd.ok ..) _ _) ?_
        | refine walk (COk.with_ (COk.with_ (Tryd.ok ..) _ _) _ _) ?_
        | (refine Cnd.mk (fun h => ?_) (fun h => ?_) <;> (first | (exfalso; simp only [decide_eq_true_eq, decide_eq_false_iff_not, Bool.not_eq_true', Bool.not_eq_false'] at h; omega) | (exfalso; simp at h; omega) | simp at h | skip))
        | refine And.intro (Kept.mk ?_) ?_
        | refine Two.mk (And.intro ?_ ?_)
        | exact trivial
        | refine side ?_
        | refine sideL ?_
        | refine Or.inr ?_
        | refine sat_drawH (Tryd.ok ..) (by kernel_rfl) ?_
        | refine sat_drawH (COk.with_ (Tryd.ok ..) _ _) (by kernel_rfl) ?_
        | refine sat_drawH (COk.with_ (COk.with_ (Tryd.ok ..) _ _) _ _) (by kernel_rfl) ?_
        | refine Exists.intro [_] (And.intro (one_byte rfl) ?_)
        | refine Exists.intro [_] (And.intro (fun _ => one_byte rfl) ?_)
        | refine Exists.intro _ (And.intro (And.intro rfl rfl) ?_)
        | refine Exists.intro _ (And.intro (fun _ => And.intro rfl rfl) ?_)
        | refine Exists.intro _ (And.intro rfl ?_))
      refine called_at (.t [.v (.string s), .v (.int .i64 0)]) rfl (fun w' hh => by have := write_any c w' (hw.at_ rfl rfl hh); rw [e1, e2] at this; exact this) ?_
      repeat' ((conv => whnf); first
        | refine walk (Tryd.ok ..) ?_
        | refine walk (COk.with_ (Tryd.ok ..) _ _) ?_
        | refine walk (COk.with_ (COk.with_ (Tryd.ok ..) _ _) _ _) ?_
        | (refine Cnd.mk (fun h => ?_) (fun h => ?_) <;> (first | (exfalso; simp only [decide_eq_true_eq, decide_eq_false_iff_not, Bool.not_eq_true', Bool.not_eq_false'] at h; omega) | (exfalso; simp at h; omega) | simp at h | skip))
        | refine And.intro (Kept.mk ?_) ?_
        | refine Two.mk (And.intro ?_ ?_)
        | exact trivial
        | refine side ?_
        | refine sideL ?_
        | refine Or.inr ?_
        | refine sat_drawH (Tryd.ok ..) (by kernel_rfl) ?_
        | refine sat_drawH (COk.with_ (Tryd.ok ..) _ _) (by kernel_rfl) ?_
        | refine sat_drawH (COk.with_ (COk.with_ (Tryd.ok ..) _ _) _ _) (by kernel_rfl) ?_
        | refine Exists.intro [_] (And.intro (one_byte rfl) ?_)
        | refine Exists.intro [_] (And.intro (fun _ => one_byte rfl) ?_)
        | refine Exists.intro _ (And.intro (And.intro rfl rfl) ?_)
        | refine Exists.intro _ (And.intro (fun _ => And.intro rfl rfl) ?_)
        | refine Exists.intro _ (And.intro rfl ?_))
      refine called_at (.v (.bool true)) rfl (fun w' hh => by have := right_any c w'; rw [hr] at this; exact this) ?_
      repeat' ((conv => whnf); first
        | refine walk (Tryd.ok ..) ?_
        | refine walk (COk.with_ (Tryd.ok ..) _ _) ?_
        | refine walk (COk.with_ (COk.with_ (Tryd.ok ..) _ _) _ _) ?_
        | (refine Cnd.mk (fun h => ?_) (fun h => ?_) <;> (first | (exfalso; simp only [decide_eq_true_eq, decide_eq_false_iff_not, Bool.not_eq_true', Bool.not_eq_false'] at h; omega) | (exfalso; simp at h; omega) | simp at h | skip))
        | refine And.intro (Kept.mk ?_) ?_
        | refine Two.mk (And.intro ?_ ?_)
        | exact trivial
        | refine side ?_
        | refine sideL ?_
        | refine Or.inr ?_
        | refine sat_drawH (Tryd.ok ..) (by kernel_rfl) ?_
        | refine sat_drawH (COk.with_ (Tryd.ok ..) _ _) (by kernel_rfl) ?_
        | refine sat_drawH (COk.with_ (COk.with_ (Tryd.ok ..) _ _) _ _) (by kernel_rfl) ?_
        | refine Exists.intro [_] (And.intro (one_byte rfl) ?_)
        | refine Exists.intro [_] (And.intro (fun _ => one_byte rfl) ?_)
        | refine Exists.intro _ (And.intro (And.intro rfl rfl) ?_)
        | refine Exists.intro _ (And.intro (fun _ => And.intro rfl rfl) ?_)
        | refine Exists.intro _ (And.intro rfl ?_))
      refine called_at (.v (.bool true)) rfl (fun w' hh => awake_any w' (hw.at_ rfl rfl hh)) ?_
      repeat' ((conv => whnf); first
        | refine walk (Tryd.ok ..) ?_
        | refine walk (COk.with_ (Tryd.ok ..) _ _) ?_
        | refine walk (COk.with_ (COk.with_ (Tryd.ok ..) _ _) _ _) ?_
        | (refine Cnd.mk (fun h => ?_) (fun h => ?_) <;> (first | (exfalso; simp only [decide_eq_true_eq, decide_eq_false_iff_not, Bool.not_eq_true', Bool.not_eq_false'] at h; omega) | (exfalso; simp at h; omega) | simp at h | skip))
        | refine And.intro (Kept.mk ?_) ?_
        | refine Two.mk (And.intro ?_ ?_)
        | exact trivial
        | refine side ?_
        | refine sideL ?_
        | refine Or.inr ?_
        | refine sat_drawH (Tryd.ok ..) (by kernel_rfl) ?_
        | refine sat_drawH (COk.with_ (Tryd.ok ..) _ _) (by kernel_rfl) ?_
        | refine sat_drawH (COk.with_ (COk.with_ (Tryd.ok ..) _ _) _ _) (by kernel_rfl) ?_
        | refine Exists.intro [_] (And.intro (one_byte rfl) ?_)
        | refine Exists.intro [_] (And.intro (fun _ => one_byte rfl) ?_)
        | refine Exists.intro _ (And.intro (And.intro rfl rfl) ?_)
        | refine Exists.intro _ (And.intro (fun _ => And.intro rfl rfl) ?_)
        | refine Exists.intro _ (And.intro rfl ?_))
      exact done_pure rfl rfl (congrArg Value.bool (by simp))
    | none =>
      have hpv : prV s = .tuple #[.agg #[.string ⟨#[]⟩, .int .i64 0, .int .i64 0], .int .i64 201] := by unfold prV; rw [(pr_none hps).1, (pr_none hps).2]
      repeat' ((conv => whnf); first
        | refine walk (Tryd.ok ..) ?_
        | refine walk (COk.with_ (Tryd.ok ..) _ _) ?_
        | refine walk (COk.with_ (COk.with_ (Tryd.ok ..) _ _) _ _) ?_
        | (refine Cnd.mk (fun h => ?_) (fun h => ?_) <;> (first | (exfalso; simp only [decide_eq_true_eq, decide_eq_false_iff_not, Bool.not_eq_true', Bool.not_eq_false'] at h; omega) | (exfalso; simp at h; omega) | simp at h | skip))
        | refine And.intro (Kept.mk ?_) ?_
        | refine Two.mk (And.intro ?_ ?_)
        | exact trivial
        | refine side ?_
        | refine sideL ?_
        | refine Or.inr ?_
        | refine sat_drawH (Tryd.ok ..) (by kernel_rfl) ?_
        | refine sat_drawH (COk.with_ (Tryd.ok ..) _ _) (by kernel_rfl) ?_
        | refine sat_drawH (COk.with_ (COk.with_ (Tryd.ok ..) _ _) _ _) (by kernel_rfl) ?_
        | refine Exists.intro [_] (And.intro (one_byte rfl) ?_)
        | refine Exists.intro [_] (And.intro (fun _ => one_byte rfl) ?_)
        | refine Exists.intro _ (And.intro (And.intro rfl rfl) ?_)
        | refine Exists.intro _ (And.intro (fun _ => And.intro rfl rfl) ?_)
        | refine Exists.intro _ (And.intro rfl ?_))
      refine called_at (.t [.a [.v (.string ⟨#[]⟩), .v (.int .i64 0), .v (.int .i64 0)], .v (.int .i64 201)]) rfl (fun w' hh => by have := parse_any s w' hs (hw.at_ rfl rfl hh); rw [hpv] at this; exact this) ?_
      repeat' ((conv => whnf); first
        | refine walk (Tryd.ok ..) ?_
        | refine walk (COk.with_ (Tryd.ok ..) _ _) ?_
        | refine walk (COk.with_ (COk.with_ (Tryd.ok ..) _ _) _ _) ?_
        | (refine Cnd.mk (fun h => ?_) (fun h => ?_) <;> (first | (exfalso; simp only [decide_eq_true_eq, decide_eq_false_iff_not, Bool.not_eq_true', Bool.not_eq_false'] at h; omega) | (exfalso; simp at h; omega) | simp at h | skip))
        | refine And.intro (Kept.mk ?_) ?_
        | refine Two.mk (And.intro ?_ ?_)
        | exact trivial
        | refine side ?_
        | refine sideL ?_
        | refine Or.inr ?_
        | refine sat_drawH (Tryd.ok ..) (by kernel_rfl) ?_
        | refine sat_drawH (COk.with_ (Tryd.ok ..) _ _) (by kernel_rfl) ?_
        | refine sat_drawH (COk.with_ (COk.with_ (Tryd.ok ..) _ _) _ _) (by kernel_rfl) ?_
        | refine Exists.intro [_] (And.intro (one_byte rfl) ?_)
        | refine Exists.intro [_] (And.intro (fun _ => one_byte rfl) ?_)
        | refine Exists.intro _ (And.intro (And.intro rfl rfl) ?_)
        | refine Exists.intro _ (And.intro (fun _ => And.intro rfl rfl) ?_)
        | refine Exists.intro _ (And.intro rfl ?_))
      intro g14 hg14
      repeat' ((conv => whnf); first
        | refine walk (Tryd.ok ..) ?_
        | refine walk (COk.with_ (Tryd.ok ..) _ _) ?_
        | refine walk (COk.with_ (COk.with_ (Tryd.ok ..) _ _) _ _) ?_
        | (refine Cnd.mk (fun h => ?_) (fun h => ?_) <;> (first | (exfalso; simp only [decide_eq_true_eq, decide_eq_false_iff_not, Bool.not_eq_true', Bool.not_eq_false'] at h; omega) | (exfalso; simp at h; omega) | simp at h | skip))
        | refine And.intro (Kept.mk ?_) ?_
        | refine Two.mk (And.intro ?_ ?_)
        | exact trivial
        | refine side ?_
        | refine sideL ?_
        | refine Or.inr ?_
        | refine sat_drawH (Tryd.ok ..) (by kernel_rfl) ?_
        | refine sat_drawH (COk.with_ (Tryd.ok ..) _ _) (by kernel_rfl) ?_
        | refine sat_drawH (COk.with_ (COk.with_ (Tryd.ok ..) _ _) _ _) (by kernel_rfl) ?_
        | refine Exists.intro [_] (And.intro (one_byte rfl) ?_)
        | refine Exists.intro [_] (And.intro (fun _ => one_byte rfl) ?_)
        | refine Exists.intro _ (And.intro (And.intro rfl rfl) ?_)
        | refine Exists.intro _ (And.intro (fun _ => And.intro rfl rfl) ?_)
        | refine Exists.intro _ (And.intro rfl ?_))
      refine eqAgg_eql _ Tryd.eqg26 (fun w => Tryd.eq26 _ _ _ _ _ _ w) ?_
      repeat' ((conv => whnf); first
        | refine walk (Tryd.ok ..) ?_
        | refine walk (COk.with_ (Tryd.ok ..) _ _) ?_
        | refine walk (COk.with_ (COk.with_ (Tryd.ok ..) _ _) _ _) ?_
        | (refine Cnd.mk (fun h => ?_) (fun h => ?_) <;> (first | (exfalso; simp only [decide_eq_true_eq, decide_eq_false_iff_not, Bool.not_eq_true', Bool.not_eq_false'] at h; omega) | (exfalso; simp at h; omega) | simp at h | skip))
        | refine And.intro (Kept.mk ?_) ?_
        | refine Two.mk (And.intro ?_ ?_)
        | exact trivial
        | refine side ?_
        | refine sideL ?_
        | refine Or.inr ?_
        | refine sat_drawH (Tryd.ok ..) (by kernel_rfl) ?_
        | refine sat_drawH (COk.with_ (Tryd.ok ..) _ _) (by kernel_rfl) ?_
        | refine sat_drawH (COk.with_ (COk.with_ (Tryd.ok ..) _ _) _ _) (by kernel_rfl) ?_
        | refine Exists.intro [_] (And.intro (one_byte rfl) ?_)
        | refine Exists.intro [_] (And.intro (fun _ => one_byte rfl) ?_)
        | refine Exists.intro _ (And.intro (And.intro rfl rfl) ?_)
        | refine Exists.intro _ (And.intro (fun _ => And.intro rfl rfl) ?_)
        | refine Exists.intro _ (And.intro rfl ?_))
      refine called_at (.v (.bool true)) rfl (fun w' hh => awake_any w' (hw.at_ rfl rfl hh)) ?_
      repeat' ((conv => whnf); first
        | refine walk (Tryd.ok ..) ?_
        | refine walk (COk.with_ (Tryd.ok ..) _ _) ?_
        | refine walk (COk.with_ (COk.with_ (Tryd.ok ..) _ _) _ _) ?_
        | (refine Cnd.mk (fun h => ?_) (fun h => ?_) <;> (first | (exfalso; simp only [decide_eq_true_eq, decide_eq_false_iff_not, Bool.not_eq_true', Bool.not_eq_false'] at h; omega) | (exfalso; simp at h; omega) | simp at h | skip))
        | refine And.intro (Kept.mk ?_) ?_
        | refine Two.mk (And.intro ?_ ?_)
        | exact trivial
        | refine side ?_
        | refine sideL ?_
        | refine Or.inr ?_
        | refine sat_drawH (Tryd.ok ..) (by kernel_rfl) ?_
        | refine sat_drawH (COk.with_ (Tryd.ok ..) _ _) (by kernel_rfl) ?_
        | refine sat_drawH (COk.with_ (COk.with_ (Tryd.ok ..) _ _) _ _) (by kernel_rfl) ?_
        | refine Exists.intro [_] (And.intro (one_byte rfl) ?_)
        | refine Exists.intro [_] (And.intro (fun _ => one_byte rfl) ?_)
        | refine Exists.intro _ (And.intro (And.intro rfl rfl) ?_)
        | refine Exists.intro _ (And.intro (fun _ => And.intro rfl rfl) ?_)
        | refine Exists.intro _ (And.intro rfl ?_))
      exact done_pure rfl rfl (congrArg Value.bool (by simp))
end Go.Proofs.YtbpklalkoocneaaDoor

