/-
  The walks of the route package's reference: the call of a text.
-/
import Derived.Test.YtbpklalkoocneaaDoorT
import Derived.Test.YtbpklalkoocneaaDoorParse
namespace Go.Proofs.YtbpklalkoocneaaDoor
open Go Sat Go.RowKit Go.PlainAid
set_option linter.unusedSimpArgs false
set_option linter.unusedVariables false
noncomputable def prV (s : ByteArray) : Value := .tuple #[.agg #[.string (prC s).p, .int .i64 (prC s).t, .int .i64 (prC s).d], .int .i64 (prE s)]
theorem x6_size (s : ByteArray) : (x6 s).size ≤ s.size := by
  have := congrArg List.length (x6_data s)
  rw [size_list, List.length_drop, size_list] at this
  omega
theorem x7_size (s : ByteArray) (k : Nat) : (x7 s k).size ≤ s.size := by
  have := congrArg List.length (x7_data s k)
  rw [size_list, List.length_drop, size_list] at this
  omega
theorem numK_le (s : ByteArray) : numK s ≤ s.size ∧ numK s ≤ 10 := by
  have h1 := digs_le s.data.toList
  rw [size_list] at h1
  unfold numK
  split
  · omega
  · rename_i h
    unfold badD at h
    simp at h
    omega
theorem numN_le (s : ByteArray) : numN s ≤ 9999999999 := by
  unfold numN
  split
  · omega
  · rename_i h
    refine dv_small (digs_all _) ?_
    unfold badD at h
    simp at h
    omega
set_option maxRecDepth 100000 in
set_option maxHeartbeats 8000000 in
theorem rparse_any (s : ByteArray) (w : World) (hs : s.size ≤ 9223372036854775000) : Calls Tryd.prog 34 #[.string s] w fun e w' => e = .returned (prV s) ∧ Below w.heap.size w w' := by
  refine calls_sat (cx := Tryd.cx 73 [] [] [] w) (Tryd.ok ..) Tryd.func34 rfl [.v (.string s)] rfl (by show 1 ≤ 73; omega) [] (holds_nil (Nat.le_refl _)) ?_
  obtain ⟨n6, hn6⟩ : ∃ n, n = numN (x6 s) := ⟨_, rfl⟩
  obtain ⟨k6, hk6⟩ : ∃ n, n = numK (x6 s) := ⟨_, rfl⟩
  obtain ⟨n7, hn7⟩ : ∃ n, n = numN (x7 s k6) := ⟨_, rfl⟩
  obtain ⟨k7, hk7⟩ : ∃ n, n = numK (x7 s k6) := ⟨_, rfl⟩
  have hz6 := x6_size s
  have hz7 := x7_size s k6
  have b1 : k6 ≤ 10 := by rw [hk6]; exact (numK_le _).2
  have b2 : k7 ≤ 10 := by rw [hk7]; exact (numK_le _).2
  have b3 : n6 ≤ 9999999999 := by rw [hn6]; exact numN_le _
  have b4 : n7 ≤ 9999999999 := by rw [hn7]; exact numN_le _
  have bad : (∀ c, Parts s c → rightC c = true → False) → prV s = .tuple #[.agg #[.string ⟨#[]⟩, .int .i64 0, .int .i64 0], .int .i64 201] := fun h => by
    have hn := prs_none fun c h1 h2 => h c (wr_parts h1 h2) h1
    unfold prV; rw [(pr_none hn).1, (pr_none hn).2]
  repeat' ((conv => whnf); first
    | refine walk (Tryd.ok ..) ?_
    | refine walk (COk.with_ (Tryd.ok ..) _ _) ?_
    | refine walk (COk.with_ (COk.with_ (Tryd.ok ..) _ _) _ _) ?_
    | (refine Cnd.mk (fun h => ?_) (fun h => ?_) <;> (first | (exfalso; simp only [decide_eq_true_eq, decide_eq_false_iff_not, Bool.not_eq_true', Bool.not_eq_false'] at h; omega) | (exfalso; simp at h; omega) | simp at h | skip))
    | refine And.intro (Kept.mk ?_) ?_
    | refine Two.mk (And.intro ?_ ?_)
    | exact trivial
    | refine side ?_
    | refine sideL ?_
    | refine Or.inr ?_
    | refine sat_drawH (Tryd.ok ..) (by kernel_rfl) ?_
    | refine sat_drawH (COk.with_ (Tryd.ok ..) _ _) (by kernel_rfl) ?_
    | refine sat_drawH (COk.with_ (COk.with_ (Tryd.ok ..) _ _) _ _) (by kernel_rfl) ?_
    | refine Exists.intro [_] (And.intro (one_byte rfl) ?_)
    | refine Exists.intro [_] (And.intro (fun _ => one_byte rfl) ?_)
    | refine Exists.intro _ (And.intro (And.intro rfl rfl) ?_)
    | refine Exists.intro _ (And.intro (fun _ => And.intro rfl rfl) ?_)
    | refine Exists.intro _ (And.intro rfl ?_))
  intro g2 hg2
  repeat' ((conv => whnf); first
    | refine walk (Tryd.ok ..) ?_
    | refine walk (COk.with_ (Tryd.ok ..) _ _) ?_
    | refine walk (COk.with_ (COk.with_ (Tryd.ok ..) _ _) _ _) ?_
    | (refine Cnd.mk (fun h => ?_) (fun h => ?_) <;> (first | (exfalso; simp only [decide_eq_true_eq, decide_eq_false_iff_not, Bool.not_eq_true', Bool.not_eq_false'] at h; omega) | (exfalso; simp at h; omega) | simp at h | skip))
    | refine And.intro (Kept.mk ?_) ?_
    | refine Two.mk (And.intro ?_ ?_)
    | exact trivial
    | refine side ?_
    | refine sideL ?_
    | refine Or.inr ?_
    | refine sat_drawH (Tryd.ok ..) (by kernel_rfl) ?_
    | refine sat_drawH (COk.with_ (Tryd.ok ..) _ _) (by kernel_rfl) ?_
    | refine sat_drawH (COk.with_ (COk.with_ (Tryd.ok ..) _ _) _ _) (by kernel_rfl) ?_
    | refine Exists.intro [_] (And.intro (one_byte rfl) ?_)
    | refine Exists.intro [_] (And.intro (fun _ => one_byte rfl) ?_)
    | refine Exists.intro _ (And.intro (And.intro rfl rfl) ?_)
    | refine Exists.intro _ (And.intro (fun _ => And.intro rfl rfl) ?_)
    | refine Exists.intro _ (And.intro rfl ?_))
  · exact done_pure rfl rfl (by
      rw [bad fun c hp hr => ?_]
      · rfl
      have := hp.n9; have := hp.b5
      omega)
  have h9 := h
  refine called_pure (.t [.v (.int .i64 n6), .v (.int .i64 k6)]) rfl (fun w' => by rw [hn6, hk6]; exact number_any (x6 s) w' (by omega)) ?_
  repeat' ((conv => whnf); first
    | refine walk (Tryd.ok ..) ?_
    | refine walk (COk.with_ (Tryd.ok ..) _ _) ?_
    | refine walk (COk.with_ (COk.with_ (Tryd.ok ..) _ _) _ _) ?_
    | (refine Cnd.mk (fun h => ?_) (fun h => ?_) <;> (first | (exfalso; simp only [decide_eq_true_eq, decide_eq_false_iff_not, Bool.not_eq_true', Bool.not_eq_false'] at h; omega) | (exfalso; simp at h; omega) | simp at h | skip))
    | refine And.intro (Kept.mk ?_) ?_
    | refine Two.mk (And.intro ?_ ?_)
    | exact trivial
    | refine side ?_
    | refine sideL ?_
    | refine Or.inr ?_
    | refine sat_drawH (Tryd.ok ..) (by kernel_rfl) ?_
    | refine sat_drawH (COk.with_ (Tryd.ok ..) _ _) (by kernel_rfl) ?_
    | refine sat_drawH (COk.with_ (COk.with_ (Tryd.ok ..) _ _) _ _) (by kernel_rfl) ?_
    | refine Exists.intro [_] (And.intro (one_byte rfl) ?_)
    | refine Exists.intro [_] (And.intro (fun _ => one_byte rfl) ?_)
    | refine Exists.intro _ (And.intro (And.intro rfl rfl) ?_)
    | refine Exists.intro _ (And.intro (fun _ => And.intro rfl rfl) ?_)
    | refine Exists.intro _ (And.intro rfl ?_))
  · exact done_pure rfl rfl (by
      rw [bad fun c hp hr => ?_]
      · rfl
      have q1 := hp.k6; have q2 := hp.n8; have q3 := hp.b6
      rw [← hk6] at q1 q2 q3
      rw [show (6 + (k6 : Int)).toNat = 6 + k6 by omega] at h
      omega)
  have h6 := h
  refine called_pure (.t [.v (.int .i64 n7), .v (.int .i64 k7)]) rfl (fun w' => by rw [hn7, hk7]; exact number_any (x7 s k6) w' (by omega)) ?_
  repeat' ((conv => whnf); first
    | refine walk (Tryd.ok ..) ?_
    | refine walk (COk.with_ (Tryd.ok ..) _ _) ?_
    | refine walk (COk.with_ (COk.with_ (Tryd.ok ..) _ _) _ _) ?_
    | (refine Cnd.mk (fun h => ?_) (fun h => ?_) <;> (first | (exfalso; simp only [decide_eq_true_eq, decide_eq_false_iff_not, Bool.not_eq_true', Bool.not_eq_false'] at h; omega) | (exfalso; simp at h; omega) | simp at h | skip))
    | refine And.intro (Kept.mk ?_) ?_
    | refine Two.mk (And.intro ?_ ?_)
    | exact trivial
    | refine side ?_
    | refine sideL ?_
    | refine Or.inr ?_
    | refine sat_drawH (Tryd.ok ..) (by kernel_rfl) ?_
    | refine sat_drawH (COk.with_ (Tryd.ok ..) _ _) (by kernel_rfl) ?_
    | refine sat_drawH (COk.with_ (COk.with_ (Tryd.ok ..) _ _) _ _) (by kernel_rfl) ?_
    | refine Exists.intro [_] (And.intro (one_byte rfl) ?_)
    | refine Exists.intro [_] (And.intro (fun _ => one_byte rfl) ?_)
    | refine Exists.intro _ (And.intro (And.intro rfl rfl) ?_)
    | refine Exists.intro _ (And.intro (fun _ => And.intro rfl rfl) ?_)
    | refine Exists.intro _ (And.intro rfl ?_))
  intro g8 hg8
  repeat' ((conv => whnf); first
    | refine walk (Tryd.ok ..) ?_
    | refine walk (COk.with_ (Tryd.ok ..) _ _) ?_
    | refine walk (COk.with_ (COk.with_ (Tryd.ok ..) _ _) _ _) ?_
    | (refine Cnd.mk (fun h => ?_) (fun h => ?_) <;> (first | (exfalso; simp only [decide_eq_true_eq, decide_eq_false_iff_not, Bool.not_eq_true', Bool.not_eq_false'] at h; omega) | (exfalso; simp at h; omega) | simp at h | skip))
    | refine And.intro (Kept.mk ?_) ?_
    | refine Two.mk (And.intro ?_ ?_)
    | exact trivial
    | refine side ?_
    | refine sideL ?_
    | refine Or.inr ?_
    | refine sat_drawH (Tryd.ok ..) (by kernel_rfl) ?_
    | refine sat_drawH (COk.with_ (Tryd.ok ..) _ _) (by kernel_rfl) ?_
    | refine sat_drawH (COk.with_ (COk.with_ (Tryd.ok ..) _ _) _ _) (by kernel_rfl) ?_
    | refine Exists.intro [_] (And.intro (one_byte rfl) ?_)
    | refine Exists.intro [_] (And.intro (fun _ => one_byte rfl) ?_)
    | refine Exists.intro _ (And.intro (And.intro rfl rfl) ?_)
    | refine Exists.intro _ (And.intro (fun _ => And.intro rfl rfl) ?_)
    | refine Exists.intro _ (And.intro rfl ?_))
  all_goals (try (conv => whnf))
  obtain ⟨c, hc⟩ : ∃ c : Cl, c = ⟨s.extract (0 : Int).toNat (5 : Int).toNat, n6, n7⟩ := ⟨_, rfl⟩
  refine calledQ_pure (.v (.bool (rightC c))) rfl (fun _ w' => by rw [hc]; exact rright_any _ w') ?_
  repeat' ((conv => whnf); first
    | refine walk (Tryd.ok ..) ?_
    | refine walk (COk.with_ (Tryd.ok ..) _ _) ?_
    | refine walk (COk.with_ (COk.with_ (Tryd.ok ..) _ _) _ _) ?_
    | (refine Cnd.mk (fun h => ?_) (fun h => ?_) <;> (first | (exfalso; simp only [decide_eq_true_eq, decide_eq_false_iff_not, Bool.not_eq_true', Bool.not_eq_false'] at h; omega) | (exfalso; simp at h; omega) | simp at h | skip))
    | refine And.intro (Kept.mk ?_) ?_
    | refine Two.mk (And.intro ?_ ?_)
    | exact trivial
    | refine side ?_
    | refine sideL ?_
    | refine Or.inr ?_
    | refine sat_drawH (Tryd.ok ..) (by kernel_rfl) ?_
    | refine sat_drawH (COk.with_ (Tryd.ok ..) _ _) (by kernel_rfl) ?_
    | refine sat_drawH (COk.with_ (COk.with_ (Tryd.ok ..) _ _) _ _) (by kernel_rfl) ?_
    | refine Exists.intro [_] (And.intro (one_byte rfl) ?_)
    | refine Exists.intro [_] (And.intro (fun _ => one_byte rfl) ?_)
    | refine Exists.intro _ (And.intro (And.intro rfl rfl) ?_)
    | refine Exists.intro _ (And.intro (fun _ => And.intro rfl rfl) ?_)
    | refine Exists.intro _ (And.intro rfl ?_))
  · have hbad := h
    exact done_pure rfl rfl (by
      rw [bad fun d hp hr => ?_]
      · rfl
      have q1 := hp.n6; have q2 := hp.n7; have q3 := hp.k7; have q4 := hp.sz; have q5 := hp.p
      rw [← hk6] at q2 q3 q4
      rw [← hn6] at q1
      rw [← hn7] at q2
      rw [← hk7] at q3 q4
      have hcd : c = d := by
        rw [hc]
        obtain ⟨dp, dt, dd⟩ := d
        dsimp only at q1 q2 q5
        rw [q1, q2, q5]
      rw [hcd, hr] at hbad
      rcases hbad with (hb | hb) | hb
      · exact q3 hb
      · omega
      · cases hb)
  · have hgood := h
    have hrc : rightC c = true := by simpa using hgood.2
    have hwr : wrB c = s := by
      have := parts_wr (s := s) (by omega) h9.2 (by rw [← hk6]; exact h6.1.1) (by rw [← hk6]; omega) (by rw [← hk6, ← h6.2]; congr 1) (by rw [← hk6, ← hk7]; exact hgood.1.1) (by rw [← hk6, ← hk7]; omega)
      rw [hc]
      rw [← hk6, ← hn6, ← hn7] at this
      exact this
    have hpr := pr_some (prs_of hrc hwr)
    exact done_pure rfl rfl (by unfold prV; rw [hpr.1, hpr.2, hc]; rfl)
end Go.Proofs.YtbpklalkoocneaaDoor

