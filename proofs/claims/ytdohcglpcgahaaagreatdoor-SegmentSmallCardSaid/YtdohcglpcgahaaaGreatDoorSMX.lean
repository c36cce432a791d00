/-
  The walks of the reader's methods: head. The walks of the reader's methods: end and other. A segment is read: whichever method reads it. The walk of Read of package segment.
-/
import Derived.Test.YtdohcglpcgahaaaGreatDoorSSX
import Derived.Test.YtdohcglpcgahaaaGreatDoorRC
set_option linter.unusedSimpArgs false
set_option linter.unusedVariables false
namespace Go.Proofs.YtdohcglpcgahaaaGreatDoor
section
open Go Sat Go.RowKit Go.PlainAid
structure RM where
  g : Nat
  gm : Nat
  AS : Option (Nat × Nat)
  nS : Nat
  cS : Nat
  xsS : List Value
  AO : Option (Nat × Nat)
  cO : Nat
  xsO : List Value
  w0 : World
  gs : List Nat
  wd : World
  gd : List Nat
  wl : World
  gl : List Nat
def rgC (m : RM) (r : Rst) : List SV := [.v (.string r.kind), .v (.string r.ref), .o 901 m.AS m.nS m.cS, .v (.bool r.opn), .v (.map (some m.gm)), .o 902 m.AO r.out.length m.cO]
def opH (m : RM) (r : Rst) : Heap := [(900, .blk m.g 70 (rgC m r)), (901, .row m.AS 32 2 m.nS m.cS m.xsS), (902, .row m.AO 28 3 r.out.length m.cO m.xsO), (903, HBm m.gm (metV r.met)), (905, .own m.gs (Frz m.w0 m.gs)), (906, .own m.gd (Frz m.wd m.gd)), (907, .own m.gl (Frz m.wl m.gl))]
def clH (m : RM) (r : Rst) : Heap := [(900, .blk m.g 70 (rgC m r)), (902, .row m.AO 28 3 r.out.length m.cO m.xsO), (903, HBm m.gm (metV r.met)), (905, .own m.gs (Frz m.w0 m.gs)), (906, .own m.gd (Frz m.wd m.gd)), (907, .own m.gl (Frz m.wl m.gl))]
/-- bounds for a segment that is read -/
structure FewD (d : Dat) : Prop where
  len : d.length ≤ 1000
  el : ∀ e ∈ d, e.length ≤ 1000 ∧ ∀ s ∈ e, s.size ≤ 70000
theorem FewD.at2_ {d : Dat} (h : FewD d) (i : Nat) : (at2 d i).size ≤ 70000 := by
  unfold at2
  cases he : d[i]? with
  | none => simp [emp]; decide
  | some e =>
    cases hs : e[0]? with
    | none => simp [hs, emp]; decide
    | some s =>
      simp only [Option.bind_some, hs, Option.getD_some]
      exact (h.el e (List.mem_of_getElem? he)).2 s (List.mem_of_getElem? hs)
set_option maxRecDepth 100000 in
set_option maxHeartbeats 8000000 in
theorem head_open {N n0 : Nat} {W : World} {K : SV → Heap → Prop} (m : RM) (r : Rst) (d : Dat) (vd : Value) (hd : NS m.wd (fun g => g ∈ m.gd) vd d) (ho : r.opn = true)
    (h1 : ∀ H, K (.v (.int .i64 51)) H) :
    Called (Tryz.cxg N [] [] [] n0 [] W) 59 [.p 900 m.g 0 0, .v vd] (opH m r) K := by
  obtain ⟨A, c, xs, rfl, hc, hro, hB, hx⟩ := hd
  refine called_in (Tryz.ok ..) Tryz.func59 rfl (by show 2 ≤ 71; omega) ?_
  unfold opH rgC
  rw [ho]
  repeat' ((conv => whnf); first | refine walk (Tryz.ok ..) ?_ | refine side2 ?_ | refine sideL2 ?_ | refine xi _ (And.intro rfl rfl) ?_ | fail)
  (conv => whnf)
  refine calledQ_at (.v (.bool false)) rfl (fun h _ _ => absurd h Bool.false_ne_true) ?_
  repeat' ((conv => whnf); first | refine side2 ?_ | fail)
  (conv => whnf)
  refine ⟨.slice none 0 0, fun h => absurd h Bool.false_ne_true, ?_⟩
  repeat' ((conv => whnf); first | refine side2 ?_ | fail)
  (conv => whnf)
  refine ⟨.string emp, fun h => absurd h Bool.false_ne_true, ?_⟩
  repeat' ((conv => whnf); first | refine sideL2 ?_ | fail)
  (conv => whnf)
  refine calledQ_at (.v (.bool false)) rfl (fun h _ _ => absurd h Bool.false_ne_true) ?_
  repeat' ((conv => whnf); first | refine side2 ?_ | fail)
  (conv => whnf)
  refine ⟨.slice none 0 0, fun h => absurd h Bool.false_ne_true, ?_⟩
  repeat' ((conv => whnf); first | refine side2 ?_ | fail)
  (conv => whnf)
  refine ⟨.string emp, fun h => absurd h Bool.false_ne_true, ?_⟩
  repeat' ((conv => whnf); first | refine sideL2 ?_ | fail)
  (conv => whnf)
  refine calledQ_at (.v (.bool false)) rfl (fun h _ _ => absurd h Bool.false_ne_true) ?_
  repeat' ((conv => whnf); first | refine walk (Tryz.ok ..) ?_ | (refine Cnd.mk (fun h => ?_) (fun h => ?_) <;> (first | exact cndT h (by (try dsimp only); omega) | exact cndF h (by (try dsimp only); omega) | (exfalso; simp at h; omega) | simp at h | skip)) | refine side2 ?_ | fail)
  exact done_in (h1 _)
theorem ne_row1 {w : World} {v : Value} {s : ByteArray} {B : Nat → Prop} (h : NE w B v [s]) : ∃ p c, v = .slice (adr (some p)) 1 c ∧ (1 ≤ c ∧ c ≤ maxLen) ∧ Ro w (some p) 1 1 [.string s] ∧ ∀ q, some p = some q → 0 < 1 → B q.1 ∧ Cells0 w q.1 := by
  obtain ⟨A, c, xs, hv, hc, hro, hB, hx⟩ := h
  obtain ⟨p, rfl, _⟩ := hro.some_ (by simp)
  have hxs : xs = [.string s] := by
    have hl := hro.1
    match xs, hl with
    | [x], _ => rw [hx 0 x s rfl rfl]
  subst hxs
  exact ⟨p, c, hv, hc, hro, fun q hq h0 => hB q hq (by simp)⟩
theorem str1 (s : ByteArray) : ([Value.string s] : List Value)[0]? = some (.string s) := rfl
/-- a value that is frozen, at a callee's world -/
theorem frzA {cx : Cx} {w0 : World} {gs : List Nat} {v : Value} {d : Dat} (h : NS w0 (fun g => g ∈ gs) v d) {H : Heap} (hf : hfind H 906 = some (.own gs (Frz w0 gs))) {w : World} (hw : Holds cx H w) : NSA w (fun _ => True) v d := ns_arg (frz_nest ns_stays h hf hw)
set_option maxRecDepth 100000 in
set_option maxHeartbeats 8000000 in
theorem head_closed {N n0 : Nat} {W : World} {K : SV → Heap → Prop} (m : RM) (r : Rst) (d : Dat) (vd : Value) (hd : NS m.wd (fun g => g ∈ m.gd) vd d) (hfd : FewD d) (ho : r.opn = false)
    (h1 : ∀ e H, headG r d = .error e → K (.v (.int .i64 e)) H) (h2 : ∀ r', headG r d = .ok r' → K (.v (.int .i64 0)) (opH { m with AS := none, nS := 0, cS := 0, xsS := [] } r')) :
    Called (Tryz.cxg N [] [] [] n0 [] W) 59 [.p 900 m.g 0 0, .v vd] (clH m r) K := by
  have hd0 := hd
  obtain ⟨A, c, xs, rfl, hc, hro, hB, hx⟩ := hd0
  refine called_in (Tryz.ok ..) Tryz.func59 rfl (by show 2 ≤ 71; omega) ?_
  unfold clH rgC
  rw [ho]
  unfold headG at h1 h2
  rw [ho] at h1 h2
  repeat' ((conv => whnf); first | refine walk (Tryz.ok ..) ?_ | refine side2 ?_ | refine sideL2 ?_ | refine xi _ (And.intro rfl rfl) ?_ | fail)
  (conv => whnf)
  refine calledQ_at (.v (.bool (singleB d))) rfl (fun _ w' hh => by exact single_any d _ w' (frzA hd rfl hh)) ?_
  cases hs : singleB d with
  | false =>
    rw [if_pos (.inr (.inl hs))] at h1
    repeat' ((conv => whnf); first | refine side2 ?_ | fail)
    (conv => whnf)
    refine ⟨.slice none 0 0, fun h => absurd h Bool.false_ne_true, ?_⟩
    repeat' ((conv => whnf); first | refine side2 ?_ | fail)
    (conv => whnf)
    refine ⟨.string emp, fun h => absurd h Bool.false_ne_true, ?_⟩
    repeat' ((conv => whnf); first | refine sideL2 ?_ | fail)
    (conv => whnf)
    refine calledQ_at (.v (.bool false)) rfl (fun h _ _ => absurd h Bool.false_ne_true) ?_
    repeat' ((conv => whnf); first | refine side2 ?_ | fail)
    (conv => whnf)
    refine ⟨.slice none 0 0, fun h => absurd h Bool.false_ne_true, ?_⟩
    repeat' ((conv => whnf); first | refine side2 ?_ | fail)
    (conv => whnf)
    refine ⟨.string emp, fun h => absurd h Bool.false_ne_true, ?_⟩
    repeat' ((conv => whnf); first | refine sideL2 ?_ | fail)
    (conv => whnf)
    refine calledQ_at (.v (.bool false)) rfl (fun h _ _ => absurd h Bool.false_ne_true) ?_
    repeat' ((conv => whnf); first | refine walk (Tryz.ok ..) ?_ | (refine Cnd.mk (fun h => ?_) (fun h => ?_) <;> (first | exact cndT h (by (try dsimp only); omega) | exact cndF h (by (try dsimp only); omega) | (exfalso; simp at h; omega) | simp at h | skip)) | refine side2 ?_ | fail)
    exact done_in (h1 _ _ rfl)
  | true =>
  obtain ⟨e1, he1, he1', hlen⟩ := single_at hs (i := 1) (by omega)
  obtain ⟨e2, he2, he2', -⟩ := single_at hs (i := 2) (by omega)
  obtain ⟨x1, hx1, hn1⟩ := nest_at hx hro.1 he1
  obtain ⟨x2, hx2, hn2⟩ := nest_at hx hro.1 he2
  rw [he1'] at hn1
  rw [he2'] at hn2
  obtain ⟨p1, c1, rfl, hc1, hro1, hB1⟩ := ne_row1 hn1
  obtain ⟨p2, c2, rfl, hc2, hro2, hB2⟩ := ne_row1 hn2
  obtain ⟨p, rfl, _⟩ := hro.some_ (by omega)
  repeat' ((conv => whnf); first | refine side2 ?_ | refine sideL2 ?_ | refine xi _ (fun _ => (frz_at (d := 906) hro hB hx1 rfl rfl)) ?_ | refine xi _ (fun _ => (frz_at (d := 906) hro1 hB1 (str1 _) rfl rfl)) ?_ | fail)
  (conv => whnf)
  refine calledQ_at (.v (.bool (refB (at2 d 1)))) rfl (fun _ w' hh => by exact reference_any _ w' (Nat.le_trans (hfd.at2_ 1) (by decide))) ?_
  cases hr : refB (at2 d 1) with
  | false =>
    rw [if_pos (.inr (.inr (.inl hr)))] at h1
    repeat' ((conv => whnf); first | refine side2 ?_ | fail)
    (conv => whnf)
    refine ⟨.slice none 0 0, fun h => absurd h Bool.false_ne_true, ?_⟩
    repeat' ((conv => whnf); first | refine side2 ?_ | fail)
    (conv => whnf)
    refine ⟨.string emp, fun h => absurd h Bool.false_ne_true, ?_⟩
    repeat' ((conv => whnf); first | refine sideL2 ?_ | fail)
    (conv => whnf)
    refine calledQ_at (.v (.bool false)) rfl (fun h _ _ => absurd h Bool.false_ne_true) ?_
    repeat' ((conv => whnf); first | refine walk (Tryz.ok ..) ?_ | (refine Cnd.mk (fun h => ?_) (fun h => ?_) <;> (first | exact cndT h (by (try dsimp only); omega) | exact cndF h (by (try dsimp only); omega) | (exfalso; simp at h; omega) | simp at h | skip)) | refine side2 ?_ | fail)
    exact done_in (h1 _ _ rfl)
  | true =>
  repeat' ((conv => whnf); first | refine side2 ?_ | refine sideL2 ?_ | refine xi _ (fun _ => (frz_at (d := 906) hro hB hx2 rfl rfl)) ?_ | refine xi _ (fun _ => (frz_at (d := 906) hro2 hB2 (str1 _) rfl rfl)) ?_ | fail)
  (conv => whnf)
  refine calledQ_at (.v (.bool (kindB (at2 d 2)))) rfl (fun _ w' hh => by exact kind_any _ w' (Nat.le_trans (hfd.at2_ 2) (by decide))) ?_
  cases hk : kindB (at2 d 2) with
  | false =>
    rw [if_pos (.inr (.inr (.inr hk)))] at h1
    repeat' ((conv => whnf); first | refine walk (Tryz.ok ..) ?_ | (refine Cnd.mk (fun h => ?_) (fun h => ?_) <;> (first | exact cndT h (by (try dsimp only); omega) | exact cndF h (by (try dsimp only); omega) | (exfalso; simp at h; omega) | simp at h | skip)) | refine side2 ?_ | fail)
    exact done_in (h1 _ _ rfl)
  | true =>
  rw [if_neg (by rw [hs, hr, hk]; simp)] at h1 h2
  repeat' ((conv => whnf); first | refine walk (Tryz.ok ..) ?_ | (refine Cnd.mk (fun h => ?_) (fun h => ?_) <;> (first | exact cndT h (by (try dsimp only); omega) | exact cndF h (by (try dsimp only); omega) | (exfalso; simp at h; omega) | simp at h | skip)) | refine side2 ?_ | fail)
  refine sat_draw (COk.with_ (Tryz.ok ..) _ _) [] [(906, .own m.gd (Frz m.wd m.gd))] (by kernel_rfl) (fun w hw => hw.sub ?_) ?_
  · exact hsub_of rfl
  repeat' ((conv => whnf); first | refine walk (Tryz.ok ..) ?_ | refine kp ?_ ?_ | exact trivial | refine side2 ?_ | refine xi _ (frz_at (d := 906) hro hB hx1 rfl rfl) ?_ | refine xi _ (frz_at (d := 906) hro1 hB1 (str1 _) rfl rfl) ?_ | refine xi _ (frz_at (d := 906) hro hB hx2 rfl rfl) ?_ | refine xi _ (frz_at (d := 906) hro2 hB2 (str1 _) rfl rfl) ?_ | fail)
  refine sat_draw (COk.with_ (Tryz.ok ..) _ _) [9] [(900, .blk m.g 70 [.v (.string (at2 d 2)), .v (.string (at2 d 1)), .v (.slice none 0 0), .v (.bool false), .v (.map (some m.gm)), .o 902 m.AO r.out.length m.cO])] (by kernel_rfl) (fun w hw => hw.sub ?_) ?_
  · exact hsub_of rfl
  repeat' ((conv => whnf); first | refine side2 ?_ | refine xi _ (And.intro rfl rfl) ?_ | fail)
  (conv => whnf)
  by_cases hm : at2 d 1 ∈ r.met
  · rw [if_pos hm] at h1
    have hV : (metV r.met (at2 d 1)).getD (.int .i64 0) = .int .i64 1 := by rw [metV_get, if_pos hm]
    refine other_lookup 903 (.v (.int .i64 1)) Tryz.underlying68 Tryz.underlying9 (fun _ => rfl) rfl rfl rfl hV.symm ?_
    repeat' ((conv => whnf); first | refine kp ?_ ?_ | exact trivial | refine side2 ?_ | refine sideL2 ?_ | fail)
    (conv => whnf)
    refine other_update 903 (.inl rfl) Tryz.underlying68 Tryz.underlying9 rfl rfl rfl rfl ?_
    repeat' ((conv => whnf); first | refine walk (Tryz.ok ..) ?_ | refine kp ?_ ?_ | exact trivial | refine side2 ?_ | refine sideL2 ?_ | refine xi _ (And.intro rfl rfl) ?_ | fail)
    (conv => whnf)
    refine other_lookup 903 (g := m.gm) (s := at2 d 1) (.v (.int .i64 2)) Tryz.underlying68 Tryz.underlying9 (fun _ => rfl) rfl rfl rfl (by rw [if_pos rfl]; rfl) ?_
    repeat' ((conv => whnf); first | refine walk (Tryz.ok ..) ?_ | (refine Cnd.mk (fun h => ?_) (fun h => ?_) <;> (first | exact cndT h (by (try dsimp only); omega) | exact cndF h (by (try dsimp only); omega) | (exfalso; simp at h; omega) | simp at h | skip)) | fail)
    exact done_in (h1 _ _ rfl)
  · rw [if_neg hm] at h2
    have hV : (metV r.met (at2 d 1)).getD (.int .i64 0) = .int .i64 0 := by rw [metV_get, if_neg hm]
    refine other_lookup 903 (.v (.int .i64 0)) Tryz.underlying68 Tryz.underlying9 (fun _ => rfl) rfl rfl rfl hV.symm ?_
    repeat' ((conv => whnf); first | refine kp ?_ ?_ | exact trivial | refine side2 ?_ | refine sideL2 ?_ | fail)
    (conv => whnf)
    refine other_updateV 903 (metV (at2 d 1 :: r.met)) (.inl rfl) Tryz.underlying68 Tryz.underlying9 rfl rfl rfl rfl (metV_cons _ _) ?_
    repeat' ((conv => whnf); first | refine walk (Tryz.ok ..) ?_ | refine kp ?_ ?_ | exact trivial | refine side2 ?_ | refine sideL2 ?_ | refine xi _ (And.intro rfl rfl) ?_ | fail)
    (conv => whnf)
    refine other_lookup 903 (g := m.gm) (s := at2 d 1) (.v (.int .i64 1)) Tryz.underlying68 Tryz.underlying9 (fun _ => rfl) rfl rfl rfl (by rw [metV_get, if_pos List.mem_cons_self]; rfl) ?_
    repeat' ((conv => whnf); first | refine walk (Tryz.ok ..) ?_ | (refine Cnd.mk (fun h => ?_) (fun h => ?_) <;> (first | exact cndT h (by (try dsimp only); omega) | exact cndF h (by (try dsimp only); omega) | (exfalso; simp at h; omega) | simp at h | skip)) | refine side2 ?_ | fail)
    have k := h2 _ rfl
    unfold opH rgC at k
    exact done_inX fun w hw => ⟨_, hw.sub (by ((repeat' (first | exact trivial | exact rfl | refine And.intro ?_ ?_)) <;> (try (conv => whnf)) <;> (try simp only [SV.real, SV.r2, SV.r1]))), k⟩
end
section
open Go Sat Go.RowKit Go.PlainAid
set_option maxRecDepth 100000 in
set_option maxHeartbeats 8000000 in
theorem end_closed {N n0 : Nat} {W : World} {K : SV → Heap → Prop} (m : RM) (r : Rst) (vd : Value) (ho : r.opn = false)
    (h1 : ∀ H, K (.v (.int .i64 51)) H) :
    Called (Tryz.cxg N [] [] [] n0 [] W) 60 [.p 900 m.g 0 0, .v vd] (clH m r) K := by
  refine called_in (Tryz.ok ..) Tryz.func60 rfl (by show 2 ≤ 60; omega) ?_
  unfold clH rgC
  rw [ho]
  repeat' ((conv => whnf); first | refine walk (Tryz.ok ..) ?_ | (refine Cnd.mk (fun h => ?_) (fun h => ?_) <;> (first | exact cndT h (by (try dsimp only); omega) | exact cndF h (by (try dsimp only); omega) | (exfalso; simp at h; omega) | simp at h | skip)) | refine side2 ?_ | refine xi _ (And.intro rfl rfl) ?_ | fail)
  exact done_in (h1 _)
set_option maxRecDepth 100000 in
set_option maxHeartbeats 8000000 in
theorem end_open {N n0 : Nat} {W : World} {K : SV → Heap → Prop} (m : RM) (r : Rst) (d : Dat) (vd : Value) (hT : WfT W) (hW : n0 = W.heap.size) (hd : NS m.wd (fun g => g ∈ m.gd) vd d) (hfd : FewD d) (ho : r.opn = true) (hn : m.nS = r.segs.length) (hb : r.segs.length ≤ 1000000) (hbo : r.out.length ≤ 1000000)
    (h1 : ∀ e H, endG r d = .error e → K (.v (.int .i64 e)) H) (h2 : ∀ r' A c, endG r d = .ok r' → K (.v (.int .i64 0)) ((901, .row m.AS 32 2 m.nS m.cS m.xsS) :: clH { m with AO := A, cO := c, xsO := m.xsO ++ [.string r.kind, .string r.ref, .slice (adr m.AS) m.nS m.cS] } r')) :
    Called (Tryz.cxg N [] [] [] n0 [] W) 60 [.p 900 m.g 0 0, .v vd] (opH m r) K := by
  have hd0 := hd
  obtain ⟨A, c, xs, rfl, hc, hro, hB, hx⟩ := hd0
  refine called_in (Tryz.ok ..) Tryz.func60 rfl (by show 2 ≤ 60; omega) ?_
  unfold opH rgC
  rw [ho]
  unfold endG at h1 h2
  rw [ho] at h1 h2
  rw [if_neg (by simp)] at h1 h2
  repeat' ((conv => whnf); first | refine walk (Tryz.ok ..) ?_ | (refine Cnd.mk (fun h => ?_) (fun h => ?_) <;> (first | exact cndT h (by (try dsimp only); omega) | exact cndF h (by (try dsimp only); omega) | (exfalso; simp at h; omega) | simp at h | skip)) | refine side2 ?_ | refine sideL2 ?_ | refine xi _ (And.intro rfl rfl) ?_ | fail)
  (conv => whnf)
  refine calledQ_at (.v (.bool (singleB d))) rfl (fun _ w' hh => by exact single_any d _ w' (frzA hd rfl hh)) ?_
  cases hs : singleB d with
  | false =>
    rw [if_pos (.inl hs)] at h1
    repeat' ((conv => whnf); first | refine side2 ?_ | fail)
    (conv => whnf)
    refine ⟨.slice none 0 0, fun h => absurd h Bool.false_ne_true, ?_⟩
    repeat' ((conv => whnf); first | refine side2 ?_ | fail)
    (conv => whnf)
    refine ⟨.string emp, fun h => absurd h Bool.false_ne_true, ?_⟩
    repeat' ((conv => whnf); first | refine side2 ?_ | refine sideL2 ?_ | refine xi _ (fun _ => And.intro rfl rfl) ?_ | fail)
    (conv => whnf)
    refine calledQ_at (.v (.string emp)) rfl (fun h _ _ => absurd h Bool.false_ne_true) ?_
    repeat' ((conv => whnf); first | refine side2 ?_ | fail)
    (conv => whnf)
    refine ⟨.slice none 0 0, fun h => absurd h Bool.false_ne_true, ?_⟩
    repeat' ((conv => whnf); first | refine side2 ?_ | fail)
    (conv => whnf)
    refine ⟨.string emp, fun h => absurd h Bool.false_ne_true, ?_⟩
    repeat' ((conv => whnf); first | refine walk (Tryz.ok ..) ?_ | (refine Cnd.mk (fun h => ?_) (fun h => ?_) <;> (first | exact cndT h (by (try dsimp only); omega) | exact cndF h (by (try dsimp only); omega) | (exfalso; simp at h; omega) | simp at h | skip)) | refine side2 ?_ | refine xi _ (fun _ => And.intro rfl rfl) ?_ | fail)
    exact done_in (h1 _ _ rfl)
  | true =>
  obtain ⟨e1, he1, he1', hlen⟩ := single_at hs (i := 1) (by omega)
  obtain ⟨e2, he2, he2', -⟩ := single_at hs (i := 2) (by omega)
  obtain ⟨x1, hx1, hn1⟩ := nest_at hx hro.1 he1
  obtain ⟨x2, hx2, hn2⟩ := nest_at hx hro.1 he2
  rw [he1'] at hn1
  rw [he2'] at hn2
  obtain ⟨p1, c1, rfl, hc1, hro1, hB1⟩ := ne_row1 hn1
  obtain ⟨p2, c2, rfl, hc2, hro2, hB2⟩ := ne_row1 hn2
  obtain ⟨p, rfl, _⟩ := hro.some_ (by omega)
  repeat' ((conv => whnf); first | refine side2 ?_ | refine sideL2 ?_ | refine xi _ (fun _ => And.intro rfl rfl) ?_ | refine xi _ (fun _ => (frz_at (d := 906) hro hB hx1 rfl rfl)) ?_ | refine xi _ (fun _ => (frz_at (d := 906) hro1 hB1 (str1 _) rfl rfl)) ?_ | fail)
  (conv => whnf)
  refine calledQ_at (.v (.string (itB (r.segs.length + 2)))) rfl (fun _ w' hh => by rw [hn]; exact itoa_all (hT.at_ hW rfl hh) _ (by omega) (by omega)) ?_
  repeat' ((conv => whnf); first | refine walk (Tryz.ok ..) ?_ | (refine Cnd.mk (fun h => ?_) (fun h => ?_) <;> (first | exact cndT h (by (try dsimp only); omega) | exact cndF h (by (try dsimp only); omega) | (exfalso; simp at h; omega) | simp at h | skip)) | refine side2 ?_ | refine xi _ (fun _ => And.intro rfl rfl) ?_ | refine xi _ (fun _ => (frz_at (d := 906) hro hB hx2 rfl rfl)) ?_ | refine xi _ (fun _ => (frz_at (d := 906) hro2 hB2 (str1 _) rfl rfl)) ?_ | fail)
  · rw [if_pos (.inr h)] at h1
    exact done_in (h1 _ _ rfl)
  rw [if_neg (by rw [hs]; simp [h])] at h2
  refine sat_draw (COk.with_ (Tryz.ok ..) _ _) [4, 8] [] (by kernel_rfl) (fun w hw => hw.sub trivial) ?_
  repeat' ((conv => whnf); first | refine kp ?_ ?_ | refine tw ?_ ?_ | exact trivial | refine side2 ?_ | refine xi _ (And.intro rfl rfl) ?_ | fail)
  · (conv => whnf)
    intro g53 hg53
    repeat' ((conv => whnf); first | refine kp ?_ ?_ | exact trivial | refine side2 ?_ | refine Or.inr ?_ | fail)
    (conv => whnf)
    intro A54 c54
    repeat' ((conv => whnf); first | refine walk (Tryz.ok ..) ?_ | refine kp ?_ ?_ | exact trivial | refine side2 ?_ | fail)
    have k := h2 _ A54 c54 rfl
    unfold clH rgC at k
    dsimp only at k
    rw [List.length_append, List.length_singleton] at k
    exact done_inX fun w hw => ⟨_, hw.sub (by ((repeat' (first | exact trivial | exact rfl | refine And.intro ?_ ?_)) <;> (try (conv => whnf)) <;> (try simp only [SV.real, SV.r2, SV.r1]))), k⟩
  · (conv => whnf)
    intro g53 hg53
    repeat' ((conv => whnf); first | refine kp ?_ ?_ | exact trivial | refine side2 ?_ | refine Or.inr ?_ | fail)
    (conv => whnf)
    intro A54 c54
    repeat' ((conv => whnf); first | refine walk (Tryz.ok ..) ?_ | refine kp ?_ ?_ | exact trivial | refine side2 ?_ | fail)
    have k := h2 _ A54 c54 rfl
    unfold clH rgC at k
    dsimp only at k
    rw [List.length_append, List.length_singleton] at k
    exact done_inX fun w hw => ⟨_, hw.sub (by ((repeat' (first | exact trivial | exact rfl | refine And.intro ?_ ?_)) <;> (try (conv => whnf)) <;> (try simp only [SV.real, SV.r2, SV.r1]))), k⟩
  · (conv => whnf)
    intro g53 hg53
    repeat' ((conv => whnf); first | refine kp ?_ ?_ | exact trivial | refine side2 ?_ | refine Or.inr ?_ | refine xi _ (And.intro rfl rfl) ?_ | fail)
    (conv => whnf)
    intro A54 c54
    repeat' ((conv => whnf); first | refine walk (Tryz.ok ..) ?_ | refine kp ?_ ?_ | exact trivial | refine side2 ?_ | fail)
    have k := h2 _ A54 c54 rfl
    unfold clH rgC at k
    dsimp only at k
    rw [List.length_append, List.length_singleton] at k
    exact done_inX fun w hw => ⟨_, hw.sub (by ((repeat' (first | exact trivial | exact rfl | refine And.intro ?_ ?_)) <;> (try (conv => whnf)) <;> (try simp only [SV.real, SV.r2, SV.r1]))), k⟩
set_option maxRecDepth 100000 in
set_option maxHeartbeats 8000000 in
theorem other_closed {N n0 : Nat} {W : World} {K : SV → Heap → Prop} (m : RM) (r : Rst) (vd : Value) (ho : r.opn = false)
    (h1 : ∀ H, K (.v (.int .i64 51)) H) :
    Called (Tryz.cxg N [] [] [] n0 [] W) 29 [.p 900 m.g 0 0, .v vd] (clH m r) K := by
  refine called_in (Tryz.ok ..) Tryz.func29 rfl (by show 2 ≤ 51; omega) ?_
  unfold clH rgC
  rw [ho]
  repeat' ((conv => whnf); first | refine walk (Tryz.ok ..) ?_ | (refine Cnd.mk (fun h => ?_) (fun h => ?_) <;> (first | exact cndT h (by (try dsimp only); omega) | exact cndF h (by (try dsimp only); omega) | (exfalso; simp at h; omega) | simp at h | skip)) | refine side2 ?_ | refine xi _ (And.intro rfl rfl) ?_ | fail)
  exact done_in (h1 _)
theorem slice_tail {α : Type} {R : Lies α} {w : World} {B : Nat → Prop} {p : Nat × Nat} {n c : Nat} {l : List α} (h : Nest R w B (.slice (adr (some p)) n c) l) (hn : 0 < n) :
    Nest R w B (.slice (if c = Int.toNat 1 then adr (some p) else (adr (some p)).map (fun x => x.add (Int.toNat 1 * 1))) (n - Int.toNat 1) (c - Int.toNat 1)) l.tail := by
  obtain ⟨A, cap, xs, hv, hc, hro, hB, hx⟩ := h
  injection hv with h1 h2 h3
  subst h2 h3
  have hA : A = some p := by
    obtain ⟨q, hq, _⟩ := hro.some_ hn
    subst hq
    simp only [adr, Option.map_some, Option.some.injEq, Addr.mk.injEq] at h1
    congr 1
    exact (Prod.ext h1.1 h1.2.1).symm
  subst hA
  have e1 : Int.toNat 1 = 1 := rfl
  rw [e1]
  have hl : l.tail.length = l.length - 1 := List.length_tail
  have hxt : ∀ (i : Nat) (x : Value) (a : α), xs.tail[i]? = some x → l.tail[i]? = some a → R w B x a := fun i x a h1 h2 => by
    rw [List.getElem?_tail] at h1 h2
    exact hx _ x a h1 h2
  by_cases h1 : c = 1
  · rw [if_pos h1]
    have hl1 : l.length = 1 := by omega
    have hx1 := hro.1
    refine ⟨some p, c - 1, xs.tail, by rw [hl], by omega, ⟨by rw [List.length_tail]; omega, fun h0 => by omega⟩, fun _ _ h0 => by omega, hxt⟩
  · rw [if_neg h1]
    refine ⟨some (p.1, p.2 + 1), c - 1, xs.tail, by rw [hl]; simp [adr, add_mk], by omega, ⟨by rw [List.length_tail, hro.1]; omega, fun h0 => ?_⟩, fun q hq h0 => ?_, hxt⟩
    · obtain ⟨q, hq, hlt, hcell⟩ := hro.2 hn
      cases hq
      refine ⟨(p.1, p.2 + 1), rfl, hlt, fun j u hu => ?_⟩
      rw [List.getElem?_tail] at hu
      have := hcell _ u hu
      rw [← this]
      congr 2
      show p.2 + 1 + j = p.2 + (j + 1)
      omega
    · cases hq
      exact hB p rfl hn
theorem firstB_at {d : Dat} (h : firstB d = true) : ∃ e, d[0]? = some e ∧ e = [at2 d 0] := by
  cases d with
  | nil => cases h
  | cons e d =>
    refine ⟨e, rfl, ?_⟩
    have h2 : oneB e = true := h
    unfold oneB at h2
    rw [decide_eq_true_eq] at h2
    obtain ⟨s, rfl⟩ := List.length_eq_one_iff.1 h2
    rfl
set_option maxRecDepth 100000 in
set_option maxHeartbeats 8000000 in
theorem other_open {N n0 : Nat} {W : World} {K : SV → Heap → Prop} (m : RM) (r : Rst) (d : Dat) (vd : Value) (hd : NS m.wd (fun g => g ∈ m.gd) vd d) (hfd : FewD d) (ho : r.opn = true) (hn : m.nS = r.segs.length) (hb : r.segs.length ≤ 1000000)
    (h1 : ∀ e H, otherG r d = .error e → K (.v (.int .i64 e)) H) (h2 : ∀ r' A c vt, otherG r d = .ok r' → NS m.wd (fun g => g ∈ m.gd) vt d.tail → K (.v (.int .i64 0)) (opH { m with AS := A, nS := m.nS + 1, cS := c, xsS := m.xsS ++ [.string (at2 d 0), vt] } r')) :
    Called (Tryz.cxg N [] [] [] n0 [] W) 29 [.p 900 m.g 0 0, .v vd] (opH m r) K := by
  have hd0 := hd
  obtain ⟨A, c, xs, rfl, hc, hro, hB, hx⟩ := hd0
  refine called_in (Tryz.ok ..) Tryz.func29 rfl (by show 2 ≤ 51; omega) ?_
  unfold opH rgC
  rw [ho]
  unfold otherG at h1 h2
  rw [ho] at h1 h2
  rw [if_neg (by simp)] at h1 h2
  cases hf : firstB d with
  | false =>
    rw [if_pos (.inl hf)] at h1
    by_cases hdd : d = []
    · subst hdd
      repeat' ((conv => whnf); first | refine walk (Tryz.ok ..) ?_ | (refine Cnd.mk (fun h => ?_) (fun h => ?_) <;> (first | exact cndT h (by (try dsimp only); omega) | exact cndF h (by (try dsimp only); omega) | (exfalso; simp at h; omega) | simp at h | skip)) | refine side2 ?_ | refine xi _ (And.intro rfl rfl) ?_ | fail)
      (conv => whnf)
      refine ⟨.slice none 0 0, fun h => absurd h (by simp [Grd.holds]), ?_⟩
      repeat' ((conv => whnf); first | refine side2 ?_ | fail)
      (conv => whnf)
      refine ⟨.slice none 0 0, fun h => absurd h (by simp [Grd.holds]), ?_⟩
      repeat' ((conv => whnf); first | refine side2 ?_ | fail)
      (conv => whnf)
      refine ⟨.string emp, fun h => absurd h (by simp [Grd.holds]), ?_⟩
      repeat' ((conv => whnf); first | refine sideL2 ?_ | fail)
      (conv => whnf)
      refine calledQ_at (.v (.bool false)) rfl (fun h _ _ => absurd h (by simp [Grd.holds])) ?_
      repeat' ((conv => whnf); first | refine walk (Tryz.ok ..) ?_ | (refine Cnd.mk (fun h => ?_) (fun h => ?_) <;> (first | exact cndT h (by (try dsimp only); omega) | exact cndF h (by (try dsimp only); omega) | (exfalso; simp at h; omega) | simp at h | skip)) | refine side2 ?_ | fail)
      exact done_in (h1 _ _ rfl)
    · have hlen : 0 < d.length := List.length_pos_iff.2 hdd
      obtain ⟨e, d', hdd'⟩ : ∃ e d', d = e :: d' := List.exists_cons_of_ne_nil hdd
      obtain ⟨x1, hx1, hn1⟩ := nest_at hx hro.1 (i := 0) (a := e) (by rw [hdd']; rfl)
      obtain ⟨A1, c1, rfl, hc1, hro1, hB1⟩ := ne_row hn1
      have he1 : e.length ≠ 1 := fun h => by
        rw [hdd'] at hf
        have hf : oneB e = false := hf
        unfold oneB at hf
        rw [decide_eq_false_iff_not] at hf
        exact hf h
      obtain ⟨p, rfl, _⟩ := hro.some_ hlen
      repeat' ((conv => whnf); first | refine walk (Tryz.ok ..) ?_ | (refine Cnd.mk (fun h => ?_) (fun h => ?_) <;> (first | exact cndT h (by (try dsimp only); omega) | exact cndF h (by (try dsimp only); omega) | (exfalso; simp at h; omega) | simp at h | skip)) | refine side2 ?_ | refine xi _ (And.intro rfl rfl) ?_ | refine xi _ (fun _ => (frz_at (d := 906) hro hB hx1 rfl rfl)) ?_ | fail)
      all_goals (try (conv => whnf))
      refine ⟨.string emp, fun h => ?_, ?_⟩
      · exfalso
        simp [Grd.holds] at h
        omega
      repeat' ((conv => whnf); first | refine sideL2 ?_ | fail)
      (conv => whnf)
      refine calledQ_at (.v (.bool false)) rfl (fun h _ _ => ?_) ?_
      · exfalso
        simp [Grd.holds] at h
        omega
      repeat' ((conv => whnf); first | refine walk (Tryz.ok ..) ?_ | (refine Cnd.mk (fun h => ?_) (fun h => ?_) <;> (first | exact cndT h (by (try dsimp only); omega) | exact cndF h (by (try dsimp only); omega) | (exfalso; simp at h; omega) | simp at h | skip)) | refine side2 ?_ | fail)
      all_goals first | exact done_in (h1 _ _ rfl) | omega
  | true =>
  obtain ⟨e0, he0, he0'⟩ := firstB_at hf
  have hlen : 0 < d.length := (List.getElem?_eq_some_iff.1 he0).1
  obtain ⟨x1, hx1, hn1⟩ := nest_at hx hro.1 he0
  rw [he0'] at hn1
  obtain ⟨p1, c1, rfl, hc1, hro1, hB1⟩ := ne_row1 hn1
  obtain ⟨p, rfl, _⟩ := hro.some_ hlen
  repeat' ((conv => whnf); first | refine walk (Tryz.ok ..) ?_ | (refine Cnd.mk (fun h => ?_) (fun h => ?_) <;> (first | exact cndT h (by (try dsimp only); omega) | exact cndF h (by (try dsimp only); omega) | (exfalso; simp at h; omega) | simp at h | skip)) | refine side2 ?_ | refine sideL2 ?_ | refine xi _ (And.intro rfl rfl) ?_ | refine xi _ (fun _ => (frz_at (d := 906) hro hB hx1 rfl rfl)) ?_ | refine xi _ (fun _ => (frz_at (d := 906) hro1 hB1 (str1 _) rfl rfl)) ?_ | fail)
  (conv => whnf)
  refine calledQ_at (.v (.bool (tagB (at2 d 0)))) rfl (fun _ w' hh => by exact tag_any _ w' (Nat.le_trans (hfd.at2_ 0) (by decide))) ?_
  cases ht : tagB (at2 d 0) with
  | false =>
    rw [if_pos (.inr ht)] at h1
    repeat' ((conv => whnf); first | refine walk (Tryz.ok ..) ?_ | (refine Cnd.mk (fun h => ?_) (fun h => ?_) <;> (first | exact cndT h (by (try dsimp only); omega) | exact cndF h (by (try dsimp only); omega) | (exfalso; simp at h; omega) | simp at h | skip)) | refine side2 ?_ | fail)
    exact done_in (h1 _ _ rfl)
  | true =>
  rw [if_neg (by rw [hf, ht]; simp)] at h2
  repeat' ((conv => whnf); first | refine walk (Tryz.ok ..) ?_ | (refine Cnd.mk (fun h => ?_) (fun h => ?_) <;> (first | exact cndT h (by (try dsimp only); omega) | exact cndF h (by (try dsimp only); omega) | (exfalso; simp at h; omega) | simp at h | skip)) | refine side2 ?_ | fail)
  · exact absurd h (List.ne_nil_of_length_pos hlen)
  refine sat_draw (COk.with_ (Tryz.ok ..) _ _) [5] [(906, .own m.gd (Frz m.wd m.gd))] (by kernel_rfl) (fun w hw => hw.sub ?_) ?_
  · exact hsub_of rfl
  have hvt := slice_tail (p := p) hd hlen
  repeat' ((conv => whnf); first | refine kp ?_ ?_ | refine tw ?_ ?_ | exact trivial | refine side2 ?_ | refine Or.inr ?_ | refine xi _ (And.intro rfl rfl) ?_ | refine xi _ (frz_at (d := 906) hro hB hx1 rfl rfl) ?_ | refine xi _ (frz_at (d := 906) hro1 hB1 (str1 _) rfl rfl) ?_ | fail)
  · (conv => whnf)
    refine called_at (.v (.string (at2 d 0))) rfl (fun w' hh => by exact cloneS_any _ w' (Nat.le_trans (hfd.at2_ 0) (by decide))) ?_
    repeat' ((conv => whnf); first | refine kp ?_ ?_ | exact trivial | refine side2 ?_ | fail)
    (conv => whnf)
    intro g46 hg46
    repeat' ((conv => whnf); first | refine kp ?_ ?_ | exact trivial | refine side2 ?_ | refine Or.inr ?_ | fail)
    (conv => whnf)
    intro A47 c47
    repeat' ((conv => whnf); first | refine walk (Tryz.ok ..) ?_ | refine kp ?_ ?_ | exact trivial | refine side2 ?_ | fail)
    have k := h2 _ A47 c47 _ rfl hvt
    unfold opH rgC at k
    dsimp only at k
    exact done_inX fun w hw => ⟨_, hw.sub (by ((repeat' (first | exact trivial | exact rfl | refine And.intro ?_ ?_)) <;> (try (conv => whnf)) <;> (try simp only [SV.real, SV.r2, SV.r1]))), k⟩
  · (conv => whnf)
    refine called_at (.v (.string (at2 d 0))) rfl (fun w' hh => by exact cloneS_any _ w' (Nat.le_trans (hfd.at2_ 0) (by decide))) ?_
    repeat' ((conv => whnf); first | refine kp ?_ ?_ | refine tw ?_ ?_ | exact trivial | refine side2 ?_ | refine xi _ (And.intro rfl rfl) ?_ | fail)
    · (conv => whnf)
      intro g46 hg46
      repeat' ((conv => whnf); first | refine kp ?_ ?_ | exact trivial | refine side2 ?_ | refine Or.inr ?_ | fail)
      (conv => whnf)
      intro A47 c47
      repeat' ((conv => whnf); first | refine walk (Tryz.ok ..) ?_ | refine kp ?_ ?_ | exact trivial | refine side2 ?_ | fail)
      have k := h2 _ A47 c47 _ rfl hvt
      unfold opH rgC at k
      dsimp only at k
      exact done_inX fun w hw => ⟨_, hw.sub (by ((repeat' (first | exact trivial | exact rfl | refine And.intro ?_ ?_)) <;> (try (conv => whnf)) <;> (try simp only [SV.real, SV.r2, SV.r1]))), k⟩
    · (conv => whnf)
      intro g46 hg46
      repeat' ((conv => whnf); first | refine kp ?_ ?_ | exact trivial | refine side2 ?_ | refine Or.inr ?_ | refine xi _ (And.intro rfl rfl) ?_ | fail)
      (conv => whnf)
      intro A47 c47
      repeat' ((conv => whnf); first | refine walk (Tryz.ok ..) ?_ | refine kp ?_ ?_ | exact trivial | refine side2 ?_ | fail)
      have k := h2 _ A47 c47 _ rfl hvt
      unfold opH rgC at k
      dsimp only at k
      exact done_inX fun w hw => ⟨_, hw.sub (by ((repeat' (first | exact trivial | exact rfl | refine And.intro ?_ ?_)) <;> (try (conv => whnf)) <;> (try simp only [SV.real, SV.r2, SV.r1]))), k⟩
end
section
open Go Sat Go.RowKit Go.PlainAid
theorem fuseC {α : Type} {R : LiesC α} (hR : StaysC R) {cx : Cx} {H : Heap} {w w0 : World} (L : List Nat) (d : Nat) {gs : List Nat} {v : List Value} {l : α} (h : R w0 (fun g => g ∈ gs) v l) (hw : Holds cx H w) (hf : hfind H d = some (.own gs (Frz w0 gs))) (hi : memN L d = true) : R w (fun g => g ∈ gsOf H L) v l :=
  hR _ _ _ _ _ _ h (fun g hg _ => frz_of hf hw g hg) (fun g hg => gs_sub hi hf hg)
theorem cut1_old {xs cs : List Value} {z n i : Nat} (hl : xs.length = n * z) (hi : i < n) : cut1 (xs ++ cs) z i = cut1 xs z i := by
  unfold cut1
  have h : i * z + z ≤ n * z := by rw [← Nat.succ_mul]; exact Nat.mul_le_mul_right _ hi
  rw [List.drop_append_of_le_length (by omega), List.take_append_of_le_length (by rw [List.length_drop]; omega)]
theorem cut1_new {xs cs : List Value} {z n : Nat} (hl : xs.length = n * z) (hc : cs.length = z) : cut1 (xs ++ cs) z n = cs := by
  unfold cut1
  rw [← hl, List.drop_left, List.take_of_length_le (by omega)]
theorem snoc_at {α : Type} {l : List α} {x a : α} {i : Nat} (h : (l ++ [x])[i]? = some a) : (i < l.length ∧ l[i]? = some a) ∨ (i = l.length ∧ a = x) := by
  rcases Nat.lt_or_ge i l.length with h1 | h1
  · rw [List.getElem?_append_left h1] at h
    exact .inl ⟨h1, h⟩
  · rw [List.getElem?_append_right h1] at h
    rcases Nat.eq_zero_or_pos (i - l.length) with h2 | h2
    · rw [h2] at h
      exact .inr ⟨by omega, (Option.some.inj h).symm⟩
    · rw [List.getElem?_eq_none (by simp; omega)] at h
      cases h
/-- what the reader holds is what it has read -/
structure MG (m : RM) (r : Rst) : Prop where
  lO : m.xsO.length = r.out.length * 3
  gO : ∀ (i : Nat) (a : Msg), r.out[i]? = some a → MsgC m.w0 (fun g => g ∈ m.gs) (cut1 m.xsO 3 i) a
  nS : r.opn = true → m.nS = r.segs.length
  lS : r.opn = true → m.xsS.length = r.segs.length * 2
  gS : r.opn = true → ∀ (i : Nat) (a : Sg), r.segs[i]? = some a → SegR NS m.w0 (fun g => g ∈ m.gs) (cut1 m.xsS 2 i) a
def stG (m : RM) (r : Rst) : Heap := if r.opn = true then opH m r else clH m r
def nextH (m : RM) (r : Rst) : Heap := if r.opn = true then opH m r else (901, .row m.AS 32 2 m.nS m.cS m.xsS) :: clH m r
def fusedL (r : Rst) : List Nat := if r.opn = true then [905, 906] else [905, 906, 901]
theorem nextH_open {m : RM} {r : Rst} (h : r.opn = true) : nextH m r = opH m r := if_pos h
theorem fusedL_open {r : Rst} (h : r.opn = true) : fusedL r = [905, 906] := if_pos h
theorem nextH_closed {m : RM} {r : Rst} (h : r.opn = false) : nextH m r = (901, .row m.AS 32 2 m.nS m.cS m.xsS) :: clH m r := if_neg (by rw [h]; simp)
theorem fusedL_closed {r : Rst} (h : r.opn = false) : fusedL r = [905, 906, 901] := if_neg (by rw [h]; simp)
theorem stG_open {m : RM} {r : Rst} (h : r.opn = true) : stG m r = opH m r := if_pos h
theorem stG_closed {m : RM} {r : Rst} (h : r.opn = false) : stG m r = clH m r := if_neg (by rw [h]; simp)
def fnOf (d : Dat) : Nat := if firstB d = true ∧ at2 d 0 = hedS then 59 else if firstB d = true ∧ at2 d 0 = endS then 60 else 29
structure NextOk (cx : Cx) (m m' : RM) (r' : Rst) : Prop where
  ok : ∀ w3, Holds cx (nextH m' r') w3 → MG { m' with w0 := w3, gs := gsOf (nextH m' r') (fusedL r') } r'
  g : m'.g = m.g
  gm : m'.gm = m.gm
  wl : m'.wl = m.wl
  gl : m'.gl = m.gl
theorem headG_out {r r' : Rst} {d : Dat} (h : headG r d = .ok r') : r.opn = false ∧ r'.opn = true ∧ r'.out = r.out ∧ r'.segs = [] := by
  unfold headG at h
  split at h
  · cases h
  rename_i h1
  split at h
  · cases h
  cases h
  refine ⟨?_, rfl, rfl, rfl⟩
  cases ho : r.opn with
  | false => rfl
  | true => exact absurd (.inl ho) h1
theorem endG_out {r r' : Rst} {d : Dat} (h : endG r d = .ok r') : r.opn = true ∧ r' = { r with opn := false, out := r.out ++ [r.msg] } := by
  unfold endG at h
  split at h
  · cases h
  rename_i h1
  split at h
  · cases h
  cases h
  exact ⟨by simpa using h1, rfl⟩
theorem otherG_out {r r' : Rst} {d : Dat} (h : otherG r d = .ok r') : r.opn = true ∧ r' = { r with segs := r.segs ++ [(at2 d 0, d.tail)] } := by
  unfold otherG at h
  split at h
  · cases h
  rename_i h1
  split at h
  · cases h
  cases h
  exact ⟨by simpa using h1, rfl⟩
theorem stepg_called {N n0 : Nat} {W : World} {K : SV → Heap → Prop} (m : RM) (r : Rst) (d : Dat) (vd : Value) (hT : WfT W) (hW : n0 = W.heap.size) (hm : MG m r) (hd : NS m.wd (fun g => g ∈ m.gd) vd d) (hfd : FewD d) (hb : r.segs.length ≤ 1000000) (hbo : r.out.length ≤ 1000000)
    (h1 : ∀ e H, stepG r d = .error e → K (.v (.int .i64 e)) H) (h2 : ∀ r' m', stepG r d = .ok r' → NextOk (Tryz.cxg N [] [] [] n0 [] W) m m' r' → K (.v (.int .i64 0)) (nextH m' r')) :
    Called (Tryz.cxg N [] [] [] n0 [] W) (fnOf d) [.p 900 m.g 0 0, .v vd] (stG m r) K := by
  unfold stepG at h1 h2
  unfold fnOf stG
  split
  · rename_i c1
    rw [if_pos c1] at h1 h2
    cases ho : r.opn with
    | true =>
      rw [if_pos rfl]
      exact head_open m r d vd hd ho fun H => h1 _ H (by unfold headG; rw [if_pos (.inl ho)])
    | false =>
      rw [if_neg (by simp)]
      refine head_closed m r d vd hd hfd ho h1 fun r' hr' => ?_
      obtain ⟨-, e1, e2, e3⟩ := headG_out hr'
      have k := h2 r' { m with AS := none, nS := 0, cS := 0, xsS := [] } hr' ⟨fun w3 hw3 => ?_, rfl, rfl, rfl, rfl⟩
      · rw [nextH_open e1] at k
        exact k
      · rw [nextH_open e1] at hw3
        rw [nextH_open e1, fusedL_open e1]
        exact ⟨by rw [e2]; exact hm.lO, fun i a ha => fuseC msgc_stays [905, 906] 905 (hm.gO i a (by rw [← e2]; exact ha)) hw3 rfl rfl, fun _ => by rw [e3]; rfl, fun _ => by rw [e3]; rfl, fun _ i a ha => by rw [e3] at ha; cases ha⟩
  rename_i c1
  rw [if_neg c1] at h1 h2
  split
  · rename_i c2
    rw [if_pos c2] at h1 h2
    cases ho : r.opn with
    | false =>
      rw [if_neg (by simp)]
      exact end_closed m r vd ho fun H => h1 _ H (by unfold endG; rw [if_pos ho])
    | true =>
      rw [if_pos rfl]
      refine end_open m r d vd hT hW hd hfd ho (hm.nS ho) hb hbo h1 fun r' A c hr' => ?_
      obtain ⟨-, rfl⟩ := endG_out hr'
      have k := h2 _ { m with AO := A, cO := c, xsO := m.xsO ++ [.string r.kind, .string r.ref, .slice (adr m.AS) m.nS m.cS] } hr' ⟨fun w3 hw3 => ?_, rfl, rfl, rfl, rfl⟩
      · exact k
      · have hw3' : Holds (Tryz.cxg N [] [] [] n0 [] W) ((901, .row m.AS 32 2 m.nS m.cS m.xsS) :: clH { m with AO := A, cO := c, xsO := m.xsO ++ [.string r.kind, .string r.ref, .slice (adr m.AS) m.nS m.cS] } { r with opn := false, out := r.out ++ [r.msg] }) w3 := hw3
        refine ⟨by show (m.xsO ++ [_, _, _]).length = (r.out ++ [r.msg]).length * 3; rw [List.length_append, List.length_append, hm.lO]; simp; omega, fun i a ha => ?_, fun h => (by cases h), fun h => (by cases h), fun h => (by cases h)⟩
        show MsgC w3 (fun g => g ∈ gsOf ((901, .row m.AS 32 2 m.nS m.cS m.xsS) :: clH _ _) [905, 906, 901]) (cut1 (m.xsO ++ [.string r.kind, .string r.ref, .slice (adr m.AS) m.nS m.cS]) 3 i) a
        rcases snoc_at ha with ⟨hi, ha⟩ | ⟨hi, rfl⟩
        · rw [cut1_old hm.lO hi]
          exact fuseC msgc_stays [905, 906, 901] 905 (hm.gO i a ha) hw3' rfl rfl
        · rw [hi, cut1_new hm.lO rfl]
          refine ⟨_, rfl, adr m.AS, m.AS, m.cS, m.xsS, ?_, AtN.refl _ _, ?_, ?_, fun p hp _ => ?_, fun i a ha => ?_⟩
          · rw [hm.nS ho]; rfl
          · have := row_caps hw3' (id := 901) rfl
            rw [hm.nS ho] at this
            exact this
          · have := ro_of_row hw3' (id := 901) rfl
            rw [hm.nS ho] at this
            exact this
          · exact ⟨gs_sub (i := 901) rfl rfl (by rw [hp]; simp [HB.gs]), by
              have h0 := hw3'.at_ (i := 901) rfl
              rw [hp] at h0
              exact own_cellsz (show w3.ownsRow _ _ _ _ _ _ from h0)⟩
          · exact fuseC (segr_stays ns_stays) [905, 906, 901] 905 (hm.gS ho i a ha) hw3' rfl rfl
  · rename_i c2
    rw [if_neg c2] at h1 h2
    cases ho : r.opn with
    | false =>
      rw [if_neg (by simp)]
      exact other_closed m r vd ho fun H => h1 _ H (by unfold otherG; rw [if_pos ho])
    | true =>
      rw [if_pos rfl]
      refine other_open m r d vd hd hfd ho (hm.nS ho) hb h1 fun r' A c vt hr' hvt => ?_
      obtain ⟨-, rfl⟩ := otherG_out hr'
      have ho2 : ({ r with segs := r.segs ++ [(at2 d 0, d.tail)] } : Rst).opn = true := ho
      have k := h2 _ { m with AS := A, nS := m.nS + 1, cS := c, xsS := m.xsS ++ [.string (at2 d 0), vt] } hr' ⟨fun w3 hw3 => ?_, rfl, rfl, rfl, rfl⟩
      · rw [nextH_open ho2] at k
        exact k
      · rw [nextH_open ho2] at hw3
        rw [nextH_open ho2, fusedL_open ho2]
        refine ⟨hm.lO, fun i a ha => fuseC msgc_stays [905, 906] 905 (hm.gO i a ha) hw3 rfl rfl, fun _ => ?_, fun _ => ?_, fun _ i a ha => ?_⟩
        · show m.nS + 1 = (r.segs ++ [_]).length
          rw [List.length_append, hm.nS ho]; rfl
        · show (m.xsS ++ [_, _]).length = (r.segs ++ [_]).length * 2
          rw [List.length_append, List.length_append, hm.lS ho]; simp; omega
        · show SegR NS w3 (fun g => g ∈ gsOf (opH _ _) [905, 906]) (cut1 (m.xsS ++ [.string (at2 d 0), vt]) 2 i) a
          rcases snoc_at ha with ⟨hi, ha⟩ | ⟨hi, rfl⟩
          · rw [cut1_old (hm.lS ho) hi]
            exact fuseC (segr_stays ns_stays) [905, 906] 905 (hm.gS ho i a ha) hw3 rfl rfl
          · rw [hi, cut1_new (hm.lS ho) rfl]
            exact ⟨vt, rfl, frz_nest' ns_stays hvt (d := 906) rfl hw3 (fun g hg => gs_sub (i := 906) rfl rfl hg)⟩
theorem stepG_code {r : Rst} {d : Dat} {e : Int} (h : stepG r d = .error e) : e ≠ 0 := by
  unfold stepG headG endG otherG at h
  repeat' split at h
  all_goals first | (cases h; done) | (cases h; decide)
theorem stepG_len {r r' : Rst} {d : Dat} (h : stepG r d = .ok r') : r'.segs.length ≤ r.segs.length + 1 ∧ r'.out.length ≤ r.out.length + 1 := by
  unfold stepG at h
  split at h
  · obtain ⟨-, -, e2, e3⟩ := headG_out h
    rw [e2, e3]; simp
  split at h
  · obtain ⟨-, rfl⟩ := endG_out h
    simp
  · obtain ⟨-, rfl⟩ := otherG_out h
    simp
end
section
open Go Sat Go.RowKit Go.PlainAid
theorem nestz_nil {α : Type} {z : Nat} {R : LiesC α} {w : World} {B : Nat → Prop} : NestZ z R w B (.slice none 0 0) [] := ⟨none, none, 0, [], rfl, ⟨fun h => by cases h⟩, ⟨Nat.le_refl _, Nat.zero_le _⟩, Ro.nil_ w none z, fun p hp => (by cases hp), fun i a h => (by cases h)⟩
theorem trimE_few {e : Elem} (h : e.length ≤ 1000 ∧ ∀ s ∈ e, s.size ≤ 70000) : (trimE e).length ≤ 1000 ∧ ∀ s ∈ trimE e, s.size ≤ 70000 := by
  unfold trimE
  split
  · exact ⟨by simp, fun s hs => by rw [List.mem_singleton] at hs; subst hs; show emp.size ≤ 70000; decide⟩
  · exact ⟨by rw [List.length_take]; omega, fun s hs => h.2 s (List.mem_of_mem_take hs)⟩
theorem trimS_few {d : Dat} (h : FewD d) : FewD (trimS d) := by
  refine ⟨Nat.le_trans (trimS_len d) h.len, fun e he => ?_⟩
  unfold trimS at he
  obtain ⟨e0, h0, rfl⟩ := List.mem_map.1 (List.mem_of_mem_take he)
  exact trimE_few (h.el e0 h0)
theorem fewD_right {s : Segm} (h : rightS s = true) : FewD s := by
  obtain ⟨h1, h2⟩ := rightS_at h
  exact ⟨by omega, fun e he => ⟨by have := (h2 e he).1; omega, fun c hc => by have := ((h2 e he).2 c hc).1; omega⟩⟩
theorem FewD.s {d : Dat} (h : FewD d) : FewS d := ⟨by have := h.len; omega, fun e he => by have := (h.el e he).1; omega⟩
def AnsG (l : List UInt8) (w : World) (B : Nat → Prop) (v : Value) : Prop := MsgsC w B v (readG l).1
set_option maxRecDepth 100000 in
set_option maxHeartbeats 16000000 in
theorem readC_any (s : ByteArray) (w : World) (hw : WfT w) :
    Calls Tryz.prog 9 #[.string s] w (Gives (fun v => .tuple #[v, .int .i64 (readG s.data.toList).2.1, .int .i64 (readG s.data.toList).2.2]) (AnsG s.data.toList) w) := by
  refine calls_sat (cx := Tryz.cx 79 [5, 11, 17] [] [] w) (Tryz.ok ..) Tryz.func9 rfl [.v (.string s)] rfl (by show 1 ≤ 79; omega) [] (holds_nil (Nat.le_refl _)) ?_
  obtain ⟨t, ht⟩ : ∃ t, t = s.data.toList := ⟨_, rfl⟩
  obtain ⟨l, hl⟩ : ∃ l, l = (readE t).1 := ⟨_, rfl⟩
  obtain ⟨pa, hpa⟩ : ∃ l, l = (readE t).2.1 := ⟨_, rfl⟩
  obtain ⟨pe, hpe⟩ : ∃ l, l = (readE t).2.2 := ⟨_, rfl⟩
  rw [← ht]
  repeat' ((conv => whnf); first | refine walk (Tryz.ok ..) ?_ | fail)
  (conv => whnf)
  refine called_nest 907 (mk := fun v => .tuple #[v, .int .i64 pa, .int .i64 pe]) (Q := fun w B v => NL w B v l) (fun v => .t [.v v, .v (.int .i64 pa), .v (.int .i64 pe)]) (fun _ => rfl) (fun w' _ => by rw [hl, hpa, hpe, ht]; exact read_any s w') ?_
  intro wl gl vl hvl
  obtain ⟨Al, cl, xl, rfl, hcl, hrl, hBl, hxl⟩ := hvl
  by_cases he : pe = 0
  · subst he
    have hG : readG t = runG l 0 rst0 := by unfold readG; rw [if_pos hpe.symm, hl]
    have hag : Again t l pa := by
      refine again ?_
      by_cases h5 : 65536 < t.length
      · exfalso
        unfold readE at hpe
        rw [if_pos h5] at hpe
        cases hpe
      · unfold readE at hl hpa hpe
        rw [if_neg h5] at hl hpa hpe
        rw [hl, hpa, hpe]
    have hfew := hag.few
    have hmax : l.length ≤ 9223372036854775807 := by omega
    rw [hG]
    repeat' ((conv => whnf); first | refine walk (Tryz.ok ..) ?_ | (refine Cnd.mk (fun h => ?_) (fun h => ?_) <;> (first | exact cndT h (by (try dsimp only); omega) | exact cndF h (by (try dsimp only); omega) | (exfalso; simp at h; omega) | simp at h | skip)) | fail)
    (conv => whnf)
    refine other_make fun g26 hg26 => ?_
    skip
    (conv => whnf)
    intro g28 hg28
    repeat' ((conv => whnf); first | refine walk (Tryz.ok ..) ?_ | fail)
    refine sat_fuse 905 [] rfl fun w0 hw0 => ?_
    refine sat_fuse 906 [] rfl fun wd0 hwd0 => ?_
    refine sat_ren [(5, .yes, .v (.slice (adr Al) l.length cl)), (8, .yes, .p 900 g28 0 0)] [(900, 28, .blk g28 70 [.v (.string emp), .v (.string emp), .v (.slice none 0 0), .v (.bool false), .v (.map (some g26)), .v (.slice none 0 0)]), (903, 26, HBm g26 (fun _ => none)), (905, 905, .own [] (Frz w0 [])), (906, 906, .own [] (Frz wd0 [])), (907, 907, .own gl (Frz wl gl))] (by kernel_rfl) rfl rfl rfl (by ((repeat' (first | exact trivial | exact rfl | refine And.intro ?_ ?_)) <;> (try (conv => whnf)) <;> (try simp only [SV.real, SV.r2, SV.r1]))) ?_
    refine sat_ops (Tryz.ok ..) ?_
    repeat' ((conv => whnf); first | refine walk (Tryz.ok ..) ?_ | fail)
    refine sat_loop (Tryz.ok ..) (α := Nat × Rst × RM) (fun u => ([(5, .yes, .v (.slice (adr Al) l.length cl)), (8, .yes, .p 900 g28 0 0), (29, .yes, .v (.slice (adr Al) l.length cl)), (30, .yes, .v (.int .i64 l.length)), (31, .yes, .v (.int .i64 u.1))], stG { u.2.2 with g := g28, gm := g26, wl := wl, gl := gl } u.2.1))
      (fun u => u.1 ≤ l.length ∧ MG u.2.2 u.2.1 ∧ u.2.1.segs.length ≤ u.1 ∧ u.2.1.out.length ≤ u.1 ∧ runG (l.drop u.1) u.1 u.2.1 = runG l 0 rst0) (fun u => l.length - u.1) (fun _ => rfl) ?_ ?_
    · refine ⟨(0, rst0, ⟨g28, g26, none, 0, 0, [], none, 0, [], w0, [], wd0, [], wl, gl⟩), ⟨Nat.zero_le _, ⟨rfl, fun i a h => (by cases h), fun h => (by cases h), fun h => (by cases h), fun h => (by cases h)⟩, Nat.zero_le _, Nat.zero_le _, rfl⟩, ?_, ?_, rfl⟩
      · ((repeat' (first | exact trivial | exact rfl | refine And.intro ?_ ?_)) <;> (try (conv => whnf)) <;> (try simp only [SV.real, SV.r2, SV.r1]))
      · ((repeat' (first | exact trivial | exact rfl | refine And.intro ?_ ?_)) <;> (try (conv => whnf)) <;> (try simp only [SV.real, SV.r2, SV.r1]))
    rintro ⟨k, r, m⟩ ⟨hk, hm, hsn, hon, hrun⟩
    dsimp only at hk hm hsn hon hrun ⊢
    by_cases hk1 : k < l.length
    · obtain ⟨sg, hs⟩ : ∃ s, l[k]? = some s := ⟨_, List.getElem?_eq_getElem hk1⟩
      obtain ⟨x, hx, hne⟩ := nest_at hxl hrl.1 hs
      obtain ⟨p, rfl, _⟩ := hrl.some_ (by omega)
      obtain ⟨ax, nx, cx, hxv⟩ : ∃ a n c, x = .slice a n c := by
        obtain ⟨A, cap, xs, hv, -⟩ := hne
        exact ⟨_, _, _, hv⟩
      subst hxv
      have hfd := fewD_right (List.all_eq_true.1 hag.right sg (List.mem_of_getElem? hs))
      have hft := trimS_few hfd
      have hdrop : l.drop k = sg :: l.drop (k + 1) := drop_at hs
      rw [hdrop, runG] at hrun
      obtain ⟨cH, hcH⟩ : ∃ H, H = stG { m with g := g28, gm := g26, wl := wl, gl := gl } r := ⟨_, rfl⟩
      have h907 : hfind (stG { m with g := g28, gm := g26, wl := wl, gl := gl } r) 907 = some (.own gl (Frz wl gl)) := by
        cases ho : r.opn with
        | true => rw [stG_open ho]; rfl
        | false => rw [stG_closed ho]; rfl
      repeat' ((conv => whnf); first | refine walk (Tryz.ok ..) ?_ | (refine Cnd.mk (fun h => ?_) (fun h => ?_) <;> (first | exact cndT h (by (try dsimp only); omega) | exact cndF h (by (try dsimp only); omega) | (exfalso; simp at h; omega) | simp at h | skip)) | refine side2 ?_ | refine xi _ (frz_at (d := 907) hrl hBl hx rfl h907) ?_ | fail)
      (conv => whnf)
      refine called_nest 906 (mk := id) (Q := fun w B v => NS w B v (trimS sg)) (fun v => .v v) (fun _ => rfl) (fun w' hh => by exact trim_any sg _ w' (ns_arg (frz_nest ns_stays hne h907 hh)) hfd.s) ?_
      intro wd gd vd hvd
      obtain ⟨d, hdd⟩ : ∃ d, d = trimS sg := ⟨_, rfl⟩
      rw [← hdd] at hvd hrun hft
      have hvd0 := hvd
      obtain ⟨Ad, cd, xd, rfl, hcd, hrd, hBd, hxd⟩ := hvd
      have hdmax := hft.len
      cases hf : firstB d with
      | false =>
        by_cases hd0 : d = []
        · have hl0 : d.length = 0 := by rw [hd0]; rfl
          repeat' ((conv => whnf); first | refine walk (Tryz.ok ..) ?_ | refine side2 ?_ | fail)
          (conv => whnf)
          refine ⟨.slice none 0 0, fun h => absurd (of_decide_eq_true h) (by omega), ?_⟩
          repeat' ((conv => whnf); first | refine walk (Tryz.ok ..) ?_ | (refine Cnd.mk (fun h => ?_) (fun h => ?_) <;> (first | exact cndT h (by (try dsimp only); omega) | exact cndF h (by (try dsimp only); omega) | (exfalso; simp at h; omega) | simp at h | skip)) | refine side2 ?_ | fail)
          (conv => whnf)
          have hF : fnOf d = 29 := by unfold fnOf; rw [if_neg (by rw [hf]; simp), if_neg (by rw [hf]; simp)]
          refine called_lay [.p 900 g28 0 0, .v (.slice (adr (Ad)) d.length cd)] (stG { m with g := g28, gm := g26, wl := wl, gl := gl, wd := wd, gd := gd } r) rfl (fun w hw => ?_) ?_
          · cases ho : r.opn with
            | true => rw [stG_open ho] at hw ⊢; exact hw.sub (hsub_of (by kernel_rfl))
            | false => rw [stG_closed ho] at hw ⊢; exact hw.sub (hsub_of (by kernel_rfl))
          refine Called.cx_ (cx := Tryz.cxg 79 [] [] [] w.heap.size [] w) (cx' := Tryz.cxg 79 [5, 11, 17] [] [] w.heap.size [] w) rfl rfl rfl rfl ?_
          refine (congrArg (fun F => Called _ F _ _ _) hF).mp ?_
          refine stepg_called { m with g := g28, gm := g26, wl := wl, gl := gl, wd := wd, gd := gd } r d _ hw rfl ⟨hm.lO, hm.gO, hm.nS, hm.lS, hm.gS⟩ hvd0 hft (by omega) (by omega) (fun e H he => ?_) (fun r' m' hr' hn => ?_)
          · have hc := stepG_code he
            rw [he] at hrun
            dsimp only at hrun
            rw [← hrun]
            repeat' ((conv => whnf); first | refine walk (Tryz.ok ..) ?_ | (refine Cnd.mk (fun h => ?_) (fun h => ?_) <;> (first | exact cndT h (by (try dsimp only); omega) | exact cndF h (by (try dsimp only); omega) | (exfalso; simp at h; omega) | simp at h | skip)) | fail)
            all_goals first | exact done_fuse (v := .slice none 0 0) rfl rfl [] (fun w _ => by unfold AnsG; rw [hG, ← hrun]; exact nestc_nil) rfl | omega
          · rw [hr'] at hrun
            dsimp only at hrun
            have hlen := stepG_len hr'
            repeat' ((conv => whnf); first | refine walk (Tryz.ok ..) ?_ | (refine Cnd.mk (fun h => ?_) (fun h => ?_) <;> (first | exact cndT h (by (try dsimp only); omega) | exact cndF h (by (try dsimp only); omega) | (exfalso; simp at h; omega) | simp at h | skip)) | fail)
            obtain ⟨hok, hg, hgm, hwl, hgl⟩ := hn
            obtain ⟨g', gm', AS', nS', cS', xsS', AO', cO', xsO', w0', gs', wd', gd', wl', gl'⟩ := m'
            dsimp only at hg hgm hwl hgl
            subst hg hgm hwl hgl
            cases hopn : r'.opn with
            | true =>
              rw [nextH_open hopn]
              refine sat_fuse 905 [905, 906] rfl fun w3 hw3 => ?_
              have hmg := hok w3 (by rw [nextH_open hopn]; exact Sat.Holds.cx_ (cx := Tryz.cxg 79 [5, 11, 17] [] [] w.heap.size [] w) (cx' := Tryz.cxg 79 [] [] [] w.heap.size [] w) rfl rfl rfl hw3)
              rw [nextH_open hopn, fusedL_open hopn] at hmg
              refine sat_fuse 906 [] rfl fun w4 hw4 => ?_
              refine sat_ops (Tryz.ok ..) ?_
              repeat' ((conv => whnf); first | refine sideL2 ?_ | fail)
              refine ⟨(k + 1, r', ⟨g', gm', AS', nS', cS', xsS', AO', cO', xsO', w3, _, w4, [], wl', gl'⟩), ⟨⟨hk1, ⟨hmg.lO, hmg.gO, hmg.nS, hmg.lS, hmg.gS⟩, by have := hlen.1; show r'.segs.length ≤ k + 1; omega, by have := hlen.2; show r'.out.length ≤ k + 1; omega, hrun⟩, by show l.length - (k + 1) < l.length - k; omega⟩, ?_, ?_, rfl⟩
              · ((repeat' (first | exact trivial | exact rfl | refine And.intro ?_ ?_)) <;> (try (conv => whnf)) <;> (try simp only [SV.real, SV.r2, SV.r1]))
              · dsimp only
                rw [stG_open hopn]
                ((repeat' (first | exact trivial | exact rfl | refine And.intro ?_ ?_)) <;> (try (conv => whnf)) <;> (try simp only [SV.real, SV.r2, SV.r1]))
            | false =>
              rw [nextH_closed hopn]
              refine sat_fuse 905 [905, 906, 901] rfl fun w3 hw3 => ?_
              have hmg := hok w3 (by rw [nextH_closed hopn]; exact Sat.Holds.cx_ (cx := Tryz.cxg 79 [5, 11, 17] [] [] w.heap.size [] w) (cx' := Tryz.cxg 79 [] [] [] w.heap.size [] w) rfl rfl rfl hw3)
              rw [nextH_closed hopn, fusedL_closed hopn] at hmg
              refine sat_fuse 906 [] rfl fun w4 hw4 => ?_
              refine sat_ops (Tryz.ok ..) ?_
              repeat' ((conv => whnf); first | refine sideL2 ?_ | fail)
              refine ⟨(k + 1, r', ⟨g', gm', AS', nS', cS', xsS', AO', cO', xsO', w3, _, w4, [], wl', gl'⟩), ⟨⟨hk1, ⟨hmg.lO, hmg.gO, hmg.nS, hmg.lS, hmg.gS⟩, by have := hlen.1; show r'.segs.length ≤ k + 1; omega, by have := hlen.2; show r'.out.length ≤ k + 1; omega, hrun⟩, by show l.length - (k + 1) < l.length - k; omega⟩, ?_, ?_, rfl⟩
              · ((repeat' (first | exact trivial | exact rfl | refine And.intro ?_ ?_)) <;> (try (conv => whnf)) <;> (try simp only [SV.real, SV.r2, SV.r1]))
              · dsimp only
                rw [stG_closed hopn]
                ((repeat' (first | exact trivial | exact rfl | refine And.intro ?_ ?_)) <;> (try (conv => whnf)) <;> (try simp only [SV.real, SV.r2, SV.r1]))
        · have hlen : 0 < d.length := List.length_pos_iff.2 hd0
          obtain ⟨e, d', hd'⟩ : ∃ e d', d = e :: d' := List.exists_cons_of_ne_nil hd0
          obtain ⟨x1, hx1, hn1⟩ := nest_at hxd hrd.1 (i := 0) (a := e) (by rw [hd']; rfl)
          obtain ⟨A1, c1, rfl, hc1, hro1, hB1⟩ := ne_row hn1
          have he1 : e.length ≠ 1 := fun h => by
            rw [hd'] at hf
            have hf : oneB e = false := hf
            unfold oneB at hf
            rw [decide_eq_false_iff_not] at hf
            exact hf h
          obtain ⟨pd, rfl, _⟩ := hrd.some_ hlen
          repeat' ((conv => whnf); first | refine walk (Tryz.ok ..) ?_ | (refine Cnd.mk (fun h => ?_) (fun h => ?_) <;> (first | exact cndT h (by (try dsimp only); omega) | exact cndF h (by (try dsimp only); omega) | (exfalso; simp at h; omega) | simp at h | skip)) | refine side2 ?_ | refine xi _ (fun _ => (frz_at (d := 906) hrd hBd hx1 rfl rfl)) ?_ | fail)
          (conv => whnf)
          have hF : fnOf d = 29 := by unfold fnOf; rw [if_neg (by rw [hf]; simp), if_neg (by rw [hf]; simp)]
          refine called_lay [.p 900 g28 0 0, .v (.slice (adr (some pd)) d.length cd)] (stG { m with g := g28, gm := g26, wl := wl, gl := gl, wd := wd, gd := gd } r) rfl (fun w hw => ?_) ?_
          · cases ho : r.opn with
            | true => rw [stG_open ho] at hw ⊢; exact hw.sub (hsub_of (by kernel_rfl))
            | false => rw [stG_closed ho] at hw ⊢; exact hw.sub (hsub_of (by kernel_rfl))
          refine Called.cx_ (cx := Tryz.cxg 79 [] [] [] w.heap.size [] w) (cx' := Tryz.cxg 79 [5, 11, 17] [] [] w.heap.size [] w) rfl rfl rfl rfl ?_
          refine (congrArg (fun F => Called _ F _ _ _) hF).mp ?_
          refine stepg_called { m with g := g28, gm := g26, wl := wl, gl := gl, wd := wd, gd := gd } r d _ hw rfl ⟨hm.lO, hm.gO, hm.nS, hm.lS, hm.gS⟩ hvd0 hft (by omega) (by omega) (fun e H he => ?_) (fun r' m' hr' hn => ?_)
          · have hc := stepG_code he
            rw [he] at hrun
            dsimp only at hrun
            rw [← hrun]
            repeat' ((conv => whnf); first | refine walk (Tryz.ok ..) ?_ | (refine Cnd.mk (fun h => ?_) (fun h => ?_) <;> (first | exact cndT h (by (try dsimp only); omega) | exact cndF h (by (try dsimp only); omega) | (exfalso; simp at h; omega) | simp at h | skip)) | fail)
            all_goals first | exact done_fuse (v := .slice none 0 0) rfl rfl [] (fun w _ => by unfold AnsG; rw [hG, ← hrun]; exact nestc_nil) rfl | omega
          · rw [hr'] at hrun
            dsimp only at hrun
            have hlen := stepG_len hr'
            repeat' ((conv => whnf); first | refine walk (Tryz.ok ..) ?_ | (refine Cnd.mk (fun h => ?_) (fun h => ?_) <;> (first | exact cndT h (by (try dsimp only); omega) | exact cndF h (by (try dsimp only); omega) | (exfalso; simp at h; omega) | simp at h | skip)) | fail)
            obtain ⟨hok, hg, hgm, hwl, hgl⟩ := hn
            obtain ⟨g', gm', AS', nS', cS', xsS', AO', cO', xsO', w0', gs', wd', gd', wl', gl'⟩ := m'
            dsimp only at hg hgm hwl hgl
            subst hg hgm hwl hgl
            cases hopn : r'.opn with
            | true =>
              rw [nextH_open hopn]
              refine sat_fuse 905 [905, 906] rfl fun w3 hw3 => ?_
              have hmg := hok w3 (by rw [nextH_open hopn]; exact Sat.Holds.cx_ (cx := Tryz.cxg 79 [5, 11, 17] [] [] w.heap.size [] w) (cx' := Tryz.cxg 79 [] [] [] w.heap.size [] w) rfl rfl rfl hw3)
              rw [nextH_open hopn, fusedL_open hopn] at hmg
              refine sat_fuse 906 [] rfl fun w4 hw4 => ?_
              refine sat_ops (Tryz.ok ..) ?_
              repeat' ((conv => whnf); first | refine sideL2 ?_ | fail)
              refine ⟨(k + 1, r', ⟨g', gm', AS', nS', cS', xsS', AO', cO', xsO', w3, _, w4, [], wl', gl'⟩), ⟨⟨hk1, ⟨hmg.lO, hmg.gO, hmg.nS, hmg.lS, hmg.gS⟩, by have := hlen.1; show r'.segs.length ≤ k + 1; omega, by have := hlen.2; show r'.out.length ≤ k + 1; omega, hrun⟩, by show l.length - (k + 1) < l.length - k; omega⟩, ?_, ?_, rfl⟩
              · ((repeat' (first | exact trivial | exact rfl | refine And.intro ?_ ?_)) <;> (try (conv => whnf)) <;> (try simp only [SV.real, SV.r2, SV.r1]))
              · dsimp only
                rw [stG_open hopn]
                ((repeat' (first | exact trivial | exact rfl | refine And.intro ?_ ?_)) <;> (try (conv => whnf)) <;> (try simp only [SV.real, SV.r2, SV.r1]))
            | false =>
              rw [nextH_closed hopn]
              refine sat_fuse 905 [905, 906, 901] rfl fun w3 hw3 => ?_
              have hmg := hok w3 (by rw [nextH_closed hopn]; exact Sat.Holds.cx_ (cx := Tryz.cxg 79 [5, 11, 17] [] [] w.heap.size [] w) (cx' := Tryz.cxg 79 [] [] [] w.heap.size [] w) rfl rfl rfl hw3)
              rw [nextH_closed hopn, fusedL_closed hopn] at hmg
              refine sat_fuse 906 [] rfl fun w4 hw4 => ?_
              refine sat_ops (Tryz.ok ..) ?_
              repeat' ((conv => whnf); first | refine sideL2 ?_ | fail)
              refine ⟨(k + 1, r', ⟨g', gm', AS', nS', cS', xsS', AO', cO', xsO', w3, _, w4, [], wl', gl'⟩), ⟨⟨hk1, ⟨hmg.lO, hmg.gO, hmg.nS, hmg.lS, hmg.gS⟩, by have := hlen.1; show r'.segs.length ≤ k + 1; omega, by have := hlen.2; show r'.out.length ≤ k + 1; omega, hrun⟩, by show l.length - (k + 1) < l.length - k; omega⟩, ?_, ?_, rfl⟩
              · ((repeat' (first | exact trivial | exact rfl | refine And.intro ?_ ?_)) <;> (try (conv => whnf)) <;> (try simp only [SV.real, SV.r2, SV.r1]))
              · dsimp only
                rw [stG_closed hopn]
                ((repeat' (first | exact trivial | exact rfl | refine And.intro ?_ ?_)) <;> (try (conv => whnf)) <;> (try simp only [SV.real, SV.r2, SV.r1]))
      | true =>
        obtain ⟨e0, he0, he0'⟩ := firstB_at hf
        have hlen : 0 < d.length := (List.getElem?_eq_some_iff.1 he0).1
        obtain ⟨x1, hx1, hn1⟩ := nest_at hxd hrd.1 he0
        rw [he0'] at hn1
        obtain ⟨p1, c1, rfl, hc1, hro1, hB1⟩ := ne_row1 hn1
        obtain ⟨pd, rfl, _⟩ := hrd.some_ hlen
        repeat' ((conv => whnf); first | refine walk (Tryz.ok ..) ?_ | (refine Cnd.mk (fun h => ?_) (fun h => ?_) <;> (first | exact cndT h (by (try dsimp only); omega) | exact cndF h (by (try dsimp only); omega) | (exfalso; simp at h; omega) | simp at h | skip)) | refine side2 ?_ | refine xi _ (fun _ => (frz_at (d := 906) hrd hBd hx1 rfl rfl)) ?_ | fail)
        · refine sat_draw (Tryz.ok ..) [6] [(906, .own gd (Frz wd gd))] (by kernel_rfl) (fun w hw => hw.sub ?_) ?_
          · exact hsub_of rfl
          repeat' ((conv => whnf); first | refine side2 ?_ | refine xi _ (frz_at (d := 906) hrd hBd hx1 rfl rfl) ?_ | refine xi _ (frz_at (d := 906) hro1 hB1 (str1 _) rfl rfl) ?_ | fail)
          (conv => whnf)
          refine Called.cx_ (cx := Tryz.cxg 79 [] [] [] w.heap.size [] w) (cx' := Tryz.cxg 79 [5, 11, 17] [] [] w.heap.size [] w) rfl rfl rfl rfl ?_
          refine kinds_called (SR := []) (SC := []) fun g1 hg1 => ?_
          repeat' ((conv => whnf); first | refine kp ?_ ?_ | exact trivial | refine side2 ?_ | fail)
          (conv => whnf)
          by_cases hh : at2 d 0 = hedS
          · refine other_lookup 1 (.t [.v (.func (.func 59) #[] #[]), .v (.bool true)]) Tryz.underlying74 Tryz.underlying9 (fun _ => rfl) rfl rfl rfl (by rw [hh]; rfl) ?_
            repeat' ((conv => whnf); first | refine walk (Tryz.ok ..) ?_ | (refine Cnd.mk (fun h => ?_) (fun h => ?_) <;> (first | exact cndT h (by (try dsimp only); omega) | exact cndF h (by (try dsimp only); omega) | (exfalso; simp at h; omega) | simp at h | skip)) | refine kp ?_ ?_ | exact trivial | refine side2 ?_ | fail)
            (conv => whnf)
            have hF : fnOf d = 59 := by unfold fnOf; rw [if_pos ⟨hf, hh⟩]
            refine called_lay [.p 900 g28 0 0, .v (.slice (adr (some pd)) d.length cd)] (stG { m with g := g28, gm := g26, wl := wl, gl := gl, wd := wd, gd := gd } r) rfl (fun w hw => ?_) ?_
            · cases ho : r.opn with
              | true => rw [stG_open ho] at hw ⊢; exact hw.sub (hsub_of (by kernel_rfl))
              | false => rw [stG_closed ho] at hw ⊢; exact hw.sub (hsub_of (by kernel_rfl))
            refine Called.cx_ (cx := Tryz.cxg 79 [] [] [] w.heap.size [] w) (cx' := Tryz.cxg 79 [5, 11, 17] [] [] w.heap.size [] w) rfl rfl rfl rfl ?_
            refine (congrArg (fun F => Called _ F _ _ _) hF).mp ?_
            refine stepg_called { m with g := g28, gm := g26, wl := wl, gl := gl, wd := wd, gd := gd } r d _ hw rfl ⟨hm.lO, hm.gO, hm.nS, hm.lS, hm.gS⟩ hvd0 hft (by omega) (by omega) (fun e H he => ?_) (fun r' m' hr' hn => ?_)
            · have hc := stepG_code he
              rw [he] at hrun
              dsimp only at hrun
              rw [← hrun]
              repeat' ((conv => whnf); first | refine walk (Tryz.ok ..) ?_ | (refine Cnd.mk (fun h => ?_) (fun h => ?_) <;> (first | exact cndT h (by (try dsimp only); omega) | exact cndF h (by (try dsimp only); omega) | (exfalso; simp at h; omega) | simp at h | skip)) | fail)
              all_goals first | exact done_fuse (v := .slice none 0 0) rfl rfl [] (fun w _ => by unfold AnsG; rw [hG, ← hrun]; exact nestc_nil) rfl | omega
            · rw [hr'] at hrun
              dsimp only at hrun
              have hlen := stepG_len hr'
              repeat' ((conv => whnf); first | refine walk (Tryz.ok ..) ?_ | (refine Cnd.mk (fun h => ?_) (fun h => ?_) <;> (first | exact cndT h (by (try dsimp only); omega) | exact cndF h (by (try dsimp only); omega) | (exfalso; simp at h; omega) | simp at h | skip)) | fail)
              obtain ⟨hok, hg, hgm, hwl, hgl⟩ := hn
              obtain ⟨g', gm', AS', nS', cS', xsS', AO', cO', xsO', w0', gs', wd', gd', wl', gl'⟩ := m'
              dsimp only at hg hgm hwl hgl
              subst hg hgm hwl hgl
              cases hopn : r'.opn with
              | true =>
                rw [nextH_open hopn]
                refine sat_fuse 905 [905, 906] rfl fun w3 hw3 => ?_
                have hmg := hok w3 (by rw [nextH_open hopn]; exact Sat.Holds.cx_ (cx := Tryz.cxg 79 [5, 11, 17] [] [] w.heap.size [] w) (cx' := Tryz.cxg 79 [] [] [] w.heap.size [] w) rfl rfl rfl hw3)
                rw [nextH_open hopn, fusedL_open hopn] at hmg
                refine sat_fuse 906 [] rfl fun w4 hw4 => ?_
                refine sat_ops (Tryz.ok ..) ?_
                repeat' ((conv => whnf); first | refine sideL2 ?_ | fail)
                refine ⟨(k + 1, r', ⟨g', gm', AS', nS', cS', xsS', AO', cO', xsO', w3, _, w4, [], wl', gl'⟩), ⟨⟨hk1, ⟨hmg.lO, hmg.gO, hmg.nS, hmg.lS, hmg.gS⟩, by have := hlen.1; show r'.segs.length ≤ k + 1; omega, by have := hlen.2; show r'.out.length ≤ k + 1; omega, hrun⟩, by show l.length - (k + 1) < l.length - k; omega⟩, ?_, ?_, rfl⟩
                · ((repeat' (first | exact trivial | exact rfl | refine And.intro ?_ ?_)) <;> (try (conv => whnf)) <;> (try simp only [SV.real, SV.r2, SV.r1]))
                · dsimp only
                  rw [stG_open hopn]
                  ((repeat' (first | exact trivial | exact rfl | refine And.intro ?_ ?_)) <;> (try (conv => whnf)) <;> (try simp only [SV.real, SV.r2, SV.r1]))
              | false =>
                rw [nextH_closed hopn]
                refine sat_fuse 905 [905, 906, 901] rfl fun w3 hw3 => ?_
                have hmg := hok w3 (by rw [nextH_closed hopn]; exact Sat.Holds.cx_ (cx := Tryz.cxg 79 [5, 11, 17] [] [] w.heap.size [] w) (cx' := Tryz.cxg 79 [] [] [] w.heap.size [] w) rfl rfl rfl hw3)
                rw [nextH_closed hopn, fusedL_closed hopn] at hmg
                refine sat_fuse 906 [] rfl fun w4 hw4 => ?_
                refine sat_ops (Tryz.ok ..) ?_
                repeat' ((conv => whnf); first | refine sideL2 ?_ | fail)
                refine ⟨(k + 1, r', ⟨g', gm', AS', nS', cS', xsS', AO', cO', xsO', w3, _, w4, [], wl', gl'⟩), ⟨⟨hk1, ⟨hmg.lO, hmg.gO, hmg.nS, hmg.lS, hmg.gS⟩, by have := hlen.1; show r'.segs.length ≤ k + 1; omega, by have := hlen.2; show r'.out.length ≤ k + 1; omega, hrun⟩, by show l.length - (k + 1) < l.length - k; omega⟩, ?_, ?_, rfl⟩
                · ((repeat' (first | exact trivial | exact rfl | refine And.intro ?_ ?_)) <;> (try (conv => whnf)) <;> (try simp only [SV.real, SV.r2, SV.r1]))
                · dsimp only
                  rw [stG_closed hopn]
                  ((repeat' (first | exact trivial | exact rfl | refine And.intro ?_ ?_)) <;> (try (conv => whnf)) <;> (try simp only [SV.real, SV.r2, SV.r1]))
          by_cases hh2 : at2 d 0 = endS
          · refine other_lookup 1 (.t [.v (.func (.func 60) #[] #[]), .v (.bool true)]) Tryz.underlying74 Tryz.underlying9 (fun _ => rfl) rfl rfl rfl (by rw [hh2]; rfl) ?_
            repeat' ((conv => whnf); first | refine walk (Tryz.ok ..) ?_ | (refine Cnd.mk (fun h => ?_) (fun h => ?_) <;> (first | exact cndT h (by (try dsimp only); omega) | exact cndF h (by (try dsimp only); omega) | (exfalso; simp at h; omega) | simp at h | skip)) | refine kp ?_ ?_ | exact trivial | refine side2 ?_ | fail)
            (conv => whnf)
            have hF : fnOf d = 60 := by unfold fnOf; rw [if_neg (fun h => hh h.2), if_pos ⟨hf, hh2⟩]
            refine called_lay [.p 900 g28 0 0, .v (.slice (adr (some pd)) d.length cd)] (stG { m with g := g28, gm := g26, wl := wl, gl := gl, wd := wd, gd := gd } r) rfl (fun w hw => ?_) ?_
            · cases ho : r.opn with
              | true => rw [stG_open ho] at hw ⊢; exact hw.sub (hsub_of (by kernel_rfl))
              | false => rw [stG_closed ho] at hw ⊢; exact hw.sub (hsub_of (by kernel_rfl))
            refine Called.cx_ (cx := Tryz.cxg 79 [] [] [] w.heap.size [] w) (cx' := Tryz.cxg 79 [5, 11, 17] [] [] w.heap.size [] w) rfl rfl rfl rfl ?_
            refine (congrArg (fun F => Called _ F _ _ _) hF).mp ?_
            refine stepg_called { m with g := g28, gm := g26, wl := wl, gl := gl, wd := wd, gd := gd } r d _ hw rfl ⟨hm.lO, hm.gO, hm.nS, hm.lS, hm.gS⟩ hvd0 hft (by omega) (by omega) (fun e H he => ?_) (fun r' m' hr' hn => ?_)
            · have hc := stepG_code he
              rw [he] at hrun
              dsimp only at hrun
              rw [← hrun]
              repeat' ((conv => whnf); first | refine walk (Tryz.ok ..) ?_ | (refine Cnd.mk (fun h => ?_) (fun h => ?_) <;> (first | exact cndT h (by (try dsimp only); omega) | exact cndF h (by (try dsimp only); omega) | (exfalso; simp at h; omega) | simp at h | skip)) | fail)
              all_goals first | exact done_fuse (v := .slice none 0 0) rfl rfl [] (fun w _ => by unfold AnsG; rw [hG, ← hrun]; exact nestc_nil) rfl | omega
            · rw [hr'] at hrun
              dsimp only at hrun
              have hlen := stepG_len hr'
              repeat' ((conv => whnf); first | refine walk (Tryz.ok ..) ?_ | (refine Cnd.mk (fun h => ?_) (fun h => ?_) <;> (first | exact cndT h (by (try dsimp only); omega) | exact cndF h (by (try dsimp only); omega) | (exfalso; simp at h; omega) | simp at h | skip)) | fail)
              obtain ⟨hok, hg, hgm, hwl, hgl⟩ := hn
              obtain ⟨g', gm', AS', nS', cS', xsS', AO', cO', xsO', w0', gs', wd', gd', wl', gl'⟩ := m'
              dsimp only at hg hgm hwl hgl
              subst hg hgm hwl hgl
              cases hopn : r'.opn with
              | true =>
                rw [nextH_open hopn]
                refine sat_fuse 905 [905, 906] rfl fun w3 hw3 => ?_
                have hmg := hok w3 (by rw [nextH_open hopn]; exact Sat.Holds.cx_ (cx := Tryz.cxg 79 [5, 11, 17] [] [] w.heap.size [] w) (cx' := Tryz.cxg 79 [] [] [] w.heap.size [] w) rfl rfl rfl hw3)
                rw [nextH_open hopn, fusedL_open hopn] at hmg
                refine sat_fuse 906 [] rfl fun w4 hw4 => ?_
                refine sat_ops (Tryz.ok ..) ?_
                repeat' ((conv => whnf); first | refine sideL2 ?_ | fail)
                refine ⟨(k + 1, r', ⟨g', gm', AS', nS', cS', xsS', AO', cO', xsO', w3, _, w4, [], wl', gl'⟩), ⟨⟨hk1, ⟨hmg.lO, hmg.gO, hmg.nS, hmg.lS, hmg.gS⟩, by have := hlen.1; show r'.segs.length ≤ k + 1; omega, by have := hlen.2; show r'.out.length ≤ k + 1; omega, hrun⟩, by show l.length - (k + 1) < l.length - k; omega⟩, ?_, ?_, rfl⟩
                · ((repeat' (first | exact trivial | exact rfl | refine And.intro ?_ ?_)) <;> (try (conv => whnf)) <;> (try simp only [SV.real, SV.r2, SV.r1]))
                · dsimp only
                  rw [stG_open hopn]
                  ((repeat' (first | exact trivial | exact rfl | refine And.intro ?_ ?_)) <;> (try (conv => whnf)) <;> (try simp only [SV.real, SV.r2, SV.r1]))
              | false =>
                rw [nextH_closed hopn]
                refine sat_fuse 905 [905, 906, 901] rfl fun w3 hw3 => ?_
                have hmg := hok w3 (by rw [nextH_closed hopn]; exact Sat.Holds.cx_ (cx := Tryz.cxg 79 [5, 11, 17] [] [] w.heap.size [] w) (cx' := Tryz.cxg 79 [] [] [] w.heap.size [] w) rfl rfl rfl hw3)
                rw [nextH_closed hopn, fusedL_closed hopn] at hmg
                refine sat_fuse 906 [] rfl fun w4 hw4 => ?_
                refine sat_ops (Tryz.ok ..) ?_
                repeat' ((conv => whnf); first | refine sideL2 ?_ | fail)
                refine ⟨(k + 1, r', ⟨g', gm', AS', nS', cS', xsS', AO', cO', xsO', w3, _, w4, [], wl', gl'⟩), ⟨⟨hk1, ⟨hmg.lO, hmg.gO, hmg.nS, hmg.lS, hmg.gS⟩, by have := hlen.1; show r'.segs.length ≤ k + 1; omega, by have := hlen.2; show r'.out.length ≤ k + 1; omega, hrun⟩, by show l.length - (k + 1) < l.length - k; omega⟩, ?_, ?_, rfl⟩
                · ((repeat' (first | exact trivial | exact rfl | refine And.intro ?_ ?_)) <;> (try (conv => whnf)) <;> (try simp only [SV.real, SV.r2, SV.r1]))
                · dsimp only
                  rw [stG_closed hopn]
                  ((repeat' (first | exact trivial | exact rfl | refine And.intro ?_ ?_)) <;> (try (conv => whnf)) <;> (try simp only [SV.real, SV.r2, SV.r1]))
          have hkv : kindsV (at2 d 0) = none := by unfold kindsV; rw [if_neg hh2, if_neg hh]
          refine other_lookup 1 (.t [.v .nilFunc, .v (.bool false)]) Tryz.underlying74 Tryz.underlying9 (fun _ => rfl) rfl rfl rfl (by rw [hkv]; rfl) ?_
          repeat' ((conv => whnf); first | refine walk (Tryz.ok ..) ?_ | (refine Cnd.mk (fun h => ?_) (fun h => ?_) <;> (first | exact cndT h (by (try dsimp only); omega) | exact cndF h (by (try dsimp only); omega) | (exfalso; simp at h; omega) | simp at h | skip)) | refine kp ?_ ?_ | exact trivial | refine side2 ?_ | fail)
          (conv => whnf)
          have hF : fnOf d = 29 := by unfold fnOf; rw [if_neg (fun h => hh h.2), if_neg (fun h => hh2 h.2)]
          refine called_lay [.p 900 g28 0 0, .v (.slice (adr (some pd)) d.length cd)] (stG { m with g := g28, gm := g26, wl := wl, gl := gl, wd := wd, gd := gd } r) rfl (fun w hw => ?_) ?_
          · cases ho : r.opn with
            | true => rw [stG_open ho] at hw ⊢; exact hw.sub (hsub_of (by kernel_rfl))
            | false => rw [stG_closed ho] at hw ⊢; exact hw.sub (hsub_of (by kernel_rfl))
          refine Called.cx_ (cx := Tryz.cxg 79 [] [] [] w.heap.size [] w) (cx' := Tryz.cxg 79 [5, 11, 17] [] [] w.heap.size [] w) rfl rfl rfl rfl ?_
          refine (congrArg (fun F => Called _ F _ _ _) hF).mp ?_
          refine stepg_called { m with g := g28, gm := g26, wl := wl, gl := gl, wd := wd, gd := gd } r d _ hw rfl ⟨hm.lO, hm.gO, hm.nS, hm.lS, hm.gS⟩ hvd0 hft (by omega) (by omega) (fun e H he => ?_) (fun r' m' hr' hn => ?_)
          · have hc := stepG_code he
            rw [he] at hrun
            dsimp only at hrun
            rw [← hrun]
            repeat' ((conv => whnf); first | refine walk (Tryz.ok ..) ?_ | (refine Cnd.mk (fun h => ?_) (fun h => ?_) <;> (first | exact cndT h (by (try dsimp only); omega) | exact cndF h (by (try dsimp only); omega) | (exfalso; simp at h; omega) | simp at h | skip)) | fail)
            all_goals first | exact done_fuse (v := .slice none 0 0) rfl rfl [] (fun w _ => by unfold AnsG; rw [hG, ← hrun]; exact nestc_nil) rfl | omega
          · rw [hr'] at hrun
            dsimp only at hrun
            have hlen := stepG_len hr'
            repeat' ((conv => whnf); first | refine walk (Tryz.ok ..) ?_ | (refine Cnd.mk (fun h => ?_) (fun h => ?_) <;> (first | exact cndT h (by (try dsimp only); omega) | exact cndF h (by (try dsimp only); omega) | (exfalso; simp at h; omega) | simp at h | skip)) | fail)
            obtain ⟨hok, hg, hgm, hwl, hgl⟩ := hn
            obtain ⟨g', gm', AS', nS', cS', xsS', AO', cO', xsO', w0', gs', wd', gd', wl', gl'⟩ := m'
            dsimp only at hg hgm hwl hgl
            subst hg hgm hwl hgl
            cases hopn : r'.opn with
            | true =>
              rw [nextH_open hopn]
              refine sat_fuse 905 [905, 906] rfl fun w3 hw3 => ?_
              have hmg := hok w3 (by rw [nextH_open hopn]; exact Sat.Holds.cx_ (cx := Tryz.cxg 79 [5, 11, 17] [] [] w.heap.size [] w) (cx' := Tryz.cxg 79 [] [] [] w.heap.size [] w) rfl rfl rfl hw3)
              rw [nextH_open hopn, fusedL_open hopn] at hmg
              refine sat_fuse 906 [] rfl fun w4 hw4 => ?_
              refine sat_ops (Tryz.ok ..) ?_
              repeat' ((conv => whnf); first | refine sideL2 ?_ | fail)
              refine ⟨(k + 1, r', ⟨g', gm', AS', nS', cS', xsS', AO', cO', xsO', w3, _, w4, [], wl', gl'⟩), ⟨⟨hk1, ⟨hmg.lO, hmg.gO, hmg.nS, hmg.lS, hmg.gS⟩, by have := hlen.1; show r'.segs.length ≤ k + 1; omega, by have := hlen.2; show r'.out.length ≤ k + 1; omega, hrun⟩, by show l.length - (k + 1) < l.length - k; omega⟩, ?_, ?_, rfl⟩
              · ((repeat' (first | exact trivial | exact rfl | refine And.intro ?_ ?_)) <;> (try (conv => whnf)) <;> (try simp only [SV.real, SV.r2, SV.r1]))
              · dsimp only
                rw [stG_open hopn]
                ((repeat' (first | exact trivial | exact rfl | refine And.intro ?_ ?_)) <;> (try (conv => whnf)) <;> (try simp only [SV.real, SV.r2, SV.r1]))
            | false =>
              rw [nextH_closed hopn]
              refine sat_fuse 905 [905, 906, 901] rfl fun w3 hw3 => ?_
              have hmg := hok w3 (by rw [nextH_closed hopn]; exact Sat.Holds.cx_ (cx := Tryz.cxg 79 [5, 11, 17] [] [] w.heap.size [] w) (cx' := Tryz.cxg 79 [] [] [] w.heap.size [] w) rfl rfl rfl hw3)
              rw [nextH_closed hopn, fusedL_closed hopn] at hmg
              refine sat_fuse 906 [] rfl fun w4 hw4 => ?_
              refine sat_ops (Tryz.ok ..) ?_
              repeat' ((conv => whnf); first | refine sideL2 ?_ | fail)
              refine ⟨(k + 1, r', ⟨g', gm', AS', nS', cS', xsS', AO', cO', xsO', w3, _, w4, [], wl', gl'⟩), ⟨⟨hk1, ⟨hmg.lO, hmg.gO, hmg.nS, hmg.lS, hmg.gS⟩, by have := hlen.1; show r'.segs.length ≤ k + 1; omega, by have := hlen.2; show r'.out.length ≤ k + 1; omega, hrun⟩, by show l.length - (k + 1) < l.length - k; omega⟩, ?_, ?_, rfl⟩
              · ((repeat' (first | exact trivial | exact rfl | refine And.intro ?_ ?_)) <;> (try (conv => whnf)) <;> (try simp only [SV.real, SV.r2, SV.r1]))
              · dsimp only
                rw [stG_closed hopn]
                ((repeat' (first | exact trivial | exact rfl | refine And.intro ?_ ?_)) <;> (try (conv => whnf)) <;> (try simp only [SV.real, SV.r2, SV.r1]))
        · exact absurd ‹d = []› (List.ne_nil_of_length_pos hlen)
    obtain rfl : k = l.length := by omega
    rw [List.drop_length] at hrun
    have hrun : (if r.opn = true then ([], (l.length : Int), (52 : Int)) else (r.out, 0, 0)) = runG l 0 rst0 := hrun
    cases ho : r.opn with
    | true =>
      rw [if_pos ho] at hrun
      rw [← hrun, stG_open ho]
      unfold opH rgC
      dsimp only
      rw [ho]
      repeat' ((conv => whnf); first | refine walk (Tryz.ok ..) ?_ | (refine Cnd.mk (fun h => ?_) (fun h => ?_) <;> (first | exact cndT h (by (try dsimp only); omega) | exact cndF h (by (try dsimp only); omega) | (exfalso; simp at h; omega) | simp at h | skip)) | refine side2 ?_ | refine xi _ (And.intro rfl rfl) ?_ | fail)
      all_goals first | exact done_fuse (v := .slice none 0 0) rfl rfl [] (fun w _ => by unfold AnsG; rw [hG, ← hrun]; exact nestc_nil) rfl | omega
    | false =>
      rw [if_neg (by rw [ho]; simp)] at hrun
      rw [← hrun, stG_closed ho]
      unfold clH rgC
      dsimp only
      rw [ho]
      repeat' ((conv => whnf); first | refine walk (Tryz.ok ..) ?_ | (refine Cnd.mk (fun h => ?_) (fun h => ?_) <;> (first | exact cndT h (by (try dsimp only); omega) | exact cndF h (by (try dsimp only); omega) | (exfalso; simp at h; omega) | simp at h | skip)) | refine side2 ?_ | refine xi _ (And.intro rfl rfl) ?_ | fail)
      refine done_fuse (v := .slice (adr m.AO) r.out.length m.cO) rfl rfl [905, 902] (fun w' hw' => ?_) rfl
      unfold AnsG
      rw [hG, ← hrun]
      exact ⟨adr m.AO, m.AO, m.cO, m.xsO, rfl, AtN.refl _ _, row_caps hw' (id := 902) rfl, ro_of_row hw' (id := 902) rfl, fun p hp _ => ⟨gs_sub (i := 902) rfl rfl (by rw [hp]; simp [HB.gs]), by
        have h0 := hw'.at_ (i := 902) rfl
        rw [hp] at h0
        exact own_cellsz (show w'.ownsRow _ _ _ _ _ _ from h0)⟩, fun i a ha => fuseC msgc_stays [905, 902] 905 (hm.gO i a ha) hw' rfl rfl⟩
  · have hG : readG t = ([], pa, pe) := by unfold readG; rw [if_neg (by rw [← hpe]; exact he), hpa, hpe]
    rw [hG]
    repeat' ((conv => whnf); first | refine walk (Tryz.ok ..) ?_ | (refine Cnd.mk (fun h => ?_) (fun h => ?_) <;> (first | exact cndT h (by (try dsimp only); omega) | exact cndF h (by (try dsimp only); omega) | (exfalso; simp at h; omega) | simp at h | skip)) | fail)
    all_goals first | exact done_fuse (v := .slice none 0 0) rfl rfl [] (fun w _ => by unfold AnsG; rw [hG]; exact nestc_nil) rfl | omega
theorem Gives.imp {mk : Value → Value} {Q Q' : World → (Nat → Prop) → Value → Prop} (h : ∀ w B v, Q w B v → Q' w B v) {w : World} {e : Ending} {w' : World} (hg : Gives mk Q w e w') : Gives mk Q' w e w' := by
  obtain ⟨v, gs, he, h1, hq, hb⟩ := hg
  exact ⟨v, gs, he, h1, h _ _ _ hq, hb⟩
theorem readG_any (s : ByteArray) (w : World) (hw : WfT w) :
    Calls Tryz.prog 9 #[.string s] w (Gives (fun v => .tuple #[v, .int .i64 (readG s.data.toList).2.1, .int .i64 (readG s.data.toList).2.2]) (fun w B v => NMsgs NS w B v (readG s.data.toList).1) w) :=
  (readC_any s w hw).mono fun _ _ h => Gives.imp (fun _ _ _ => msgsc_z) h
end
end Go.Proofs.YtdohcglpcgahaaaGreatDoor
