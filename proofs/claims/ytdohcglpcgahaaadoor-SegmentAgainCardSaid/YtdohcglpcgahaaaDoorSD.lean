/-
  The walk of Read of package segment.
-/
import Derived.Test.YtdohcglpcgahaaaDoorSMX
import Derived.Test.YtdohcglpcgahaaaDoorRC
set_option linter.unusedSimpArgs false
set_option linter.unusedVariables false
namespace Go.Proofs.YtdohcglpcgahaaaDoor
open Go Sat Go.RowKit Go.PlainAid
theorem nestz_nil {α : Type} {z : Nat} {R : LiesC α} {w : World} {B : Nat → Prop} : NestZ z R w B (.slice none 0 0) [] := ⟨none, none, 0, [], rfl, ⟨fun h => by cases h⟩, ⟨Nat.le_refl _, Nat.zero_le _⟩, Ro.nil_ w none z, fun p hp => (by cases hp), fun i a h => (by cases h)⟩
theorem trimE_few {e : Elem} (h : e.length ≤ 1000 ∧ ∀ s ∈ e, s.size ≤ 70000) : (trimE e).length ≤ 1000 ∧ ∀ s ∈ trimE e, s.size ≤ 70000 := by
  unfold trimE
  split
  · exact ⟨by simp, fun s hs => by rw [List.mem_singleton] at hs; subst hs; show emp.size ≤ 70000; decide⟩
  · exact ⟨by rw [List.length_take]; omega, fun s hs => h.2 s (List.mem_of_mem_take hs)⟩
theorem trimS_few {d : Dat} (h : FewD d) : FewD (trimS d) := by
  refine ⟨Nat.le_trans (trimS_len d) h.len, fun e he => ?_⟩
  unfold trimS at he
  obtain ⟨e0, h0, rfl⟩ := List.mem_map.1 (List.mem_of_mem_take he)
  exact trimE_few (h.el e0 h0)
theorem fewD_right {s : Segm} (h : rightS s = true) : FewD s := by
  obtain ⟨h1, h2⟩ := rightS_at h
  exact ⟨by omega, fun e he => ⟨by have := (h2 e he).1; omega, fun c hc => by have := ((h2 e he).2 c hc).1; omega⟩⟩
theorem FewD.s {d : Dat} (h : FewD d) : FewS d := ⟨by have := h.len; omega, fun e he => by have := (h.el e he).1; omega⟩
def AnsG (l : List UInt8) (w : World) (B : Nat → Prop) (v : Value) : Prop := NMsgs NS w B v (readG l).1
set_option maxRecDepth 100000 in
set_option maxHeartbeats 16000000 in
theorem readG_any (s : ByteArray) (w : World) (hw : WfT w) :
    Calls Tryd.prog 19 #[.string s] w (Gives (fun v => .tuple #[v, .int .i64 (readG s.data.toList).2.1, .int .i64 (readG s.data.toList).2.2]) (AnsG s.data.toList) w) := by
  refine calls_sat (cx := Tryd.cx 79 [5, 11, 17] [] [] w) (Tryd.ok ..) Tryd.func19 rfl [.v (.string s)] rfl (by show 1 ≤ 79; omega) [] (holds_nil (Nat.le_refl _)) ?_
  obtain ⟨t, ht⟩ : ∃ t, t = s.data.toList := ⟨_, rfl⟩
  obtain ⟨l, hl⟩ : ∃ l, l = (readE t).1 := ⟨_, rfl⟩
  obtain ⟨pa, hpa⟩ : ∃ l, l = (readE t).2.1 := ⟨_, rfl⟩
  obtain ⟨pe, hpe⟩ : ∃ l, l = (readE t).2.2 := ⟨_, rfl⟩
  rw [← ht]
  repeat' ((conv => whnf); first | refine walk (Tryd.ok ..) ?_ | (refine Cnd.mk (fun h => ?_) (fun h => ?_) <;> (first | exact cndT h (by (try dsimp only); omega) | exact cndF h (by (try dsimp only); omega) | (exfalso; simp at h; omega) | simp at h | skip)) | refine kp ?_ ?_ | refine tw ?_ ?_ | refine appnil rfl ?_ | refine rawnil rfl ?_ | exact trivial | refine side2 ?_ | refine sideL2 ?_ | refine Or.inr ?_ | refine sat_drawH (Tryd.ok ..) (by kernel_rfl) ?_ | refine xi _ (And.intro rfl rfl) ?_ | refine xi _ (fun _ => And.intro rfl rfl) ?_ | refine xi _ rfl ?_)
  (conv => whnf)
  refine called_nest 907 (mk := fun v => .tuple #[v, .int .i64 pa, .int .i64 pe]) (Q := fun w B v => NL w B v l) (fun v => .t [.v v, .v (.int .i64 pa), .v (.int .i64 pe)]) (fun _ => rfl) (fun w' _ => by rw [hl, hpa, hpe, ht]; exact read_any s w') ?_
  intro wl gl vl hvl
  obtain ⟨Al, cl, xl, rfl, hcl, hrl, hBl, hxl⟩ := hvl
  by_cases he : pe = 0
  · subst he
    have hG : readG t = runG l 0 rst0 := by unfold readG; rw [if_pos hpe.symm, hl]
    have hag : Again t l pa := by
      refine again ?_
      by_cases h5 : 65536 < t.length
      · exfalso
        unfold readE at hpe
        rw [if_pos h5] at hpe
        cases hpe
      · unfold readE at hl hpa hpe
        rw [if_neg h5] at hl hpa hpe
        rw [hl, hpa, hpe]
    have hfew := hag.few
    have hmax : l.length ≤ 9223372036854775807 := by omega
    rw [hG]
    repeat' ((conv => whnf); first | refine walk (Tryd.ok ..) ?_ | (refine Cnd.mk (fun h => ?_) (fun h => ?_) <;> (first | exact cndT h (by (try dsimp only); omega) | exact cndF h (by (try dsimp only); omega) | (exfalso; simp at h; omega) | simp at h | skip)) | refine kp ?_ ?_ | refine tw ?_ ?_ | refine appnil rfl ?_ | refine rawnil rfl ?_ | exact trivial | refine side2 ?_ | refine sideL2 ?_ | refine Or.inr ?_ | refine sat_drawH (Tryd.ok ..) (by kernel_rfl) ?_ | refine xi _ (And.intro rfl rfl) ?_ | refine xi _ (fun _ => And.intro rfl rfl) ?_ | refine xi _ rfl ?_)
    (conv => whnf)
    refine other_make fun g26 hg26 => ?_
    repeat' ((conv => whnf); first | refine walk (Tryd.ok ..) ?_ | (refine Cnd.mk (fun h => ?_) (fun h => ?_) <;> (first | exact cndT h (by (try dsimp only); omega) | exact cndF h (by (try dsimp only); omega) | (exfalso; simp at h; omega) | simp at h | skip)) | refine kp ?_ ?_ | refine tw ?_ ?_ | refine appnil rfl ?_ | refine rawnil rfl ?_ | exact trivial | refine side2 ?_ | refine sideL2 ?_ | refine Or.inr ?_ | refine sat_drawH (Tryd.ok ..) (by kernel_rfl) ?_ | refine xi _ (And.intro rfl rfl) ?_ | refine xi _ (fun _ => And.intro rfl rfl) ?_ | refine xi _ rfl ?_)
    (conv => whnf)
    intro g28 hg28
    repeat' ((conv => whnf); first | refine walk (Tryd.ok ..) ?_ | (refine Cnd.mk (fun h => ?_) (fun h => ?_) <;> (first | exact cndT h (by (try dsimp only); omega) | exact cndF h (by (try dsimp only); omega) | (exfalso; simp at h; omega) | simp at h | skip)) | refine kp ?_ ?_ | refine tw ?_ ?_ | refine appnil rfl ?_ | refine rawnil rfl ?_ | exact trivial | refine side2 ?_ | refine sideL2 ?_ | refine Or.inr ?_ | refine sat_drawH (Tryd.ok ..) (by kernel_rfl) ?_ | refine xi _ (And.intro rfl rfl) ?_ | refine xi _ (fun _ => And.intro rfl rfl) ?_ | refine xi _ rfl ?_)
    refine sat_fuse 905 [] rfl fun w0 hw0 => ?_
    refine sat_fuse 906 [] rfl fun wd0 hwd0 => ?_
    refine sat_ren [(5, .yes, .v (.slice (adr Al) l.length cl)), (8, .yes, .p 900 g28 0 0)] [(900, 28, .blk g28 75 [.v (.string emp), .v (.string emp), .v (.slice none 0 0), .v (.bool false), .v (.map (some g26)), .v (.slice none 0 0)]), (903, 26, HBm g26 (fun _ => none)), (905, 905, .own [] (Frz w0 [])), (906, 906, .own [] (Frz wd0 [])), (907, 907, .own gl (Frz wl gl))] (by kernel_rfl) rfl rfl rfl (by ((repeat' (first | exact trivial | exact rfl | refine And.intro ?_ ?_)) <;> (try (conv => whnf)) <;> (try simp only [SV.real, SV.r2, SV.r1]))) ?_
    refine sat_ops (Tryd.ok ..) ?_
    repeat' ((conv => whnf); first | refine walk (Tryd.ok ..) ?_ | (refine Cnd.mk (fun h => ?_) (fun h => ?_) <;> (first | exact cndT h (by (try dsimp only); omega) | exact cndF h (by (try dsimp only); omega) | (exfalso; simp at h; omega) | simp at h | skip)) | refine kp ?_ ?_ | refine tw ?_ ?_ | refine appnil rfl ?_ | refine rawnil rfl ?_ | exact trivial | refine side2 ?_ | refine sideL2 ?_ | refine Or.inr ?_ | refine sat_drawH (Tryd.ok ..) (by kernel_rfl) ?_ | refine xi _ (And.intro rfl rfl) ?_ | refine xi _ (fun _ => And.intro rfl rfl) ?_ | refine xi _ rfl ?_)
    refine sat_loop (Tryd.ok ..) (α := Nat × Rst × RM) (fun u => ([(5, .yes, .v (.slice (adr Al) l.length cl)), (8, .yes, .p 900 g28 0 0), (29, .yes, .v (.slice (adr Al) l.length cl)), (30, .yes, .v (.int .i64 l.length)), (31, .yes, .v (.int .i64 u.1))], stG { u.2.2 with g := g28, gm := g26, wl := wl, gl := gl } u.2.1))
      (fun u => u.1 ≤ l.length ∧ MG u.2.2 u.2.1 ∧ u.2.1.segs.length ≤ u.1 ∧ u.2.1.out.length ≤ u.1 ∧ runG (l.drop u.1) u.1 u.2.1 = runG l 0 rst0) (fun u => l.length - u.1) (fun _ => rfl) ?_ ?_
    · refine ⟨(0, rst0, ⟨g28, g26, none, 0, 0, [], none, 0, [], w0, [], wd0, [], wl, gl⟩), ⟨Nat.zero_le _, ⟨rfl, fun i a h => (by cases h), fun h => (by cases h), fun h => (by cases h), fun h => (by cases h)⟩, Nat.zero_le _, Nat.zero_le _, rfl⟩, ?_, ?_, rfl⟩
      · ((repeat' (first | exact trivial | exact rfl | refine And.intro ?_ ?_)) <;> (try (conv => whnf)) <;> (try simp only [SV.real, SV.r2, SV.r1]))
      · ((repeat' (first | exact trivial | exact rfl | refine And.intro ?_ ?_)) <;> (try (conv => whnf)) <;> (try simp only [SV.real, SV.r2, SV.r1]))
    rintro ⟨k, r, m⟩ ⟨hk, hm, hsn, hon, hrun⟩
    dsimp only at hk hm hsn hon hrun ⊢
    by_cases hk1 : k < l.length
    · obtain ⟨sg, hs⟩ : ∃ s, l[k]? = some s := ⟨_, List.getElem?_eq_getElem hk1⟩
      obtain ⟨x, hx, hne⟩ := nest_at hxl hrl.1 hs
      obtain ⟨p, rfl, _⟩ := hrl.some_ (by omega)
      obtain ⟨ax, nx, cx, hxv⟩ : ∃ a n c, x = .slice a n c := by
        obtain ⟨A, cap, xs, hv, -⟩ := hne
        exact ⟨_, _, _, hv⟩
      subst hxv
      have hfd := fewD_right (List.all_eq_true.1 hag.right sg (List.mem_of_getElem? hs))
      have hft := trimS_few hfd
      have hdrop : l.drop k = sg :: l.drop (k + 1) := drop_at hs
      rw [hdrop, runG] at hrun
      obtain ⟨cH, hcH⟩ : ∃ H, H = stG { m with g := g28, gm := g26, wl := wl, gl := gl } r := ⟨_, rfl⟩
      have h907 : hfind (stG { m with g := g28, gm := g26, wl := wl, gl := gl } r) 907 = some (.own gl (Frz wl gl)) := by
        cases ho : r.opn with
        | true => rw [stG_open ho]; rfl
        | false => rw [stG_closed ho]; rfl
      repeat' ((conv => whnf); first | refine walk (Tryd.ok ..) ?_ | (refine Cnd.mk (fun h => ?_) (fun h => ?_) <;> (first | exact cndT h (by (try dsimp only); omega) | exact cndF h (by (try dsimp only); omega) | (exfalso; simp at h; omega) | simp at h | skip)) | refine kp ?_ ?_ | refine tw ?_ ?_ | refine appnil rfl ?_ | refine rawnil rfl ?_ | exact trivial | refine side2 ?_ | refine sideL2 ?_ | refine Or.inr ?_ | refine sat_drawH (Tryd.ok ..) (by kernel_rfl) ?_ | refine xi _ (And.intro rfl rfl) ?_ | refine xi _ (fun _ => And.intro rfl rfl) ?_ | refine xi _ rfl ?_ | refine xi _ (fun _ => (frz_at (d := 907) hrl hBl hx rfl h907)) ?_ | refine xi _ (frz_at (d := 907) hrl hBl hx rfl h907) ?_)
      (conv => whnf)
      refine called_nest 906 (mk := id) (Q := fun w B v => NS w B v (trimS sg)) (fun v => .v v) (fun _ => rfl) (fun w' hh => by exact trim_any sg _ w' (ns_arg (frz_nest ns_stays hne h907 hh)) hfd.s) ?_
      intro wd gd vd hvd
      obtain ⟨d, hdd⟩ : ∃ d, d = trimS sg := ⟨_, rfl⟩
      rw [← hdd] at hvd hrun hft
      have hvd0 := hvd
      obtain ⟨Ad, cd, xd, rfl, hcd, hrd, hBd, hxd⟩ := hvd
      have hdmax := hft.len
      cases hf : firstB d with
      | false =>
        by_cases hd0 : d = []
        · have hl0 : d.length = 0 := by rw [hd0]; rfl
          repeat' ((conv => whnf); first | refine walk (Tryd.ok ..) ?_ | (refine Cnd.mk (fun h => ?_) (fun h => ?_) <;> (first | exact cndT h (by (try dsimp only); omega) | exact cndF h (by (try dsimp only); omega) | (exfalso; simp at h; omega) | simp at h | skip)) | refine kp ?_ ?_ | refine tw ?_ ?_ | refine appnil rfl ?_ | refine rawnil rfl ?_ | exact trivial | refine side2 ?_ | refine sideL2 ?_ | refine Or.inr ?_ | refine sat_drawH (Tryd.ok ..) (by kernel_rfl) ?_ | refine xi _ (And.intro rfl rfl) ?_ | refine xi _ (fun _ => And.intro rfl rfl) ?_ | refine xi _ rfl ?_)
          (conv => whnf)
          refine ⟨.slice none 0 0, fun h => absurd (of_decide_eq_true h) (by omega), ?_⟩
          repeat' ((conv => whnf); first | refine walk (Tryd.ok ..) ?_ | (refine Cnd.mk (fun h => ?_) (fun h => ?_) <;> (first | exact cndT h (by (try dsimp only); omega) | exact cndF h (by (try dsimp only); omega) | (exfalso; simp at h; omega) | simp at h | skip)) | refine kp ?_ ?_ | refine tw ?_ ?_ | refine appnil rfl ?_ | refine rawnil rfl ?_ | exact trivial | refine side2 ?_ | refine sideL2 ?_ | refine Or.inr ?_ | refine sat_drawH (Tryd.ok ..) (by kernel_rfl) ?_ | refine xi _ (And.intro rfl rfl) ?_ | refine xi _ (fun _ => And.intro rfl rfl) ?_ | refine xi _ rfl ?_)
          (conv => whnf)
          have hF : fnOf d = 41 := by unfold fnOf; rw [if_neg (by rw [hf]; simp), if_neg (by rw [hf]; simp)]
          refine called_lay [.p 900 g28 0 0, .v (.slice (adr (Ad)) d.length cd)] (stG { m with g := g28, gm := g26, wl := wl, gl := gl, wd := wd, gd := gd } r) rfl (fun w hw => ?_) ?_
          · cases ho : r.opn with
            | true => rw [stG_open ho] at hw ⊢; exact hw.sub (hsub_of (by kernel_rfl))
            | false => rw [stG_closed ho] at hw ⊢; exact hw.sub (hsub_of (by kernel_rfl))
          refine Called.cx_ (cx := Tryd.cxg 79 [] [] [] w.heap.size [] w) (cx' := Tryd.cxg 79 [5, 11, 17] [] [] w.heap.size [] w) rfl rfl rfl rfl ?_
          refine (congrArg (fun F => Called _ F _ _ _) hF).mp ?_
          refine stepg_called { m with g := g28, gm := g26, wl := wl, gl := gl, wd := wd, gd := gd } r d _ hw rfl ⟨hm.lO, hm.gO, hm.nS, hm.lS, hm.gS⟩ hvd0 hft (by omega) (by omega) (fun e H he => ?_) (fun r' m' hr' hn => ?_)
          · have hc := stepG_code he
            rw [he] at hrun
            dsimp only at hrun
            rw [← hrun]
            repeat' ((conv => whnf); first | refine walk (Tryd.ok ..) ?_ | (refine Cnd.mk (fun h => ?_) (fun h => ?_) <;> (first | exact cndT h (by (try dsimp only); omega) | exact cndF h (by (try dsimp only); omega) | (exfalso; simp at h; omega) | simp at h | skip)) | refine kp ?_ ?_ | refine tw ?_ ?_ | refine appnil rfl ?_ | refine rawnil rfl ?_ | exact trivial | refine side2 ?_ | refine sideL2 ?_ | refine Or.inr ?_ | refine sat_drawH (Tryd.ok ..) (by kernel_rfl) ?_ | refine xi _ (And.intro rfl rfl) ?_ | refine xi _ (fun _ => And.intro rfl rfl) ?_ | refine xi _ rfl ?_)
            all_goals first | exact done_fuse (v := .slice none 0 0) rfl rfl [] (fun w _ => by unfold AnsG; rw [hG, ← hrun]; exact nestz_nil) rfl | omega
          · rw [hr'] at hrun
            dsimp only at hrun
            have hlen := stepG_len hr'
            repeat' ((conv => whnf); first | refine walk (Tryd.ok ..) ?_ | (refine Cnd.mk (fun h => ?_) (fun h => ?_) <;> (first | exact cndT h (by (try dsimp only); omega) | exact cndF h (by (try dsimp only); omega) | (exfalso; simp at h; omega) | simp at h | skip)) | refine kp ?_ ?_ | refine tw ?_ ?_ | refine appnil rfl ?_ | refine rawnil rfl ?_ | exact trivial | refine side2 ?_ | refine sideL2 ?_ | refine Or.inr ?_ | refine sat_drawH (Tryd.ok ..) (by kernel_rfl) ?_ | refine xi _ (And.intro rfl rfl) ?_ | refine xi _ (fun _ => And.intro rfl rfl) ?_ | refine xi _ rfl ?_)
            obtain ⟨hok, hg, hgm, hwl, hgl⟩ := hn
            obtain ⟨g', gm', AS', nS', cS', xsS', AO', cO', xsO', w0', gs', wd', gd', wl', gl'⟩ := m'
            dsimp only at hg hgm hwl hgl
            subst hg hgm hwl hgl
            cases hopn : r'.opn with
            | true =>
              rw [nextH_open hopn]
              refine sat_fuse 905 [905, 906] rfl fun w3 hw3 => ?_
              have hmg := hok w3 (by rw [nextH_open hopn]; exact Sat.Holds.cx_ (cx := Tryd.cxg 79 [5, 11, 17] [] [] w.heap.size [] w) (cx' := Tryd.cxg 79 [] [] [] w.heap.size [] w) rfl rfl rfl hw3)
              rw [nextH_open hopn, fusedL_open hopn] at hmg
              refine sat_fuse 906 [] rfl fun w4 hw4 => ?_
              refine sat_ops (Tryd.ok ..) ?_
              repeat' ((conv => whnf); first | refine walk (Tryd.ok ..) ?_ | (refine Cnd.mk (fun h => ?_) (fun h => ?_) <;> (first | exact cndT h (by (try dsimp only); omega) | exact cndF h (by (try dsimp only); omega) | (exfalso; simp at h; omega) | simp at h | skip)) | refine kp ?_ ?_ | refine tw ?_ ?_ | refine appnil rfl ?_ | refine rawnil rfl ?_ | exact trivial | refine side2 ?_ | refine sideL2 ?_ | refine Or.inr ?_ | refine sat_drawH (Tryd.ok ..) (by kernel_rfl) ?_ | refine xi _ (And.intro rfl rfl) ?_ | refine xi _ (fun _ => And.intro rfl rfl) ?_ | refine xi _ rfl ?_)
              refine ⟨(k + 1, r', ⟨g', gm', AS', nS', cS', xsS', AO', cO', xsO', w3, _, w4, [], wl', gl'⟩), ⟨⟨hk1, ⟨hmg.lO, hmg.gO, hmg.nS, hmg.lS, hmg.gS⟩, by have := hlen.1; show r'.segs.length ≤ k + 1; omega, by have := hlen.2; show r'.out.length ≤ k + 1; omega, hrun⟩, by show l.length - (k + 1) < l.length - k; omega⟩, ?_, ?_, rfl⟩
              · ((repeat' (first | exact trivial | exact rfl | refine And.intro ?_ ?_)) <;> (try (conv => whnf)) <;> (try simp only [SV.real, SV.r2, SV.r1]))
              · dsimp only
                rw [stG_open hopn]
                ((repeat' (first | exact trivial | exact rfl | refine And.intro ?_ ?_)) <;> (try (conv => whnf)) <;> (try simp only [SV.real, SV.r2, SV.r1]))
            | false =>
              rw [nextH_closed hopn]
              refine sat_fuse 905 [905, 906, 901] rfl fun w3 hw3 => ?_
              have hmg := hok w3 (by rw [nextH_closed hopn]; exact Sat.Holds.cx_ (cx := Tryd.cxg 79 [5, 11, 17] [] [] w.heap.size [] w) (cx' := Tryd.cxg 79 [] [] [] w.heap.size [] w) rfl rfl rfl hw3)
              rw [nextH_closed hopn, fusedL_closed hopn] at hmg
              refine sat_fuse 906 [] rfl fun w4 hw4 => ?_
              refine sat_ops (Tryd.ok ..) ?_
              repeat' ((conv => whnf); first | refine walk (Tryd.ok ..) ?_ | (refine Cnd.mk (fun h => ?_) (fun h => ?_) <;> (first | exact cndT h (by (try dsimp only); omega) | exact cndF h (by (try dsimp only); omega) | (exfalso; simp at h; omega) | simp at h | skip)) | refine kp ?_ ?_ | refine tw ?_ ?_ | refine appnil rfl ?_ | refine rawnil rfl ?_ | exact trivial | refine side2 ?_ | refine sideL2 ?_ | refine Or.inr ?_ | refine sat_drawH (Tryd.ok ..) (by kernel_rfl) ?_ | refine xi _ (And.intro rfl rfl) ?_ | refine xi _ (fun _ => And.intro rfl rfl) ?_ | refine xi _ rfl ?_)
              refine ⟨(k + 1, r', ⟨g', gm', AS', nS', cS', xsS', AO', cO', xsO', w3, _, w4, [], wl', gl'⟩), ⟨⟨hk1, ⟨hmg.lO, hmg.gO, hmg.nS, hmg.lS, hmg.gS⟩, by have := hlen.1; show r'.segs.length ≤ k + 1; omega, by have := hlen.2; show r'.out.length ≤ k + 1; omega, hrun⟩, by show l.length - (k + 1) < l.length - k; omega⟩, ?_, ?_, rfl⟩
              · ((repeat' (first | exact trivial | exact rfl | refine And.intro ?_ ?_)) <;> (try (conv => whnf)) <;> (try simp only [SV.real, SV.r2, SV.r1]))
              · dsimp only
                rw [stG_closed hopn]
                ((repeat' (first | exact trivial | exact rfl | refine And.intro ?_ ?_)) <;> (try (conv => whnf)) <;> (try simp only [SV.real, SV.r2, SV.r1]))
        · have hlen : 0 < d.length := List.length_pos_iff.2 hd0
          obtain ⟨e, d', hd'⟩ : ∃ e d', d = e :: d' := List.exists_cons_of_ne_nil hd0
          obtain ⟨x1, hx1, hn1⟩ := nest_at hxd hrd.1 (i := 0) (a := e) (by rw [hd']; rfl)
          obtain ⟨A1, c1, rfl, hc1, hro1, hB1⟩ := ne_row hn1
          have he1 : e.length ≠ 1 := fun h => by
            rw [hd'] at hf
            have hf : oneB e = false := hf
            unfold oneB at hf
            rw [decide_eq_false_iff_not] at hf
            exact hf h
          obtain ⟨pd, rfl, _⟩ := hrd.some_ hlen
          repeat' ((conv => whnf); first | refine walk (Tryd.ok ..) ?_ | (refine Cnd.mk (fun h => ?_) (fun h => ?_) <;> (first | exact cndT h (by (try dsimp only); omega) | exact cndF h (by (try dsimp only); omega) | (exfalso; simp at h; omega) | simp at h | skip)) | refine kp ?_ ?_ | refine tw ?_ ?_ | refine appnil rfl ?_ | refine rawnil rfl ?_ | exact trivial | refine side2 ?_ | refine sideL2 ?_ | refine Or.inr ?_ | refine sat_drawH (Tryd.ok ..) (by kernel_rfl) ?_ | refine xi _ (And.intro rfl rfl) ?_ | refine xi _ (fun _ => And.intro rfl rfl) ?_ | refine xi _ rfl ?_ | refine xi _ (fun _ => (frz_at (d := 906) hrd hBd hx1 rfl rfl)) ?_ | refine xi _ (frz_at (d := 906) hrd hBd hx1 rfl rfl) ?_)
          (conv => whnf)
          have hF : fnOf d = 41 := by unfold fnOf; rw [if_neg (by rw [hf]; simp), if_neg (by rw [hf]; simp)]
          refine called_lay [.p 900 g28 0 0, .v (.slice (adr (some pd)) d.length cd)] (stG { m with g := g28, gm := g26, wl := wl, gl := gl, wd := wd, gd := gd } r) rfl (fun w hw => ?_) ?_
          · cases ho : r.opn with
            | true => rw [stG_open ho] at hw ⊢; exact hw.sub (hsub_of (by kernel_rfl))
            | false => rw [stG_closed ho] at hw ⊢; exact hw.sub (hsub_of (by kernel_rfl))
          refine Called.cx_ (cx := Tryd.cxg 79 [] [] [] w.heap.size [] w) (cx' := Tryd.cxg 79 [5, 11, 17] [] [] w.heap.size [] w) rfl rfl rfl rfl ?_
          refine (congrArg (fun F => Called _ F _ _ _) hF).mp ?_
          refine stepg_called { m with g := g28, gm := g26, wl := wl, gl := gl, wd := wd, gd := gd } r d _ hw rfl ⟨hm.lO, hm.gO, hm.nS, hm.lS, hm.gS⟩ hvd0 hft (by omega) (by omega) (fun e H he => ?_) (fun r' m' hr' hn => ?_)
          · have hc := stepG_code he
            rw [he] at hrun
            dsimp only at hrun
            rw [← hrun]
            repeat' ((conv => whnf); first | refine walk (Tryd.ok ..) ?_ | (refine Cnd.mk (fun h => ?_) (fun h => ?_) <;> (first | exact cndT h (by (try dsimp only); omega) | exact cndF h (by (try dsimp only); omega) | (exfalso; simp at h; omega) | simp at h | skip)) | refine kp ?_ ?_ | refine tw ?_ ?_ | refine appnil rfl ?_ | refine rawnil rfl ?_ | exact trivial | refine side2 ?_ | refine sideL2 ?_ | refine Or.inr ?_ | refine sat_drawH (Tryd.ok ..) (by kernel_rfl) ?_ | refine xi _ (And.intro rfl rfl) ?_ | refine xi _ (fun _ => And.intro rfl rfl) ?_ | refine xi _ rfl ?_)
            all_goals first | exact done_fuse (v := .slice none 0 0) rfl rfl [] (fun w _ => by unfold AnsG; rw [hG, ← hrun]; exact nestz_nil) rfl | omega
          · rw [hr'] at hrun
            dsimp only at hrun
            have hlen := stepG_len hr'
            repeat' ((conv => whnf); first | refine walk (Tryd.ok ..) ?_ | (refine Cnd.mk (fun h => ?_) (fun h => ?_) <;> (first | exact cndT h (by (try dsimp only); omega) | exact cndF h (by (try dsimp only); omega) | (exfalso; simp at h; omega) | simp at h | skip)) | refine kp ?_ ?_ | refine tw ?_ ?_ | refine appnil rfl ?_ | refine rawnil rfl ?_ | exact trivial | refine side2 ?_ | refine sideL2 ?_ | refine Or.inr ?_ | refine sat_drawH (Tryd.ok ..) (by kernel_rfl) ?_ | refine xi _ (And.intro rfl rfl) ?_ | refine xi _ (fun _ => And.intro rfl rfl) ?_ | refine xi _ rfl ?_)
            obtain ⟨hok, hg, hgm, hwl, hgl⟩ := hn
            obtain ⟨g', gm', AS', nS', cS', xsS', AO', cO', xsO', w0', gs', wd', gd', wl', gl'⟩ := m'
            dsimp only at hg hgm hwl hgl
            subst hg hgm hwl hgl
            cases hopn : r'.opn with
            | true =>
              rw [nextH_open hopn]
              refine sat_fuse 905 [905, 906] rfl fun w3 hw3 => ?_
              have hmg := hok w3 (by rw [nextH_open hopn]; exact Sat.Holds.cx_ (cx := Tryd.cxg 79 [5, 11, 17] [] [] w.heap.size [] w) (cx' := Tryd.cxg 79 [] [] [] w.heap.size [] w) rfl rfl rfl hw3)
              rw [nextH_open hopn, fusedL_open hopn] at hmg
              refine sat_fuse 906 [] rfl fun w4 hw4 => ?_
              refine sat_ops (Tryd.ok ..) ?_
              repeat' ((conv => whnf); first | refine walk (Tryd.ok ..) ?_ | (refine Cnd.mk (fun h => ?_) (fun h => ?_) <;> (first | exact cndT h (by (try dsimp only); omega) | exact cndF h (by (try dsimp only); omega) | (exfalso; simp at h; omega) | simp at h | skip)) | refine kp ?_ ?_ | refine tw ?_ ?_ | refine appnil rfl ?_ | refine rawnil rfl ?_ | exact trivial | refine side2 ?_ | refine sideL2 ?_ | refine Or.inr ?_ | refine sat_drawH (Tryd.ok ..) (by kernel_rfl) ?_ | refine xi _ (And.intro rfl rfl) ?_ | refine xi _ (fun _ => And.intro rfl rfl) ?_ | refine xi _ rfl ?_)
              refine ⟨(k + 1, r', ⟨g', gm', AS', nS', cS', xsS', AO', cO', xsO', w3, _, w4, [], wl', gl'⟩), ⟨⟨hk1, ⟨hmg.lO, hmg.gO, hmg.nS, hmg.lS, hmg.gS⟩, by have := hlen.1; show r'.segs.length ≤ k + 1; omega, by have := hlen.2; show r'.out.length ≤ k + 1; omega, hrun⟩, by show l.length - (k + 1) < l.length - k; omega⟩, ?_, ?_, rfl⟩
              · ((repeat' (first | exact trivial | exact rfl | refine And.intro ?_ ?_)) <;> (try (conv => whnf)) <;> (try simp only [SV.real, SV.r2, SV.r1]))
              · dsimp only
                rw [stG_open hopn]
                ((repeat' (first | exact trivial | exact rfl | refine And.intro ?_ ?_)) <;> (try (conv => whnf)) <;> (try simp only [SV.real, SV.r2, SV.r1]))
            | false =>
              rw [nextH_closed hopn]
              refine sat_fuse 905 [905, 906, 901] rfl fun w3 hw3 => ?_
              have hmg := hok w3 (by rw [nextH_closed hopn]; exact Sat.Holds.cx_ (cx := Tryd.cxg 79 [5, 11, 17] [] [] w.heap.size [] w) (cx' := Tryd.cxg 79 [] [] [] w.heap.size [] w) rfl rfl rfl hw3)
              rw [nextH_closed hopn, fusedL_closed hopn] at hmg
              refine sat_fuse 906 [] rfl fun w4 hw4 => ?_
              refine sat_ops (Tryd.ok ..) ?_
              repeat' ((conv => whnf); first | refine walk (Tryd.ok ..) ?_ | (refine Cnd.mk (fun h => ?_) (fun h => ?_) <;> (first | exact cndT h (by (try dsimp only); omega) | exact cndF h (by (try dsimp only); omega) | (exfalso; simp at h; omega) | simp at h | skip)) | refine kp ?_ ?_ | refine tw ?_ ?_ | refine appnil rfl ?_ | refine rawnil rfl ?_ | exact trivial | refine side2 ?_ | refine sideL2 ?_ | refine Or.inr ?_ | refine sat_drawH (Tryd.ok ..) (by kernel_rfl) ?_ | refine xi _ (And.intro rfl rfl) ?_ | refine xi _ (fun _ => And.intro rfl rfl) ?_ | refine xi _ rfl ?_)
              refine ⟨(k + 1, r', ⟨g', gm', AS', nS', cS', xsS', AO', cO', xsO', w3, _, w4, [], wl', gl'⟩), ⟨⟨hk1, ⟨hmg.lO, hmg.gO, hmg.nS, hmg.lS, hmg.gS⟩, by have := hlen.1; show r'.segs.length ≤ k + 1; omega, by have := hlen.2; show r'.out.length ≤ k + 1; omega, hrun⟩, by show l.length - (k + 1) < l.length - k; omega⟩, ?_, ?_, rfl⟩
              · ((repeat' (first | exact trivial | exact rfl | refine And.intro ?_ ?_)) <;> (try (conv => whnf)) <;> (try simp only [SV.real, SV.r2, SV.r1]))
              · dsimp only
                rw [stG_closed hopn]
                ((repeat' (first | exact trivial | exact rfl | refine And.intro ?_ ?_)) <;> (try (conv => whnf)) <;> (try simp only [SV.real, SV.r2, SV.r1]))
      | true =>
        obtain ⟨e0, he0, he0'⟩ := firstB_at hf
        have hlen : 0 < d.length := (List.getElem?_eq_some_iff.1 he0).1
        obtain ⟨x1, hx1, hn1⟩ := nest_at hxd hrd.1 he0
        rw [he0'] at hn1
        obtain ⟨p1, c1, rfl, hc1, hro1, hB1⟩ := ne_row1 hn1
        obtain ⟨pd, rfl, _⟩ := hrd.some_ hlen
        repeat' ((conv => whnf); first | refine walk (Tryd.ok ..) ?_ | (refine Cnd.mk (fun h => ?_) (fun h => ?_) <;> (first | exact cndT h (by (try dsimp only); omega) | exact cndF h (by (try dsimp only); omega) | (exfalso; simp at h; omega) | simp at h | skip)) | refine kp ?_ ?_ | refine tw ?_ ?_ | refine appnil rfl ?_ | refine rawnil rfl ?_ | exact trivial | refine side2 ?_ | refine sideL2 ?_ | refine Or.inr ?_ | refine xi _ (And.intro rfl rfl) ?_ | refine xi _ (fun _ => And.intro rfl rfl) ?_ | refine xi _ rfl ?_ | refine xi _ (fun _ => (frz_at (d := 906) hrd hBd hx1 rfl rfl)) ?_ | refine xi _ (frz_at (d := 906) hrd hBd hx1 rfl rfl) ?_)
        · refine sat_draw (Tryd.ok ..) [6] [(906, .own gd (Frz wd gd))] (by kernel_rfl) (fun w hw => hw.sub ?_) ?_
          · exact hsub_of rfl
          repeat' ((conv => whnf); first | refine walk (Tryd.ok ..) ?_ | (refine Cnd.mk (fun h => ?_) (fun h => ?_) <;> (first | exact cndT h (by (try dsimp only); omega) | exact cndF h (by (try dsimp only); omega) | (exfalso; simp at h; omega) | simp at h | skip)) | refine kp ?_ ?_ | refine tw ?_ ?_ | refine appnil rfl ?_ | refine rawnil rfl ?_ | exact trivial | refine side2 ?_ | refine sideL2 ?_ | refine Or.inr ?_ | refine xi _ (And.intro rfl rfl) ?_ | refine xi _ (fun _ => And.intro rfl rfl) ?_ | refine xi _ rfl ?_ | refine xi _ (fun _ => (frz_at (d := 906) hrd hBd hx1 rfl rfl)) ?_ | refine xi _ (frz_at (d := 906) hrd hBd hx1 rfl rfl) ?_ | refine xi _ (fun _ => (frz_at (d := 906) hro1 hB1 (str1 _) rfl rfl)) ?_ | refine xi _ (frz_at (d := 906) hro1 hB1 (str1 _) rfl rfl) ?_)
          (conv => whnf)
          refine Called.cx_ (cx := Tryd.cxg 79 [] [] [] w.heap.size [] w) (cx' := Tryd.cxg 79 [5, 11, 17] [] [] w.heap.size [] w) rfl rfl rfl rfl ?_
          refine kinds_called (SR := []) (SC := []) fun g1 hg1 => ?_
          repeat' ((conv => whnf); first | refine walk (Tryd.ok ..) ?_ | (refine Cnd.mk (fun h => ?_) (fun h => ?_) <;> (first | exact cndT h (by (try dsimp only); omega) | exact cndF h (by (try dsimp only); omega) | (exfalso; simp at h; omega) | simp at h | skip)) | refine kp ?_ ?_ | refine tw ?_ ?_ | refine appnil rfl ?_ | refine rawnil rfl ?_ | exact trivial | refine side2 ?_ | refine sideL2 ?_ | refine Or.inr ?_ | refine xi _ (And.intro rfl rfl) ?_ | refine xi _ (fun _ => And.intro rfl rfl) ?_ | refine xi _ rfl ?_)
          (conv => whnf)
          by_cases hh : at2 d 0 = hedS
          · refine other_lookup 1 (.t [.v (.func (.func 69) #[] #[]), .v (.bool true)]) Tryd.underlying79 Tryd.underlying9 (fun _ => rfl) rfl rfl rfl (by rw [hh]; rfl) ?_
            repeat' ((conv => whnf); first | refine walk (Tryd.ok ..) ?_ | (refine Cnd.mk (fun h => ?_) (fun h => ?_) <;> (first | exact cndT h (by (try dsimp only); omega) | exact cndF h (by (try dsimp only); omega) | (exfalso; simp at h; omega) | simp at h | skip)) | refine kp ?_ ?_ | refine tw ?_ ?_ | refine appnil rfl ?_ | refine rawnil rfl ?_ | exact trivial | refine side2 ?_ | refine sideL2 ?_ | refine Or.inr ?_ | refine sat_drawH (Tryd.ok ..) (by kernel_rfl) ?_ | refine xi _ (And.intro rfl rfl) ?_ | refine xi _ (fun _ => And.intro rfl rfl) ?_ | refine xi _ rfl ?_)
            (conv => whnf)
            have hF : fnOf d = 69 := by unfold fnOf; rw [if_pos ⟨hf, hh⟩]
            refine called_lay [.p 900 g28 0 0, .v (.slice (adr (some pd)) d.length cd)] (stG { m with g := g28, gm := g26, wl := wl, gl := gl, wd := wd, gd := gd } r) rfl (fun w hw => ?_) ?_
            · cases ho : r.opn with
              | true => rw [stG_open ho] at hw ⊢; exact hw.sub (hsub_of (by kernel_rfl))
              | false => rw [stG_closed ho] at hw ⊢; exact hw.sub (hsub_of (by kernel_rfl))
            refine Called.cx_ (cx := Tryd.cxg 79 [] [] [] w.heap.size [] w) (cx' := Tryd.cxg 79 [5, 11, 17] [] [] w.heap.size [] w) rfl rfl rfl rfl ?_
            refine (congrArg (fun F => Called _ F _ _ _) hF).mp ?_
            refine stepg_called { m with g := g28, gm := g26, wl := wl, gl := gl, wd := wd, gd := gd } r d _ hw rfl ⟨hm.lO, hm.gO, hm.nS, hm.lS, hm.gS⟩ hvd0 hft (by omega) (by omega) (fun e H he => ?_) (fun r' m' hr' hn => ?_)
            · have hc := stepG_code he
              rw [he] at hrun
              dsimp only at hrun
              rw [← hrun]
              repeat' ((conv => whnf); first | refine walk (Tryd.ok ..) ?_ | (refine Cnd.mk (fun h => ?_) (fun h => ?_) <;> (first | exact cndT h (by (try dsimp only); omega) | exact cndF h (by (try dsimp only); omega) | (exfalso; simp at h; omega) | simp at h | skip)) | refine kp ?_ ?_ | refine tw ?_ ?_ | refine appnil rfl ?_ | refine rawnil rfl ?_ | exact trivial | refine side2 ?_ | refine sideL2 ?_ | refine Or.inr ?_ | refine sat_drawH (Tryd.ok ..) (by kernel_rfl) ?_ | refine xi _ (And.intro rfl rfl) ?_ | refine xi _ (fun _ => And.intro rfl rfl) ?_ | refine xi _ rfl ?_)
              all_goals first | exact done_fuse (v := .slice none 0 0) rfl rfl [] (fun w _ => by unfold AnsG; rw [hG, ← hrun]; exact nestz_nil) rfl | omega
            · rw [hr'] at hrun
              dsimp only at hrun
              have hlen := stepG_len hr'
              repeat' ((conv => whnf); first | refine walk (Tryd.ok ..) ?_ | (refine Cnd.mk (fun h => ?_) (fun h => ?_) <;> (first | exact cndT h (by (try dsimp only); omega) | exact cndF h (by (try dsimp only); omega) | (exfalso; simp at h; omega) | simp at h | skip)) | refine kp ?_ ?_ | refine tw ?_ ?_ | refine appnil rfl ?_ | refine rawnil rfl ?_ | exact trivial | refine side2 ?_ | refine sideL2 ?_ | refine Or.inr ?_ | refine sat_drawH (Tryd.ok ..) (by kernel_rfl) ?_ | refine xi _ (And.intro rfl rfl) ?_ | refine xi _ (fun _ => And.intro rfl rfl) ?_ | refine xi _ rfl ?_)
              obtain ⟨hok, hg, hgm, hwl, hgl⟩ := hn
              obtain ⟨g', gm', AS', nS', cS', xsS', AO', cO', xsO', w0', gs', wd', gd', wl', gl'⟩ := m'
              dsimp only at hg hgm hwl hgl
              subst hg hgm hwl hgl
              cases hopn : r'.opn with
              | true =>
                rw [nextH_open hopn]
                refine sat_fuse 905 [905, 906] rfl fun w3 hw3 => ?_
                have hmg := hok w3 (by rw [nextH_open hopn]; exact Sat.Holds.cx_ (cx := Tryd.cxg 79 [5, 11, 17] [] [] w.heap.size [] w) (cx' := Tryd.cxg 79 [] [] [] w.heap.size [] w) rfl rfl rfl hw3)
                rw [nextH_open hopn, fusedL_open hopn] at hmg
                refine sat_fuse 906 [] rfl fun w4 hw4 => ?_
                refine sat_ops (Tryd.ok ..) ?_
                repeat' ((conv => whnf); first | refine walk (Tryd.ok ..) ?_ | (refine Cnd.mk (fun h => ?_) (fun h => ?_) <;> (first | exact cndT h (by (try dsimp only); omega) | exact cndF h (by (try dsimp only); omega) | (exfalso; simp at h; omega) | simp at h | skip)) | refine kp ?_ ?_ | refine tw ?_ ?_ | refine appnil rfl ?_ | refine rawnil rfl ?_ | exact trivial | refine side2 ?_ | refine sideL2 ?_ | refine Or.inr ?_ | refine sat_drawH (Tryd.ok ..) (by kernel_rfl) ?_ | refine xi _ (And.intro rfl rfl) ?_ | refine xi _ (fun _ => And.intro rfl rfl) ?_ | refine xi _ rfl ?_)
                refine ⟨(k + 1, r', ⟨g', gm', AS', nS', cS', xsS', AO', cO', xsO', w3, _, w4, [], wl', gl'⟩), ⟨⟨hk1, ⟨hmg.lO, hmg.gO, hmg.nS, hmg.lS, hmg.gS⟩, by have := hlen.1; show r'.segs.length ≤ k + 1; omega, by have := hlen.2; show r'.out.length ≤ k + 1; omega, hrun⟩, by show l.length - (k + 1) < l.length - k; omega⟩, ?_, ?_, rfl⟩
                · ((repeat' (first | exact trivial | exact rfl | refine And.intro ?_ ?_)) <;> (try (conv => whnf)) <;> (try simp only [SV.real, SV.r2, SV.r1]))
                · dsimp only
                  rw [stG_open hopn]
                  ((repeat' (first | exact trivial | exact rfl | refine And.intro ?_ ?_)) <;> (try (conv => whnf)) <;> (try simp only [SV.real, SV.r2, SV.r1]))
              | false =>
                rw [nextH_closed hopn]
                refine sat_fuse 905 [905, 906, 901] rfl fun w3 hw3 => ?_
                have hmg := hok w3 (by rw [nextH_closed hopn]; exact Sat.Holds.cx_ (cx := Tryd.cxg 79 [5, 11, 17] [] [] w.heap.size [] w) (cx' := Tryd.cxg 79 [] [] [] w.heap.size [] w) rfl rfl rfl hw3)
                rw [nextH_closed hopn, fusedL_closed hopn] at hmg
                refine sat_fuse 906 [] rfl fun w4 hw4 => ?_
                refine sat_ops (Tryd.ok ..) ?_
                repeat' ((conv => whnf); first | refine walk (Tryd.ok ..) ?_ | (refine Cnd.mk (fun h => ?_) (fun h => ?_) <;> (first | exact cndT h (by (try dsimp only); omega) | exact cndF h (by (try dsimp only); omega) | (exfalso; simp at h; omega) | simp at h | skip)) | refine kp ?_ ?_ | refine tw ?_ ?_ | refine appnil rfl ?_ | refine rawnil rfl ?_ | exact trivial | refine side2 ?_ | refine sideL2 ?_ | refine Or.inr ?_ | refine sat_drawH (Tryd.ok ..) (by kernel_rfl) ?_ | refine xi _ (And.intro rfl rfl) ?_ | refine xi _ (fun _ => And.intro rfl rfl) ?_ | refine xi _ rfl ?_)
                refine ⟨(k + 1, r', ⟨g', gm', AS', nS', cS', xsS', AO', cO', xsO', w3, _, w4, [], wl', gl'⟩), ⟨⟨hk1, ⟨hmg.lO, hmg.gO, hmg.nS, hmg.lS, hmg.gS⟩, by have := hlen.1; show r'.segs.length ≤ k + 1; omega, by have := hlen.2; show r'.out.length ≤ k + 1; omega, hrun⟩, by show l.length - (k + 1) < l.length - k; omega⟩, ?_, ?_, rfl⟩
                · ((repeat' (first | exact trivial | exact rfl | refine And.intro ?_ ?_)) <;> (try (conv => whnf)) <;> (try simp only [SV.real, SV.r2, SV.r1]))
                · dsimp only
                  rw [stG_closed hopn]
                  ((repeat' (first | exact trivial | exact rfl | refine And.intro ?_ ?_)) <;> (try (conv => whnf)) <;> (try simp only [SV.real, SV.r2, SV.r1]))
          by_cases hh2 : at2 d 0 = endS
          · refine other_lookup 1 (.t [.v (.func (.func 70) #[] #[]), .v (.bool true)]) Tryd.underlying79 Tryd.underlying9 (fun _ => rfl) rfl rfl rfl (by rw [hh2]; rfl) ?_
            repeat' ((conv => whnf); first | refine walk (Tryd.ok ..) ?_ | (refine Cnd.mk (fun h => ?_) (fun h => ?_) <;> (first | exact cndT h (by (try dsimp only); omega) | exact cndF h (by (try dsimp only); omega) | (exfalso; simp at h; omega) | simp at h | skip)) | refine kp ?_ ?_ | refine tw ?_ ?_ | refine appnil rfl ?_ | refine rawnil rfl ?_ | exact trivial | refine side2 ?_ | refine sideL2 ?_ | refine Or.inr ?_ | refine sat_drawH (Tryd.ok ..) (by kernel_rfl) ?_ | refine xi _ (And.intro rfl rfl) ?_ | refine xi _ (fun _ => And.intro rfl rfl) ?_ | refine xi _ rfl ?_)
            (conv => whnf)
            have hF : fnOf d = 70 := by unfold fnOf; rw [if_neg (fun h => hh h.2), if_pos ⟨hf, hh2⟩]
            refine called_lay [.p 900 g28 0 0, .v (.slice (adr (some pd)) d.length cd)] (stG { m with g := g28, gm := g26, wl := wl, gl := gl, wd := wd, gd := gd } r) rfl (fun w hw => ?_) ?_
            · cases ho : r.opn with
              | true => rw [stG_open ho] at hw ⊢; exact hw.sub (hsub_of (by kernel_rfl))
              | false => rw [stG_closed ho] at hw ⊢; exact hw.sub (hsub_of (by kernel_rfl))
            refine Called.cx_ (cx := Tryd.cxg 79 [] [] [] w.heap.size [] w) (cx' := Tryd.cxg 79 [5, 11, 17] [] [] w.heap.size [] w) rfl rfl rfl rfl ?_
            refine (congrArg (fun F => Called _ F _ _ _) hF).mp ?_
            refine stepg_called { m with g := g28, gm := g26, wl := wl, gl := gl, wd := wd, gd := gd } r d _ hw rfl ⟨hm.lO, hm.gO, hm.nS, hm.lS, hm.gS⟩ hvd0 hft (by omega) (by omega) (fun e H he => ?_) (fun r' m' hr' hn => ?_)
            · have hc := stepG_code he
              rw [he] at hrun
              dsimp only at hrun
              rw [← hrun]
              repeat' ((conv => whnf); first | refine walk (Tryd.ok ..) ?_ | (refine Cnd.mk (fun h => ?_) (fun h => ?_) <;> (first | exact cndT h (by (try dsimp only); omega) | exact cndF h (by (try dsimp only); omega) | (exfalso; simp at h; omega) | simp at h | skip)) | refine kp ?_ ?_ | refine tw ?_ ?_ | refine appnil rfl ?_ | refine rawnil rfl ?_ | exact trivial | refine side2 ?_ | refine sideL2 ?_ | refine Or.inr ?_ | refine sat_drawH (Tryd.ok ..) (by kernel_rfl) ?_ | refine xi _ (And.intro rfl rfl) ?_ | refine xi _ (fun _ => And.intro rfl rfl) ?_ | refine xi _ rfl ?_)
              all_goals first | exact done_fuse (v := .slice none 0 0) rfl rfl [] (fun w _ => by unfold AnsG; rw [hG, ← hrun]; exact nestz_nil) rfl | omega
            · rw [hr'] at hrun
              dsimp only at hrun
              have hlen := stepG_len hr'
              repeat' ((conv => whnf); first | refine walk (Tryd.ok ..) ?_ | (refine Cnd.mk (fun h => ?_) (fun h => ?_) <;> (first | exact cndT h (by (try dsimp only); omega) | exact cndF h (by (try dsimp only); omega) | (exfalso; simp at h; omega) | simp at h | skip)) | refine kp ?_ ?_ | refine tw ?_ ?_ | refine appnil rfl ?_ | refine rawnil rfl ?_ | exact trivial | refine side2 ?_ | refine sideL2 ?_ | refine Or.inr ?_ | refine sat_drawH (Tryd.ok ..) (by kernel_rfl) ?_ | refine xi _ (And.intro rfl rfl) ?_ | refine xi _ (fun _ => And.intro rfl rfl) ?_ | refine xi _ rfl ?_)
              obtain ⟨hok, hg, hgm, hwl, hgl⟩ := hn
              obtain ⟨g', gm', AS', nS', cS', xsS', AO', cO', xsO', w0', gs', wd', gd', wl', gl'⟩ := m'
              dsimp only at hg hgm hwl hgl
              subst hg hgm hwl hgl
              cases hopn : r'.opn with
              | true =>
                rw [nextH_open hopn]
                refine sat_fuse 905 [905, 906] rfl fun w3 hw3 => ?_
                have hmg := hok w3 (by rw [nextH_open hopn]; exact Sat.Holds.cx_ (cx := Tryd.cxg 79 [5, 11, 17] [] [] w.heap.size [] w) (cx' := Tryd.cxg 79 [] [] [] w.heap.size [] w) rfl rfl rfl hw3)
                rw [nextH_open hopn, fusedL_open hopn] at hmg
                refine sat_fuse 906 [] rfl fun w4 hw4 => ?_
                refine sat_ops (Tryd.ok ..) ?_
                repeat' ((conv => whnf); first | refine walk (Tryd.ok ..) ?_ | (refine Cnd.mk (fun h => ?_) (fun h => ?_) <;> (first | exact cndT h (by (try dsimp only); omega) | exact cndF h (by (try dsimp only); omega) | (exfalso; simp at h; omega) | simp at h | skip)) | refine kp ?_ ?_ | refine tw ?_ ?_ | refine appnil rfl ?_ | refine rawnil rfl ?_ | exact trivial | refine side2 ?_ | refine sideL2 ?_ | refine Or.inr ?_ | refine sat_drawH (Tryd.ok ..) (by kernel_rfl) ?_ | refine xi _ (And.intro rfl rfl) ?_ | refine xi _ (fun _ => And.intro rfl rfl) ?_ | refine xi _ rfl ?_)
                refine ⟨(k + 1, r', ⟨g', gm', AS', nS', cS', xsS', AO', cO', xsO', w3, _, w4, [], wl', gl'⟩), ⟨⟨hk1, ⟨hmg.lO, hmg.gO, hmg.nS, hmg.lS, hmg.gS⟩, by have := hlen.1; show r'.segs.length ≤ k + 1; omega, by have := hlen.2; show r'.out.length ≤ k + 1; omega, hrun⟩, by show l.length - (k + 1) < l.length - k; omega⟩, ?_, ?_, rfl⟩
                · ((repeat' (first | exact trivial | exact rfl | refine And.intro ?_ ?_)) <;> (try (conv => whnf)) <;> (try simp only [SV.real, SV.r2, SV.r1]))
                · dsimp only
                  rw [stG_open hopn]
                  ((repeat' (first | exact trivial | exact rfl | refine And.intro ?_ ?_)) <;> (try (conv => whnf)) <;> (try simp only [SV.real, SV.r2, SV.r1]))
              | false =>
                rw [nextH_closed hopn]
                refine sat_fuse 905 [905, 906, 901] rfl fun w3 hw3 => ?_
                have hmg := hok w3 (by rw [nextH_closed hopn]; exact Sat.Holds.cx_ (cx := Tryd.cxg 79 [5, 11, 17] [] [] w.heap.size [] w) (cx' := Tryd.cxg 79 [] [] [] w.heap.size [] w) rfl rfl rfl hw3)
                rw [nextH_closed hopn, fusedL_closed hopn] at hmg
                refine sat_fuse 906 [] rfl fun w4 hw4 => ?_
                refine sat_ops (Tryd.ok ..) ?_
                repeat' ((conv => whnf); first | refine walk (Tryd.ok ..) ?_ | (refine Cnd.mk (fun h => ?_) (fun h => ?_) <;> (first | exact cndT h (by (try dsimp only); omega) | exact cndF h (by (try dsimp only); omega) | (exfalso; simp at h; omega) | simp at h | skip)) | refine kp ?_ ?_ | refine tw ?_ ?_ | refine appnil rfl ?_ | refine rawnil rfl ?_ | exact trivial | refine side2 ?_ | refine sideL2 ?_ | refine Or.inr ?_ | refine sat_drawH (Tryd.ok ..) (by kernel_rfl) ?_ | refine xi _ (And.intro rfl rfl) ?_ | refine xi _ (fun _ => And.intro rfl rfl) ?_ | refine xi _ rfl ?_)
                refine ⟨(k + 1, r', ⟨g', gm', AS', nS', cS', xsS', AO', cO', xsO', w3, _, w4, [], wl', gl'⟩), ⟨⟨hk1, ⟨hmg.lO, hmg.gO, hmg.nS, hmg.lS, hmg.gS⟩, by have := hlen.1; show r'.segs.length ≤ k + 1; omega, by have := hlen.2; show r'.out.length ≤ k + 1; omega, hrun⟩, by show l.length - (k + 1) < l.length - k; omega⟩, ?_, ?_, rfl⟩
                · ((repeat' (first | exact trivial | exact rfl | refine And.intro ?_ ?_)) <;> (try (conv => whnf)) <;> (try simp only [SV.real, SV.r2, SV.r1]))
                · dsimp only
                  rw [stG_closed hopn]
                  ((repeat' (first | exact trivial | exact rfl | refine And.intro ?_ ?_)) <;> (try (conv => whnf)) <;> (try simp only [SV.real, SV.r2, SV.r1]))
          have hkv : kindsV (at2 d 0) = none := by unfold kindsV; rw [if_neg hh2, if_neg hh]
          refine other_lookup 1 (.t [.v .nilFunc, .v (.bool false)]) Tryd.underlying79 Tryd.underlying9 (fun _ => rfl) rfl rfl rfl (by rw [hkv]; rfl) ?_
          repeat' ((conv => whnf); first | refine walk (Tryd.ok ..) ?_ | (refine Cnd.mk (fun h => ?_) (fun h => ?_) <;> (first | exact cndT h (by (try dsimp only); omega) | exact cndF h (by (try dsimp only); omega) | (exfalso; simp at h; omega) | simp at h | skip)) | refine kp ?_ ?_ | refine tw ?_ ?_ | refine appnil rfl ?_ | refine rawnil rfl ?_ | exact trivial | refine side2 ?_ | refine sideL2 ?_ | refine Or.inr ?_ | refine sat_drawH (Tryd.ok ..) (by kernel_rfl) ?_ | refine xi _ (And.intro rfl rfl) ?_ | refine xi _ (fun _ => And.intro rfl rfl) ?_ | refine xi _ rfl ?_)
          (conv => whnf)
          have hF : fnOf d = 41 := by unfold fnOf; rw [if_neg (fun h => hh h.2), if_neg (fun h => hh2 h.2)]
          refine called_lay [.p 900 g28 0 0, .v (.slice (adr (some pd)) d.length cd)] (stG { m with g := g28, gm := g26, wl := wl, gl := gl, wd := wd, gd := gd } r) rfl (fun w hw => ?_) ?_
          · cases ho : r.opn with
            | true => rw [stG_open ho] at hw ⊢; exact hw.sub (hsub_of (by kernel_rfl))
            | false => rw [stG_closed ho] at hw ⊢; exact hw.sub (hsub_of (by kernel_rfl))
          refine Called.cx_ (cx := Tryd.cxg 79 [] [] [] w.heap.size [] w) (cx' := Tryd.cxg 79 [5, 11, 17] [] [] w.heap.size [] w) rfl rfl rfl rfl ?_
          refine (congrArg (fun F => Called _ F _ _ _) hF).mp ?_
          refine stepg_called { m with g := g28, gm := g26, wl := wl, gl := gl, wd := wd, gd := gd } r d _ hw rfl ⟨hm.lO, hm.gO, hm.nS, hm.lS, hm.gS⟩ hvd0 hft (by omega) (by omega) (fun e H he => ?_) (fun r' m' hr' hn => ?_)
          · have hc := stepG_code he
            rw [he] at hrun
            dsimp only at hrun
            rw [← hrun]
            repeat' ((conv => whnf); first | refine walk (Tryd.ok ..) ?_ | (refine Cnd.mk (fun h => ?_) (fun h => ?_) <;> (first | exact cndT h (by (try dsimp only); omega) | exact cndF h (by (try dsimp only); omega) | (exfalso; simp at h; omega) | simp at h | skip)) | refine kp ?_ ?_ | refine tw ?_ ?_ | refine appnil rfl ?_ | refine rawnil rfl ?_ | exact trivial | refine side2 ?_ | refine sideL2 ?_ | refine Or.inr ?_ | refine sat_drawH (Tryd.ok ..) (by kernel_rfl) ?_ | refine xi _ (And.intro rfl rfl) ?_ | refine xi _ (fun _ => And.intro rfl rfl) ?_ | refine xi _ rfl ?_)
            all_goals first | exact done_fuse (v := .slice none 0 0) rfl rfl [] (fun w _ => by unfold AnsG; rw [hG, ← hrun]; exact nestz_nil) rfl | omega
          · rw [hr'] at hrun
            dsimp only at hrun
            have hlen := stepG_len hr'
            repeat' ((conv => whnf); first | refine walk (Tryd.ok ..) ?_ | (refine Cnd.mk (fun h => ?_) (fun h => ?_) <;> (first | exact cndT h (by (try dsimp only); omega) | exact cndF h (by (try dsimp only); omega) | (exfalso; simp at h; omega) | simp at h | skip)) | refine kp ?_ ?_ | refine tw ?_ ?_ | refine appnil rfl ?_ | refine rawnil rfl ?_ | exact trivial | refine side2 ?_ | refine sideL2 ?_ | refine Or.inr ?_ | refine sat_drawH (Tryd.ok ..) (by kernel_rfl) ?_ | refine xi _ (And.intro rfl rfl) ?_ | refine xi _ (fun _ => And.intro rfl rfl) ?_ | refine xi _ rfl ?_)
            obtain ⟨hok, hg, hgm, hwl, hgl⟩ := hn
            obtain ⟨g', gm', AS', nS', cS', xsS', AO', cO', xsO', w0', gs', wd', gd', wl', gl'⟩ := m'
            dsimp only at hg hgm hwl hgl
            subst hg hgm hwl hgl
            cases hopn : r'.opn with
            | true =>
              rw [nextH_open hopn]
              refine sat_fuse 905 [905, 906] rfl fun w3 hw3 => ?_
              have hmg := hok w3 (by rw [nextH_open hopn]; exact Sat.Holds.cx_ (cx := Tryd.cxg 79 [5, 11, 17] [] [] w.heap.size [] w) (cx' := Tryd.cxg 79 [] [] [] w.heap.size [] w) rfl rfl rfl hw3)
              rw [nextH_open hopn, fusedL_open hopn] at hmg
              refine sat_fuse 906 [] rfl fun w4 hw4 => ?_
              refine sat_ops (Tryd.ok ..) ?_
              repeat' ((conv => whnf); first | refine walk (Tryd.ok ..) ?_ | (refine Cnd.mk (fun h => ?_) (fun h => ?_) <;> (first | exact cndT h (by (try dsimp only); omega) | exact cndF h (by (try dsimp only); omega) | (exfalso; simp at h; omega) | simp at h | skip)) | refine kp ?_ ?_ | refine tw ?_ ?_ | refine appnil rfl ?_ | refine rawnil rfl ?_ | exact trivial | refine side2 ?_ | refine sideL2 ?_ | refine Or.inr ?_ | refine sat_drawH (Tryd.ok ..) (by kernel_rfl) ?_ | refine xi _ (And.intro rfl rfl) ?_ | refine xi _ (fun _ => And.intro rfl rfl) ?_ | refine xi _ rfl ?_)
              refine ⟨(k + 1, r', ⟨g', gm', AS', nS', cS', xsS', AO', cO', xsO', w3, _, w4, [], wl', gl'⟩), ⟨⟨hk1, ⟨hmg.lO, hmg.gO, hmg.nS, hmg.lS, hmg.gS⟩, by have := hlen.1; show r'.segs.length ≤ k + 1; omega, by have := hlen.2; show r'.out.length ≤ k + 1; omega, hrun⟩, by show l.length - (k + 1) < l.length - k; omega⟩, ?_, ?_, rfl⟩
              · ((repeat' (first | exact trivial | exact rfl | refine And.intro ?_ ?_)) <;> (try (conv => whnf)) <;> (try simp only [SV.real, SV.r2, SV.r1]))
              · dsimp only
                rw [stG_open hopn]
                ((repeat' (first | exact trivial | exact rfl | refine And.intro ?_ ?_)) <;> (try (conv => whnf)) <;> (try simp only [SV.real, SV.r2, SV.r1]))
            | false =>
              rw [nextH_closed hopn]
              refine sat_fuse 905 [905, 906, 901] rfl fun w3 hw3 => ?_
              have hmg := hok w3 (by rw [nextH_closed hopn]; exact Sat.Holds.cx_ (cx := Tryd.cxg 79 [5, 11, 17] [] [] w.heap.size [] w) (cx' := Tryd.cxg 79 [] [] [] w.heap.size [] w) rfl rfl rfl hw3)
              rw [nextH_closed hopn, fusedL_closed hopn] at hmg
              refine sat_fuse 906 [] rfl fun w4 hw4 => ?_
              refine sat_ops (Tryd.ok ..) ?_
              repeat' ((conv => whnf); first | refine walk (Tryd.ok ..) ?_ | (refine Cnd.mk (fun h => ?_) (fun h => ?_) <;> (first | exact cndT h (by (try dsimp only); omega) | exact cndF h (by (try dsimp only); omega) | (exfalso; simp at h; omega) | simp at h | skip)) | refine kp ?_ ?_ | refine tw ?_ ?_ | refine appnil rfl ?_ | refine rawnil rfl ?_ | exact trivial | refine side2 ?_ | refine sideL2 ?_ | refine Or.inr ?_ | refine sat_drawH (Tryd.ok ..) (by kernel_rfl) ?_ | refine xi _ (And.intro rfl rfl) ?_ | refine xi _ (fun _ => And.intro rfl rfl) ?_ | refine xi _ rfl ?_)
              refine ⟨(k + 1, r', ⟨g', gm', AS', nS', cS', xsS', AO', cO', xsO', w3, _, w4, [], wl', gl'⟩), ⟨⟨hk1, ⟨hmg.lO, hmg.gO, hmg.nS, hmg.lS, hmg.gS⟩, by have := hlen.1; show r'.segs.length ≤ k + 1; omega, by have := hlen.2; show r'.out.length ≤ k + 1; omega, hrun⟩, by show l.length - (k + 1) < l.length - k; omega⟩, ?_, ?_, rfl⟩
              · ((repeat' (first | exact trivial | exact rfl | refine And.intro ?_ ?_)) <;> (try (conv => whnf)) <;> (try simp only [SV.real, SV.r2, SV.r1]))
              · dsimp only
                rw [stG_closed hopn]
                ((repeat' (first | exact trivial | exact rfl | refine And.intro ?_ ?_)) <;> (try (conv => whnf)) <;> (try simp only [SV.real, SV.r2, SV.r1]))
        · exact absurd ‹d = []› (List.ne_nil_of_length_pos hlen)
    obtain rfl : k = l.length := by omega
    rw [List.drop_length] at hrun
    have hrun : (if r.opn = true then ([], (l.length : Int), (52 : Int)) else (r.out, 0, 0)) = runG l 0 rst0 := hrun
    cases ho : r.opn with
    | true =>
      rw [if_pos ho] at hrun
      rw [← hrun, stG_open ho]
      unfold opH rgC
      dsimp only
      rw [ho]
      repeat' ((conv => whnf); first | refine walk (Tryd.ok ..) ?_ | (refine Cnd.mk (fun h => ?_) (fun h => ?_) <;> (first | exact cndT h (by (try dsimp only); omega) | exact cndF h (by (try dsimp only); omega) | (exfalso; simp at h; omega) | simp at h | skip)) | refine kp ?_ ?_ | refine tw ?_ ?_ | refine appnil rfl ?_ | refine rawnil rfl ?_ | exact trivial | refine side2 ?_ | refine sideL2 ?_ | refine Or.inr ?_ | refine sat_drawH (Tryd.ok ..) (by kernel_rfl) ?_ | refine xi _ (And.intro rfl rfl) ?_ | refine xi _ (fun _ => And.intro rfl rfl) ?_ | refine xi _ rfl ?_)
      all_goals first | exact done_fuse (v := .slice none 0 0) rfl rfl [] (fun w _ => by unfold AnsG; rw [hG, ← hrun]; exact nestz_nil) rfl | omega
    | false =>
      rw [if_neg (by rw [ho]; simp)] at hrun
      rw [← hrun, stG_closed ho]
      unfold clH rgC
      dsimp only
      rw [ho]
      repeat' ((conv => whnf); first | refine walk (Tryd.ok ..) ?_ | (refine Cnd.mk (fun h => ?_) (fun h => ?_) <;> (first | exact cndT h (by (try dsimp only); omega) | exact cndF h (by (try dsimp only); omega) | (exfalso; simp at h; omega) | simp at h | skip)) | refine kp ?_ ?_ | refine tw ?_ ?_ | refine appnil rfl ?_ | refine rawnil rfl ?_ | exact trivial | refine side2 ?_ | refine sideL2 ?_ | refine Or.inr ?_ | refine sat_drawH (Tryd.ok ..) (by kernel_rfl) ?_ | refine xi _ (And.intro rfl rfl) ?_ | refine xi _ (fun _ => And.intro rfl rfl) ?_ | refine xi _ rfl ?_)
      refine done_fuse (v := .slice (adr m.AO) r.out.length m.cO) rfl rfl [905, 902] (fun w' hw' => ?_) rfl
      unfold AnsG
      rw [hG, ← hrun]
      exact ⟨adr m.AO, m.AO, m.cO, m.xsO, rfl, AtN.refl _ _, row_caps hw' (id := 902) rfl, ro_of_row hw' (id := 902) rfl, fun p hp _ => gs_sub (i := 902) rfl rfl (by rw [hp]; simp [HB.gs]), fun i a ha => fuseC (msgr_stays ns_stays) [905, 902] 905 (hm.gO i a ha) hw' rfl rfl⟩
  · have hG : readG t = ([], pa, pe) := by unfold readG; rw [if_neg (by rw [← hpe]; exact he), hpa, hpe]
    rw [hG]
    repeat' ((conv => whnf); first | refine walk (Tryd.ok ..) ?_ | (refine Cnd.mk (fun h => ?_) (fun h => ?_) <;> (first | exact cndT h (by (try dsimp only); omega) | exact cndF h (by (try dsimp only); omega) | (exfalso; simp at h; omega) | simp at h | skip)) | refine kp ?_ ?_ | refine tw ?_ ?_ | refine appnil rfl ?_ | refine rawnil rfl ?_ | exact trivial | refine side2 ?_ | refine sideL2 ?_ | refine Or.inr ?_ | refine sat_drawH (Tryd.ok ..) (by kernel_rfl) ?_ | refine xi _ (And.intro rfl rfl) ?_ | refine xi _ (fun _ => And.intro rfl rfl) ?_ | refine xi _ rfl ?_)
    all_goals first | exact done_fuse (v := .slice none 0 0) rfl rfl [] (fun w _ => by unfold AnsG; rw [hG]; exact nestz_nil) rfl | omega
end Go.Proofs.YtdohcglpcgahaaaDoor
