/-
  The walk of the reader's method for a byte of a segment.
-/
import Derived.Test.YtdejcgmaphmjbaaDoorW3
set_option linter.unusedSimpArgs false
set_option linter.unusedVariables false
namespace Go.Proofs.YtdejcgmaphmjbaaDoor
open Go Sat Go.RowKit Go.PlainAid
structure MemOk (m : Mem) (r : Rd) : Prop where
  lO : m.xsO.length = r.out.length
  gO : Got NS m.w0 m.gs m.xsO r.out
  lS : r.mode ≠ 0 → m.xsS.length = r.seg.length
  gS : r.mode ≠ 0 → Got NE m.w0 m.gs m.xsS r.seg
/-- the heap of a state, the method of the next byte beside it -/
def stH (m : Mem) (r : Rd) (at' : Int) : Heap := if r.mode = 0 then btwH m r 31 false false at' else if r.mode = 1 then insH m r 50 true false at' else insH m r 65 true true at'
def InsK (m : Mem) (K : SV → Heap → Prop) (i : Int) (r : Rd) : Step → Prop
  | .error e => K (.v (.int .i64 e.2)) (insH m r 50 true false i)
  | .ok r' => ∀ m' : Mem, MemOk m' r' → m'.g = m.g ∧ m'.gi = m.gi ∧ m'.Pi = m.Pi → K (.v (.int .i64 0)) (stH m' r' i)
set_option maxRecDepth 100000 in
set_option maxHeartbeats 8000000 in
theorem inside_called {N n0 : Nat} {W : World} {K : SV → Heap → Prop} (m : Mem) (r : Rd) (i c : Int) (hr : RdOk r) (hm1 : r.mode = 1) (hm : MemOk m r) (hc : 0 ≤ c) (hk : InsK m K i r (insE r i c)) :
    Called (Tryd.cxg N [] [] [] n0 [] W) 50 [.p 900 m.g 0 0, .v (.int .i32 c)] (insH m r 50 true false i) K := by
  refine called_fact 902 rfl fun hcap hsome => ?_
  obtain ⟨p, hp⟩ := hsome (Nat.succ_pos _)
  obtain ⟨g, AO, cO, xsO, AS, cS, xsS, AE, cE, AP, cP, w0, gs, gi, Pi⟩ := m
  dsimp only at hp
  subst hp
  refine called_in (Tryd.ok ..) Tryd.func50 rfl (by show 2 ≤ 114; omega) ?_
  obtain ⟨h1, h2, h3, h4⟩ := id hr
  have hO : xsO.length = r.out.length := hm.lO
  have hS : xsS.length = r.seg.length := hm.lS (by omega)
  have gO : Got NS w0 gs xsO r.out := hm.gO
  have gS : Got NE w0 gs xsS r.seg := hm.gS (by omega)
  unfold insE at hk
  have fS := last_at (x := hdE ⟨g, AO, cO, xsO, some p, cS, xsS, AE, cE, AP, cP, w0, gs, gi, Pi⟩ r) hS (i := ((r.seg.length + 1 : Nat) : Int) - 1) (by omega)
  by_cases c39 : c = 39
  · subst c39
    rw [if_pos rfl] at hk
    repeat' ((conv => whnf); first | refine walk (Tryd.ok ..) ?_ | refine walk (COk.with_ (Tryd.ok ..) _ _) ?_ | refine walk (COk.with_ (COk.with_ (Tryd.ok ..) _ _) _ _) ?_ | (refine Cnd.mk (fun h => ?_) (fun h => ?_) <;> (first | exact cndT h (by (try dsimp only); omega) | exact cndF h (by (try dsimp only); omega) | (exfalso; simp at h; omega) | simp at h | skip)) | refine kp ?_ ?_ | refine tw ?_ ?_ | refine appnil rfl ?_ | refine rawnil rfl ?_ | exact trivial | refine side2 ?_ | refine sideL2 ?_ | refine Or.inr ?_ | refine xi _ (And.intro rfl rfl) ?_ | refine xi _ (fun _ => And.intro rfl rfl) ?_ | refine xi _ rfl ?_ | refine xi _ (fun _ => (last_at hO (by omega))) ?_ | refine xi _ (last_at hO (by omega)) ?_)
    refine close_called ⟨g, AO, cO, xsO, some p, cS, xsS, AE, cE, AP, cP, w0, gs, gi, Pi⟩ r _ true false i hr hO hS (fun A cap => ?_)
    repeat' ((conv => whnf); first | refine walk (Tryd.ok ..) ?_ | refine walk (COk.with_ (Tryd.ok ..) _ _) ?_ | refine walk (COk.with_ (COk.with_ (Tryd.ok ..) _ _) _ _) ?_ | (refine Cnd.mk (fun h => ?_) (fun h => ?_) <;> (first | exact cndT h (by (try dsimp only); omega) | exact cndF h (by (try dsimp only); omega) | (exfalso; simp at h; omega) | simp at h | skip)) | refine kp ?_ ?_ | refine tw ?_ ?_ | refine appnil rfl ?_ | refine rawnil rfl ?_ | exact trivial | refine side2 ?_ | refine sideL2 ?_ | refine Or.inr ?_ | refine xi _ (And.intro rfl rfl) ?_ | refine xi _ (fun _ => And.intro rfl rfl) ?_ | refine xi _ rfl ?_)
    refine done_inX fun w hw => ?_
    have gE := nest_fuseN (R := Text) [905, 903, 902] 903 (l := r.el ++ [ba r.pc]) (by rw [List.length_append]) hw rfl rfl (got_strs _)
    have gS' := (gS.fuse ne_stays [905, 903, 902] 905 hw rfl rfl).ext hS gE
    have gO' := (gO.fuse ns_stays [905, 903, 902] 905 hw rfl rfl).ext hO (nest_fuseN [905, 903, 902] 902 (by rw [List.length_append]; rfl) hw rfl rfl gS')
    have hmo : MemOk ⟨g, AO, cO, xsO ++ [hdS ⟨g, AO, cO, xsO, some p, cS, xsS, AE, cE, AP, cP, w0, gs, gi, Pi⟩ r], some p, cS, xsS, AE, cE, AP, cP, w, _, gi, Pi⟩ { r with out := r.out ++ [r.seg ++ [r.el ++ [ba r.pc]]], seg := [], el := [], pc := [], mode := 0 } := ⟨by rw [List.length_append, List.length_append, hO]; rfl, gO', fun h => absurd rfl h, fun h => absurd rfl h⟩
    refine ⟨_, ?_, hk _ hmo ⟨rfl, rfl, rfl⟩⟩
    have hf := hw.fuse_ 905 [905, 903, 902] rfl
    unfold stH btwH rdC
    dsimp only
    rw [if_pos rfl, List.length_append]
    exact hf.sub (hsub_of (by kernel_rfl))
  rw [if_neg c39] at hk
  by_cases hA : c = 43 ∧ r.seg.length = 29
  · rw [if_pos hA] at hk
    obtain ⟨rfl, hA⟩ := hA
    repeat' ((conv => whnf); first | refine walk (Tryd.ok ..) ?_ | refine walk (COk.with_ (Tryd.ok ..) _ _) ?_ | refine walk (COk.with_ (COk.with_ (Tryd.ok ..) _ _) _ _) ?_ | (refine Cnd.mk (fun h => ?_) (fun h => ?_) <;> (first | exact cndT h (by (try dsimp only); omega) | exact cndF h (by (try dsimp only); omega) | (exfalso; simp at h; omega) | simp at h | skip)) | refine kp ?_ ?_ | refine tw ?_ ?_ | refine appnil rfl ?_ | refine rawnil rfl ?_ | exact trivial | refine side2 ?_ | refine sideL2 ?_ | refine Or.inr ?_ | refine xi _ (And.intro rfl rfl) ?_ | refine xi _ (fun _ => And.intro rfl rfl) ?_ | refine xi _ rfl ?_ | refine xi _ (fun _ => (last_at hO (by omega))) ?_ | refine xi _ (last_at hO (by omega)) ?_)
    exact done_in hk
  rw [if_neg hA] at hk
  by_cases hB : c = 58 ∧ r.el.length = 9
  · rw [if_pos hB] at hk
    obtain ⟨rfl, hB⟩ := hB
    repeat' ((conv => whnf); first | refine walk (Tryd.ok ..) ?_ | refine walk (COk.with_ (Tryd.ok ..) _ _) ?_ | refine walk (COk.with_ (COk.with_ (Tryd.ok ..) _ _) _ _) ?_ | (refine Cnd.mk (fun h => ?_) (fun h => ?_) <;> (first | exact cndT h (by (try dsimp only); omega) | exact cndF h (by (try dsimp only); omega) | (exfalso; simp at h; omega) | simp at h | skip)) | refine kp ?_ ?_ | refine tw ?_ ?_ | refine appnil rfl ?_ | refine rawnil rfl ?_ | exact trivial | refine side2 ?_ | refine sideL2 ?_ | refine Or.inr ?_ | refine xi _ (And.intro rfl rfl) ?_ | refine xi _ (fun _ => And.intro rfl rfl) ?_ | refine xi _ rfl ?_ | refine xi _ (fun _ => (last_at hO (by omega))) ?_ | refine xi _ (last_at hO (by omega)) ?_ | refine xi _ (fun _ => (row_at (d := 902) fS rfl)) ?_ | refine xi _ (row_at (d := 902) fS rfl) ?_)
    exact done_in hk
  rw [if_neg hB] at hk
  by_cases c43 : c = 43
  · subst c43
    rw [if_pos rfl] at hk
    have hA2 : r.seg.length ≠ 29 := fun h => hA ⟨rfl, h⟩
    repeat' ((conv => whnf); first | refine walk (Tryd.ok ..) ?_ | refine walk (COk.with_ (Tryd.ok ..) _ _) ?_ | refine walk (COk.with_ (COk.with_ (Tryd.ok ..) _ _) _ _) ?_ | (refine Cnd.mk (fun h => ?_) (fun h => ?_) <;> (first | exact cndT h (by (try dsimp only); omega) | exact cndF h (by (try dsimp only); omega) | (exfalso; simp at h; omega) | simp at h | skip)) | refine kp ?_ ?_ | refine tw ?_ ?_ | refine appnil rfl ?_ | refine rawnil rfl ?_ | exact trivial | refine side2 ?_ | refine sideL2 ?_ | refine Or.inr ?_ | refine xi _ (And.intro rfl rfl) ?_ | refine xi _ (fun _ => And.intro rfl rfl) ?_ | refine xi _ rfl ?_ | refine xi _ (fun _ => (last_at hO (by omega))) ?_ | refine xi _ (last_at hO (by omega)) ?_ | refine xi _ (fun _ => (row_at (d := 902) fS rfl)) ?_ | refine xi _ (row_at (d := 902) fS rfl) ?_)
    refine close_called ⟨g, AO, cO, xsO, some p, cS, xsS, AE, cE, AP, cP, w0, gs, gi, Pi⟩ r _ true false i hr hO hS (fun A cap => ?_)
    repeat' ((conv => whnf); first | refine walk (Tryd.ok ..) ?_ | refine walk (COk.with_ (Tryd.ok ..) _ _) ?_ | refine walk (COk.with_ (COk.with_ (Tryd.ok ..) _ _) _ _) ?_ | (refine Cnd.mk (fun h => ?_) (fun h => ?_) <;> (first | exact cndT h (by (try dsimp only); omega) | exact cndF h (by (try dsimp only); omega) | (exfalso; simp at h; omega) | simp at h | skip)) | refine kp ?_ ?_ | refine tw ?_ ?_ | refine appnil rfl ?_ | refine rawnil rfl ?_ | exact trivial | refine side2 ?_ | refine sideL2 ?_ | refine Or.inr ?_ | refine xi _ (And.intro rfl rfl) ?_ | refine xi _ (fun _ => And.intro rfl rfl) ?_ | refine xi _ rfl ?_)
    refine sat_join0 (fun (s : Option (Nat × Nat) × Nat) => ([], [(900, .blk g 61 (rdC ⟨g, AO, cO, xsO, some p, cS, xsS, A, cap, AP, cP, w0, gs, gi, Pi⟩ (r.out.length + 1) { r with el := r.el ++ [ba r.pc], pc := [] } 50 true false i)), (901, .row AO 28 1 (r.out.length + 1) cO (xsO ++ [.slice (adr s.1) (r.seg.length + 1 + 1) s.2])), (902, .row s.1 25 1 (r.seg.length + 1 + 1) s.2 ((xsS ++ [.slice (adr A) (r.el ++ [ba r.pc]).length cap]) ++ [.slice none 0 0])), (903, .row A 9 1 (r.el ++ [ba r.pc]).length cap ((r.el ++ [ba r.pc]).map Value.string)), (904, .row AP 5 1 0 cP (uB [])), (905, .own gs (Frz w0 gs)), (906, .own gi Pi)])) (fun _ => True) (fun _ => rfl) ?_ ?_
    · refine sat_draw (COk.with_ (Tryd.ok ..) _ _) [20, 21, 24] [(900, .blk g 61 (rdC ⟨g, AO, cO, xsO, some p, cS, xsS, A, cap, AP, cP, w0, gs, gi, Pi⟩ (r.out.length + 1) { r with el := r.el ++ [ba r.pc], pc := [] } 50 true false i))] (by kernel_rfl) (fun w hw => hw.sub ?_) ?_
      · ((repeat' (first | exact trivial | exact rfl | refine And.intro ?_ ?_)) <;> (try (conv => whnf)) <;> (try simp only [SV.real, SV.r2, SV.r1]))
      repeat' ((conv => whnf); first | refine walk (Tryd.ok ..) ?_ | refine walk (COk.with_ (Tryd.ok ..) _ _) ?_ | refine walk (COk.with_ (COk.with_ (Tryd.ok ..) _ _) _ _) ?_ | (refine Cnd.mk (fun h => ?_) (fun h => ?_) <;> (first | exact cndT h (by (try dsimp only); omega) | exact cndF h (by (try dsimp only); omega) | (exfalso; simp at h; omega) | simp at h | skip)) | refine kp ?_ ?_ | refine tw ?_ ?_ | refine appnil rfl ?_ | refine rawnil rfl ?_ | exact trivial | refine side2 ?_ | refine sideL2 ?_ | refine Or.inr ?_ | refine xi _ (And.intro rfl rfl) ?_ | refine xi _ (fun _ => And.intro rfl rfl) ?_ | refine xi _ rfl ?_ | refine xi _ (fun _ => (last_at hO (by omega))) ?_ | refine xi _ (last_at hO (by omega)) ?_ | intro g hg | (refine appat (.o 902 (some p) (r.seg.length + 1) cS) rfl ?_) | (intro A2 c2) | (refine And.intro (lt_last hO (by omega)) ?_))
      all_goals refine ⟨(g, hg), trivial, by ((repeat' (first | exact trivial | exact rfl | refine And.intro ?_ ?_)) <;> (try (conv => whnf)) <;> (try simp only [SV.real, SV.r2, SV.r1])), ?_, rfl⟩
      all_goals ((repeat' (first | exact trivial | exact rfl | refine And.intro ?_ ?_)) <;> (try (conv => whnf)) <;> (try simp only [SV.real, SV.r2, SV.r1]))
      all_goals exact set_last hO (by omega)
    rintro ⟨A2, c2⟩ -
    repeat' ((conv => whnf); first | refine walk (Tryd.ok ..) ?_ | refine walk (COk.with_ (Tryd.ok ..) _ _) ?_ | refine walk (COk.with_ (COk.with_ (Tryd.ok ..) _ _) _ _) ?_ | (refine Cnd.mk (fun h => ?_) (fun h => ?_) <;> (first | exact cndT h (by (try dsimp only); omega) | exact cndF h (by (try dsimp only); omega) | (exfalso; simp at h; omega) | simp at h | skip)) | refine kp ?_ ?_ | refine tw ?_ ?_ | refine appnil rfl ?_ | refine rawnil rfl ?_ | exact trivial | refine side2 ?_ | refine sideL2 ?_ | refine Or.inr ?_ | refine xi _ (And.intro rfl rfl) ?_ | refine xi _ (fun _ => And.intro rfl rfl) ?_ | refine xi _ rfl ?_)
    refine done_inX fun w hw => ?_
    have gE := nest_fuseN (R := Text) [905, 903] 903 (l := r.el ++ [ba r.pc]) rfl hw rfl rfl (got_strs _)
    have gS' := (gS.fuse ne_stays [905, 903] 905 hw rfl rfl).ext hS gE
    have gO' := gO.fuse ns_stays [905, 903] 905 hw rfl rfl
    have hmo : MemOk ⟨g, AO, cO, xsO, A2, c2, xsS ++ [.slice (adr A) (r.el ++ [ba r.pc]).length cap], none, 0, AP, cP, w, _, gi, Pi⟩ { r with seg := r.seg ++ [r.el ++ [ba r.pc]], el := [], pc := [], mode := 1 } := ⟨hO, gO', fun _ => (by simp [hS]), fun _ => gS'⟩
    refine ⟨_, ?_, hk _ hmo ⟨rfl, rfl, rfl⟩⟩
    have hf := hw.fuse_ 905 [905, 903] rfl
    unfold stH insH rdC hdS hdE
    dsimp only
    rw [if_neg (by decide), if_pos rfl]
    refine hf.sub ?_
    have hsl : (r.seg ++ [r.el ++ [ba r.pc]]).length = r.seg.length + 1 := by simp
    rw [hsl]
    ((repeat' (first | exact trivial | exact rfl | refine And.intro ?_ ?_)) <;> (try (conv => whnf)) <;> (try simp only [SV.real, SV.r2, SV.r1]))
  rw [if_neg c43] at hk
  by_cases c58 : c = 58
  · subst c58
    rw [if_pos rfl] at hk
    have hB2 : r.el.length ≠ 9 := fun h => hB ⟨rfl, h⟩
    repeat' ((conv => whnf); first | refine walk (Tryd.ok ..) ?_ | refine walk (COk.with_ (Tryd.ok ..) _ _) ?_ | refine walk (COk.with_ (COk.with_ (Tryd.ok ..) _ _) _ _) ?_ | (refine Cnd.mk (fun h => ?_) (fun h => ?_) <;> (first | exact cndT h (by (try dsimp only); omega) | exact cndF h (by (try dsimp only); omega) | (exfalso; simp at h; omega) | simp at h | skip)) | refine kp ?_ ?_ | refine tw ?_ ?_ | refine appnil rfl ?_ | refine rawnil rfl ?_ | exact trivial | refine side2 ?_ | refine sideL2 ?_ | refine Or.inr ?_ | refine xi _ (And.intro rfl rfl) ?_ | refine xi _ (fun _ => And.intro rfl rfl) ?_ | refine xi _ rfl ?_ | refine xi _ (fun _ => (last_at hO (by omega))) ?_ | refine xi _ (last_at hO (by omega)) ?_ | refine xi _ (fun _ => (row_at (d := 902) fS rfl)) ?_ | refine xi _ (row_at (d := 902) fS rfl) ?_)
    refine close_called ⟨g, AO, cO, xsO, some p, cS, xsS, AE, cE, AP, cP, w0, gs, gi, Pi⟩ r _ true false i hr hO hS (fun A cap => ?_)
    repeat' ((conv => whnf); first | refine walk (Tryd.ok ..) ?_ | refine walk (COk.with_ (Tryd.ok ..) _ _) ?_ | refine walk (COk.with_ (COk.with_ (Tryd.ok ..) _ _) _ _) ?_ | (refine Cnd.mk (fun h => ?_) (fun h => ?_) <;> (first | exact cndT h (by (try dsimp only); omega) | exact cndF h (by (try dsimp only); omega) | (exfalso; simp at h; omega) | simp at h | skip)) | refine kp ?_ ?_ | refine tw ?_ ?_ | refine appnil rfl ?_ | refine rawnil rfl ?_ | exact trivial | refine side2 ?_ | refine sideL2 ?_ | refine Or.inr ?_ | refine xi _ (And.intro rfl rfl) ?_ | refine xi _ (fun _ => And.intro rfl rfl) ?_ | refine xi _ rfl ?_)
    refine done_in (hk ⟨g, AO, cO, xsO, some p, cS, xsS, A, cap, AP, cP, w0, gs, gi, Pi⟩ ⟨hO, gO, fun _ => hS, fun _ => gS⟩ ⟨rfl, rfl, rfl⟩)
  rw [if_neg c58] at hk
  by_cases cB : c < 32 ∨ 126 < c
  · rw [if_pos cB] at hk
    repeat' ((conv => whnf); first | refine walk (Tryd.ok ..) ?_ | refine walk (COk.with_ (Tryd.ok ..) _ _) ?_ | refine walk (COk.with_ (COk.with_ (Tryd.ok ..) _ _) _ _) ?_ | (refine Cnd.mk (fun h => ?_) (fun h => ?_) <;> (first | exact cndT h (by (try dsimp only); omega) | exact cndF h (by (try dsimp only); omega) | (exfalso; simp at h; omega) | simp at h | skip)) | refine kp ?_ ?_ | refine tw ?_ ?_ | refine appnil rfl ?_ | refine rawnil rfl ?_ | exact trivial | refine side2 ?_ | refine sideL2 ?_ | refine Or.inr ?_ | refine xi _ (And.intro rfl rfl) ?_ | refine xi _ (fun _ => And.intro rfl rfl) ?_ | refine xi _ rfl ?_ | refine xi _ (fun _ => (last_at hO (by omega))) ?_ | refine xi _ (last_at hO (by omega)) ?_ | refine xi _ (fun _ => (row_at (d := 902) fS rfl)) ?_ | refine xi _ (row_at (d := 902) fS rfl) ?_)
    exact done_in hk
  rw [if_neg cB] at hk
  by_cases c63 : c = 63
  · subst c63
    rw [if_pos rfl] at hk
    repeat' ((conv => whnf); first | refine walk (Tryd.ok ..) ?_ | refine walk (COk.with_ (Tryd.ok ..) _ _) ?_ | refine walk (COk.with_ (COk.with_ (Tryd.ok ..) _ _) _ _) ?_ | (refine Cnd.mk (fun h => ?_) (fun h => ?_) <;> (first | exact cndT h (by (try dsimp only); omega) | exact cndF h (by (try dsimp only); omega) | (exfalso; simp at h; omega) | simp at h | skip)) | refine kp ?_ ?_ | refine tw ?_ ?_ | refine appnil rfl ?_ | refine rawnil rfl ?_ | exact trivial | refine side2 ?_ | refine sideL2 ?_ | refine Or.inr ?_ | refine xi _ (And.intro rfl rfl) ?_ | refine xi _ (fun _ => And.intro rfl rfl) ?_ | refine xi _ rfl ?_ | refine xi _ (fun _ => (last_at hO (by omega))) ?_ | refine xi _ (last_at hO (by omega)) ?_ | refine xi _ (fun _ => (row_at (d := 902) fS rfl)) ?_ | refine xi _ (row_at (d := 902) fS rfl) ?_)
    refine done_in (hk ⟨g, AO, cO, xsO, some p, cS, xsS, AE, cE, AP, cP, w0, gs, gi, Pi⟩ ⟨hO, gO, fun _ => hS, fun _ => gS⟩ ⟨rfl, rfl, rfl⟩)
  rw [if_neg c63] at hk
  unfold keepE at hk
  repeat' ((conv => whnf); first | refine walk (Tryd.ok ..) ?_ | refine walk (COk.with_ (Tryd.ok ..) _ _) ?_ | refine walk (COk.with_ (COk.with_ (Tryd.ok ..) _ _) _ _) ?_ | (refine Cnd.mk (fun h => ?_) (fun h => ?_) <;> (first | exact cndT h (by (try dsimp only); omega) | exact cndF h (by (try dsimp only); omega) | (exfalso; simp at h; omega) | simp at h | skip)) | refine kp ?_ ?_ | refine tw ?_ ?_ | refine appnil rfl ?_ | refine rawnil rfl ?_ | exact trivial | refine side2 ?_ | refine sideL2 ?_ | refine Or.inr ?_ | refine xi _ (And.intro rfl rfl) ?_ | refine xi _ (fun _ => And.intro rfl rfl) ?_ | refine xi _ rfl ?_ | refine xi _ (fun _ => (last_at hO (by omega))) ?_ | refine xi _ (last_at hO (by omega)) ?_ | refine xi _ (fun _ => (row_at (d := 902) fS rfl)) ?_ | refine xi _ (row_at (d := 902) fS rfl) ?_)
  refine keep_called ⟨g, AO, cO, xsO, some p, cS, xsS, AE, cE, AP, cP, w0, gs, gi, Pi⟩ r _ true false i c h4 ⟨hc, by omega⟩ (fun h => ?_) (fun h A cap => ?_)
  · rw [if_pos h] at hk
    repeat' ((conv => whnf); first | refine walk (Tryd.ok ..) ?_ | refine walk (COk.with_ (Tryd.ok ..) _ _) ?_ | refine walk (COk.with_ (COk.with_ (Tryd.ok ..) _ _) _ _) ?_ | (refine Cnd.mk (fun h => ?_) (fun h => ?_) <;> (first | exact cndT h (by (try dsimp only); omega) | exact cndF h (by (try dsimp only); omega) | (exfalso; simp at h; omega) | simp at h | skip)) | refine kp ?_ ?_ | refine tw ?_ ?_ | refine appnil rfl ?_ | refine rawnil rfl ?_ | exact trivial | refine side2 ?_ | refine sideL2 ?_ | refine Or.inr ?_ | refine xi _ (And.intro rfl rfl) ?_ | refine xi _ (fun _ => And.intro rfl rfl) ?_ | refine xi _ rfl ?_)
    exact done_in hk
  · rw [if_neg h] at hk
    repeat' ((conv => whnf); first | refine walk (Tryd.ok ..) ?_ | refine walk (COk.with_ (Tryd.ok ..) _ _) ?_ | refine walk (COk.with_ (COk.with_ (Tryd.ok ..) _ _) _ _) ?_ | (refine Cnd.mk (fun h => ?_) (fun h => ?_) <;> (first | exact cndT h (by (try dsimp only); omega) | exact cndF h (by (try dsimp only); omega) | (exfalso; simp at h; omega) | simp at h | skip)) | refine kp ?_ ?_ | refine tw ?_ ?_ | refine appnil rfl ?_ | refine rawnil rfl ?_ | exact trivial | refine side2 ?_ | refine sideL2 ?_ | refine Or.inr ?_ | refine xi _ (And.intro rfl rfl) ?_ | refine xi _ (fun _ => And.intro rfl rfl) ?_ | refine xi _ rfl ?_)
    refine done_in (hk ⟨g, AO, cO, xsO, some p, cS, xsS, AE, cE, A, cap, w0, gs, gi, Pi⟩ ⟨hO, gO, fun _ => hS, fun _ => gS⟩ ⟨rfl, rfl, rfl⟩)
end Go.Proofs.YtdejcgmaphmjbaaDoor
