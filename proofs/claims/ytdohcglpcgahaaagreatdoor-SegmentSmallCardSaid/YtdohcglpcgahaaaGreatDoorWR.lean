/-
  The walks of the reader's methods: a byte is kept, a component ends. The walk of the reader's method for a byte of a segment. The walks of the reader's methods for a byte between segments, and behind a question mark.
-/
import Derived.Test.YtdohcglpcgahaaaGreatDoorRX
import Derived.Test.YtdohcglpcgahaaaGreatDoorW1
import Derived.Test.YtdohcglpcgahaaaGreatDoorSH
set_option linter.unusedSimpArgs false
set_option linter.unusedVariables false
namespace Go.Proofs.YtdohcglpcgahaaaGreatDoor
section
open Go Sat Go.RowKit Go.PlainAid
/-- where the reader's lists lie -/
structure Mem where
  g : Nat
  AO : Option (Nat × Nat)
  cO : Nat
  xsO : List Value
  AS : Option (Nat × Nat)
  cS : Nat
  xsS : List Value
  AE : Option (Nat × Nat)
  cE : Nat
  AP : Option (Nat × Nat)
  cP : Nat
  w0 : World
  gs : List Nat
  gi : List Nat
  Pi : World → Prop
def hdS (m : Mem) (r : Rd) : Value := .slice (adr m.AS) (r.seg.length + 1) m.cS
def hdE (m : Mem) (r : Rd) : Value := .slice (adr m.AE) r.el.length m.cE
def rdC (m : Mem) (nO : Nat) (r : Rd) (F : Nat) (op wt : Bool) (at' : Int) : List SV := [.o 901 m.AO nO m.cO, .fn (Fn.func F) [.p 900 m.g 0 0] [], .o 904 m.AP r.pc.length m.cP, .v (.bool op), .v (.bool wt), .v (.int .i64 at'), .v (.int .i64 r.mark)]
def insH (m : Mem) (r : Rd) (F : Nat) (op wt : Bool) (at' : Int) : Heap :=
  [(900, .blk m.g 108 (rdC m (r.out.length + 1) r F op wt at')), (901, .row m.AO 54 1 (r.out.length + 1) m.cO (m.xsO ++ [hdS m r])), (902, .row m.AS 22 1 (r.seg.length + 1) m.cS (m.xsS ++ [hdE m r])),
   (903, .row m.AE 9 1 r.el.length m.cE (r.el.map Value.string)), (904, .row m.AP 5 1 r.pc.length m.cP (uB r.pc)), (905, .own m.gs (Frz m.w0 m.gs)), (906, .own m.gi m.Pi)]
def btwH (m : Mem) (r : Rd) (F : Nat) (op wt : Bool) (at' : Int) : Heap :=
  [(900, .blk m.g 108 (rdC m r.out.length r F op wt at')), (901, .row m.AO 54 1 r.out.length m.cO m.xsO), (904, .row m.AP 5 1 r.pc.length m.cP (uB r.pc)), (905, .own m.gs (Frz m.w0 m.gs)), (906, .own m.gi m.Pi)]
theorem uB_snoc (l : List UInt8) {c : Int} (h : 0 ≤ c ∧ c < 256) : uB (l ++ [chr c]) = uB l ++ [.int .u8 c] := by
  unfold uB chr
  rw [List.map_append]
  simp only [List.map_cons, List.map_nil]
  congr 3
  simp
  omega
set_option maxRecDepth 100000 in
set_option maxHeartbeats 8000000 in
theorem keep_called {N n0 : Nat} {W : World} {K : SV → Heap → Prop} (m : Mem) (r : Rd) (F : Nat) (op wt : Bool) (at' c : Int) (hp : r.pc.length ≤ 100) (hc : 0 ≤ c ∧ c < 256)
    (h1 : r.pc.length = 100 → K (.v (.int .i64 3)) (insH m r F op wt at'))
    (h2 : r.pc.length ≠ 100 → ∀ A cap, K (.v (.int .i64 0)) (insH { m with AP := A, cP := cap } { r with pc := r.pc ++ [chr c] } F op wt at')) :
    Called (Tryz.cxg N [] [] [] n0 [] W) 95 [.p 900 m.g 0 0, .v (.int .i32 c)] (insH m r F op wt at') K := by
  refine called_in (Tryz.ok ..) Tryz.func95 rfl (by show 2 ≤ 22; omega) ?_
  unfold insH rdC
  have e1 := uB_snoc r.pc hc
  repeat' ((conv => whnf); first | refine walk (Tryz.ok ..) ?_ | (refine Cnd.mk (fun h => ?_) (fun h => ?_) <;> (first | exact cndT h (by (try dsimp only); omega) | exact cndF h (by (try dsimp only); omega) | (exfalso; simp at h; omega) | simp at h | skip)) | refine side2 ?_ | refine sideL2 ?_ | refine xi _ (And.intro rfl rfl) ?_ | fail)
  · exact done_in (h1 (by omega))
  · (conv => whnf)
    intro g18 hg18
    repeat' ((conv => whnf); first | refine side2 ?_ | refine Or.inr ?_ | fail)
    (conv => whnf)
    intro A2 cap2
    repeat' ((conv => whnf); first | refine walk (Tryz.ok ..) ?_ | refine side2 ?_ | fail)
    have k := h2 (by omega) A2 cap2
    unfold insH rdC at k
    dsimp only at k
    rw [e1, List.length_append] at k
    exact done_inL _ rfl k
set_option maxRecDepth 100000 in
set_option maxHeartbeats 8000000 in
theorem close_called {N n0 : Nat} {W : World} {K : SV → Heap → Prop} (m : Mem) (r : Rd) (F : Nat) (op wt : Bool) (at' : Int) (hr : RdOk r) (hO : m.xsO.length = r.out.length) (hS : m.xsS.length = r.seg.length)
    (hk : ∀ A cap, K (.t []) (insH { m with AE := A, cE := cap } { r with el := r.el ++ [ba r.pc], pc := [] } F op wt at')) :
    Called (Tryz.cxg N [] [] [] n0 [] W) 93 [.p 900 m.g 0 0] (insH m r F op wt at') K := by
  refine called_in (Tryz.ok ..) Tryz.func93 rfl (by show 1 ≤ 41; omega) ?_
  obtain ⟨h1, h2, h3, h4⟩ := hr
  unfold insH rdC
  repeat' ((conv => whnf); first | refine walk (Tryz.ok ..) ?_ | refine side2 ?_ | refine sideL2 ?_ | refine xi _ (And.intro rfl rfl) ?_ | refine xi _ (last_at hO (by omega)) ?_ | fail)
  refine sat_to ([(0, .yes, .p 900 m.g 0 0), (2, .yes, .o 902 m.AS (r.seg.length + 1) m.cS)], [(900, .blk m.g 108 (rdC m (r.out.length + 1) r F op wt at')), (901, .row m.AO 54 1 (r.out.length + 1) m.cO (m.xsO ++ [hdS m r])), (902, .row m.AS 22 1 (r.seg.length + 1) m.cS (m.xsS ++ [hdE m r])),
   (903, .row m.AE 9 1 r.el.length m.cE (r.el.map Value.string)), (904, .row m.AP 5 1 r.pc.length m.cP (uB r.pc)), (905, .own m.gs (Frz m.w0 m.gs)), (906, .own m.gi m.Pi)]) rfl ?_ ?_ rfl ?_
  · ((repeat' (first | exact trivial | exact rfl | refine And.intro ?_ ?_)) <;> (try (conv => whnf)) <;> (try simp only [SV.real, SV.r2, SV.r1]))
  · ((repeat' (first | exact trivial | exact rfl | refine And.intro ?_ ?_)) <;> (try (conv => whnf)) <;> (try simp only [SV.real, SV.r2, SV.r1]))
  unfold rdC
  refine sat_join0 (fun (s : Option (Nat × Nat) × Nat) => ([(0, .yes, .p 900 m.g 0 0)], [(900, .blk m.g 108 (rdC m (r.out.length + 1) r F op wt at')), (901, .row m.AO 54 1 (r.out.length + 1) m.cO (m.xsO ++ [hdS m r])), (902, .row m.AS 22 1 (r.seg.length + 1) m.cS (m.xsS ++ [.slice (adr s.1) (r.el.length + 1) s.2])),
   (903, .row s.1 9 1 (r.el.length + 1) s.2 (r.el.map Value.string ++ [.string (ba r.pc)])), (904, .row m.AP 5 1 r.pc.length m.cP (uB r.pc)), (905, .own m.gs (Frz m.w0 m.gs)), (906, .own m.gi m.Pi)])) (fun _ => True) (fun _ => rfl) ?_ ?_
  · refine sat_draw (COk.with_ (Tryz.ok ..) _ _) [8, 9, 17] [(900, .blk m.g 108 (rdC m (r.out.length + 1) r F op wt at')), (904, .row m.AP 5 1 r.pc.length m.cP (uB r.pc))] (by kernel_rfl) (fun w hw => hw.sub ?_) ?_
    · ((repeat' (first | exact trivial | exact rfl | refine And.intro ?_ ?_)) <;> (try (conv => whnf)) <;> (try simp only [SV.real, SV.r2, SV.r1]))
    have hs := strOf_ba r.pc
    have hub : ∀ (j : Nat) (u : Value), ((r.pc.map fun b => (b.toNat : Int)).map (Value.int .u8))[j]? = some u → (uB r.pc)[j]? = some u := fun j u h => by unfold uB; rw [List.map_map] at h; exact h
    have hul : r.pc.length = (r.pc.map fun b => (b.toNat : Int)).length := by rw [List.length_map]
    unfold rdC
    repeat' ((conv => whnf); first | refine kp ?_ ?_ | refine tw ?_ ?_ | exact trivial | refine side2 ?_ | refine sideL2 ?_ | refine Or.inr ?_ | refine xi _ (And.intro rfl rfl) ?_ | refine xi _ (last_at hS (by omega)) ?_ | refine xi _ (And.intro hul hub) ?_ | intro g hg | (refine appat (.o 903 m.AE r.el.length m.cE) rfl ?_) | (refine And.intro (lt_last hS (by omega)) ?_) | fail)
    all_goals refine ⟨(g, hg), trivial, by ((repeat' (first | exact trivial | exact rfl | refine And.intro ?_ ?_)) <;> (try (conv => whnf)) <;> (try simp only [SV.real, SV.r2, SV.r1])), ?_, rfl⟩
    all_goals ((repeat' (first | exact trivial | exact rfl | refine And.intro ?_ ?_)) <;> (try (conv => whnf)) <;> (try simp only [SV.real, SV.r2, SV.r1]))
    all_goals first | exact set_last hS (by omega) | exact congrArg (fun s => r.el.map Value.string ++ [Value.string s]) hs
  rintro ⟨A2, c2⟩ -
  unfold rdC
  repeat' ((conv => whnf); first | refine walk (Tryz.ok ..) ?_ | refine side2 ?_ | refine xi _ (And.intro rfl rfl) ?_ | fail)
  have k := hk A2 c2
  unfold insH rdC hdE at k
  dsimp only at k
  rw [List.length_append, List.map_append] at k
  refine done_inW _ (fun w hw => ?_) k
  have hw2 := hw.cut_ (id := 904) rfl 0 (Nat.zero_le _)
  exact hw2.sub (hsub_of (by kernel_rfl))
end
section
open Go Sat Go.RowKit Go.PlainAid
structure MemOk (m : Mem) (r : Rd) : Prop where
  lO : m.xsO.length = r.out.length
  gO : Got NS m.w0 m.gs m.xsO r.out
  lS : r.mode ≠ 0 → m.xsS.length = r.seg.length
  gS : r.mode ≠ 0 → Got NE m.w0 m.gs m.xsS r.seg
/-- the heap of a state, the method of the next byte beside it -/
def stH (m : Mem) (r : Rd) (at' : Int) : Heap := if r.mode = 0 then btwH m r 57 false false at' else if r.mode = 1 then insH m r 79 true false at' else insH m r 94 true true at'
def InsK (m : Mem) (K : SV → Heap → Prop) (i : Int) (r : Rd) : Step → Prop
  | .error e => K (.v (.int .i64 e.2)) (insH m r 79 true false i)
  | .ok r' => ∀ m' : Mem, MemOk m' r' → m'.g = m.g ∧ m'.gi = m.gi ∧ m'.Pi = m.Pi → K (.v (.int .i64 0)) (stH m' r' i)
set_option maxRecDepth 100000 in
set_option maxHeartbeats 8000000 in
theorem inside_called {N n0 : Nat} {W : World} {K : SV → Heap → Prop} (m : Mem) (r : Rd) (i c : Int) (hr : RdOk r) (hm1 : r.mode = 1) (hm : MemOk m r) (hc : 0 ≤ c) (hk : InsK m K i r (insE r i c)) :
    Called (Tryz.cxg N [] [] [] n0 [] W) 79 [.p 900 m.g 0 0, .v (.int .i32 c)] (insH m r 79 true false i) K := by
  refine called_fact 902 rfl fun hcap hsome => ?_
  obtain ⟨p, hp⟩ := hsome (Nat.succ_pos _)
  obtain ⟨g, AO, cO, xsO, AS, cS, xsS, AE, cE, AP, cP, w0, gs, gi, Pi⟩ := m
  dsimp only at hp
  subst hp
  refine called_in (Tryz.ok ..) Tryz.func79 rfl (by show 2 ≤ 114; omega) ?_
  obtain ⟨h1, h2, h3, h4⟩ := id hr
  have hO : xsO.length = r.out.length := hm.lO
  have hS : xsS.length = r.seg.length := hm.lS (by omega)
  have gO : Got NS w0 gs xsO r.out := hm.gO
  have gS : Got NE w0 gs xsS r.seg := hm.gS (by omega)
  unfold insE at hk
  have fS := last_at (x := hdE ⟨g, AO, cO, xsO, some p, cS, xsS, AE, cE, AP, cP, w0, gs, gi, Pi⟩ r) hS (i := ((r.seg.length + 1 : Nat) : Int) - 1) (by omega)
  by_cases c39 : c = 39
  · subst c39
    rw [if_pos rfl] at hk
    repeat' ((conv => whnf); first | refine walk (Tryz.ok ..) ?_ | (refine Cnd.mk (fun h => ?_) (fun h => ?_) <;> (first | exact cndT h (by (try dsimp only); omega) | exact cndF h (by (try dsimp only); omega) | (exfalso; simp at h; omega) | simp at h | skip)) | refine side2 ?_ | refine sideL2 ?_ | refine xi _ (And.intro rfl rfl) ?_ | refine xi _ (last_at hO (by omega)) ?_ | fail)
    refine close_called ⟨g, AO, cO, xsO, some p, cS, xsS, AE, cE, AP, cP, w0, gs, gi, Pi⟩ r _ true false i hr hO hS (fun A cap => ?_)
    repeat' ((conv => whnf); first | refine walk (Tryz.ok ..) ?_ | refine side2 ?_ | fail)
    refine done_inX fun w hw => ?_
    have gE := nest_fuseN (R := Text) [905, 903, 902] 903 (l := r.el ++ [ba r.pc]) (by rw [List.length_append]) hw rfl rfl (got_strs _)
    have gS' := (gS.fuse ne_stays [905, 903, 902] 905 hw rfl rfl).ext hS gE
    have gO' := (gO.fuse ns_stays [905, 903, 902] 905 hw rfl rfl).ext hO (nest_fuseN [905, 903, 902] 902 (by rw [List.length_append]; rfl) hw rfl rfl gS')
    have hmo : MemOk ⟨g, AO, cO, xsO ++ [hdS ⟨g, AO, cO, xsO, some p, cS, xsS, AE, cE, AP, cP, w0, gs, gi, Pi⟩ r], some p, cS, xsS, AE, cE, AP, cP, w, _, gi, Pi⟩ { r with out := r.out ++ [r.seg ++ [r.el ++ [ba r.pc]]], seg := [], el := [], pc := [], mode := 0 } := ⟨by rw [List.length_append, List.length_append, hO]; rfl, gO', fun h => absurd rfl h, fun h => absurd rfl h⟩
    refine ⟨_, ?_, hk _ hmo ⟨rfl, rfl, rfl⟩⟩
    have hf := hw.fuse_ 905 [905, 903, 902] rfl
    unfold stH btwH rdC
    dsimp only
    rw [if_pos rfl, List.length_append]
    exact hf.sub (hsub_of (by kernel_rfl))
  rw [if_neg c39] at hk
  by_cases hA : c = 43 ∧ r.seg.length = 29
  · rw [if_pos hA] at hk
    obtain ⟨rfl, hA⟩ := hA
    repeat' ((conv => whnf); first | refine walk (Tryz.ok ..) ?_ | (refine Cnd.mk (fun h => ?_) (fun h => ?_) <;> (first | exact cndT h (by (try dsimp only); omega) | exact cndF h (by (try dsimp only); omega) | (exfalso; simp at h; omega) | simp at h | skip)) | refine side2 ?_ | refine sideL2 ?_ | refine xi _ (And.intro rfl rfl) ?_ | refine xi _ (last_at hO (by omega)) ?_ | fail)
    exact done_in hk
  rw [if_neg hA] at hk
  by_cases hB : c = 58 ∧ r.el.length = 9
  · rw [if_pos hB] at hk
    obtain ⟨rfl, hB⟩ := hB
    repeat' ((conv => whnf); first | refine walk (Tryz.ok ..) ?_ | (refine Cnd.mk (fun h => ?_) (fun h => ?_) <;> (first | exact cndT h (by (try dsimp only); omega) | exact cndF h (by (try dsimp only); omega) | (exfalso; simp at h; omega) | simp at h | skip)) | refine side2 ?_ | refine sideL2 ?_ | refine xi _ (And.intro rfl rfl) ?_ | refine xi _ (last_at hO (by omega)) ?_ | refine xi _ (fun _ => (row_at (d := 902) fS rfl)) ?_ | fail)
    exact done_in hk
  rw [if_neg hB] at hk
  by_cases c43 : c = 43
  · subst c43
    rw [if_pos rfl] at hk
    have hA2 : r.seg.length ≠ 29 := fun h => hA ⟨rfl, h⟩
    repeat' ((conv => whnf); first | refine walk (Tryz.ok ..) ?_ | (refine Cnd.mk (fun h => ?_) (fun h => ?_) <;> (first | exact cndT h (by (try dsimp only); omega) | exact cndF h (by (try dsimp only); omega) | (exfalso; simp at h; omega) | simp at h | skip)) | refine side2 ?_ | refine sideL2 ?_ | refine xi _ (And.intro rfl rfl) ?_ | refine xi _ (last_at hO (by omega)) ?_ | refine xi _ (fun _ => (row_at (d := 902) fS rfl)) ?_ | fail)
    refine close_called ⟨g, AO, cO, xsO, some p, cS, xsS, AE, cE, AP, cP, w0, gs, gi, Pi⟩ r _ true false i hr hO hS (fun A cap => ?_)
    repeat' ((conv => whnf); first | refine walk (Tryz.ok ..) ?_ | fail)
    refine sat_join0 (fun (s : Option (Nat × Nat) × Nat) => ([], [(900, .blk g 108 (rdC ⟨g, AO, cO, xsO, some p, cS, xsS, A, cap, AP, cP, w0, gs, gi, Pi⟩ (r.out.length + 1) { r with el := r.el ++ [ba r.pc], pc := [] } 79 true false i)), (901, .row AO 54 1 (r.out.length + 1) cO (xsO ++ [.slice (adr s.1) (r.seg.length + 1 + 1) s.2])), (902, .row s.1 22 1 (r.seg.length + 1 + 1) s.2 ((xsS ++ [.slice (adr A) (r.el ++ [ba r.pc]).length cap]) ++ [.slice none 0 0])), (903, .row A 9 1 (r.el ++ [ba r.pc]).length cap ((r.el ++ [ba r.pc]).map Value.string)), (904, .row AP 5 1 0 cP (uB [])), (905, .own gs (Frz w0 gs)), (906, .own gi Pi)])) (fun _ => True) (fun _ => rfl) ?_ ?_
    · refine sat_draw (COk.with_ (Tryz.ok ..) _ _) [20, 21, 24] [(900, .blk g 108 (rdC ⟨g, AO, cO, xsO, some p, cS, xsS, A, cap, AP, cP, w0, gs, gi, Pi⟩ (r.out.length + 1) { r with el := r.el ++ [ba r.pc], pc := [] } 79 true false i))] (by kernel_rfl) (fun w hw => hw.sub ?_) ?_
      · ((repeat' (first | exact trivial | exact rfl | refine And.intro ?_ ?_)) <;> (try (conv => whnf)) <;> (try simp only [SV.real, SV.r2, SV.r1]))
      repeat' ((conv => whnf); first | refine kp ?_ ?_ | refine tw ?_ ?_ | exact trivial | refine side2 ?_ | refine sideL2 ?_ | refine Or.inr ?_ | refine xi _ (And.intro rfl rfl) ?_ | refine xi _ (last_at hO (by omega)) ?_ | intro g hg | (refine appat (.o 902 (some p) (r.seg.length + 1) cS) rfl ?_) | (refine And.intro (lt_last hO (by omega)) ?_) | fail)
      all_goals refine ⟨(g, hg), trivial, by ((repeat' (first | exact trivial | exact rfl | refine And.intro ?_ ?_)) <;> (try (conv => whnf)) <;> (try simp only [SV.real, SV.r2, SV.r1])), ?_, rfl⟩
      all_goals ((repeat' (first | exact trivial | exact rfl | refine And.intro ?_ ?_)) <;> (try (conv => whnf)) <;> (try simp only [SV.real, SV.r2, SV.r1]))
      all_goals exact set_last hO (by omega)
    rintro ⟨A2, c2⟩ -
    repeat' ((conv => whnf); first | refine walk (Tryz.ok ..) ?_ | fail)
    refine done_inX fun w hw => ?_
    have gE := nest_fuseN (R := Text) [905, 903] 903 (l := r.el ++ [ba r.pc]) rfl hw rfl rfl (got_strs _)
    have gS' := (gS.fuse ne_stays [905, 903] 905 hw rfl rfl).ext hS gE
    have gO' := gO.fuse ns_stays [905, 903] 905 hw rfl rfl
    have hmo : MemOk ⟨g, AO, cO, xsO, A2, c2, xsS ++ [.slice (adr A) (r.el ++ [ba r.pc]).length cap], none, 0, AP, cP, w, _, gi, Pi⟩ { r with seg := r.seg ++ [r.el ++ [ba r.pc]], el := [], pc := [], mode := 1 } := ⟨hO, gO', fun _ => (by simp [hS]), fun _ => gS'⟩
    refine ⟨_, ?_, hk _ hmo ⟨rfl, rfl, rfl⟩⟩
    have hf := hw.fuse_ 905 [905, 903] rfl
    unfold stH insH rdC hdS hdE
    dsimp only
    rw [if_neg (by decide), if_pos rfl]
    refine hf.sub ?_
    have hsl : (r.seg ++ [r.el ++ [ba r.pc]]).length = r.seg.length + 1 := by simp
    rw [hsl]
    ((repeat' (first | exact trivial | exact rfl | refine And.intro ?_ ?_)) <;> (try (conv => whnf)) <;> (try simp only [SV.real, SV.r2, SV.r1]))
  rw [if_neg c43] at hk
  by_cases c58 : c = 58
  · subst c58
    rw [if_pos rfl] at hk
    have hB2 : r.el.length ≠ 9 := fun h => hB ⟨rfl, h⟩
    repeat' ((conv => whnf); first | refine walk (Tryz.ok ..) ?_ | (refine Cnd.mk (fun h => ?_) (fun h => ?_) <;> (first | exact cndT h (by (try dsimp only); omega) | exact cndF h (by (try dsimp only); omega) | (exfalso; simp at h; omega) | simp at h | skip)) | refine side2 ?_ | refine sideL2 ?_ | refine xi _ (And.intro rfl rfl) ?_ | refine xi _ (last_at hO (by omega)) ?_ | refine xi _ (fun _ => (row_at (d := 902) fS rfl)) ?_ | fail)
    refine close_called ⟨g, AO, cO, xsO, some p, cS, xsS, AE, cE, AP, cP, w0, gs, gi, Pi⟩ r _ true false i hr hO hS (fun A cap => ?_)
    repeat' ((conv => whnf); first | refine walk (Tryz.ok ..) ?_ | fail)
    refine done_in (hk ⟨g, AO, cO, xsO, some p, cS, xsS, A, cap, AP, cP, w0, gs, gi, Pi⟩ ⟨hO, gO, fun _ => hS, fun _ => gS⟩ ⟨rfl, rfl, rfl⟩)
  rw [if_neg c58] at hk
  by_cases cB : c < 32 ∨ 126 < c
  · rw [if_pos cB] at hk
    repeat' ((conv => whnf); first | refine walk (Tryz.ok ..) ?_ | (refine Cnd.mk (fun h => ?_) (fun h => ?_) <;> (first | exact cndT h (by (try dsimp only); omega) | exact cndF h (by (try dsimp only); omega) | (exfalso; simp at h; omega) | simp at h | skip)) | refine side2 ?_ | refine sideL2 ?_ | refine xi _ (And.intro rfl rfl) ?_ | refine xi _ (last_at hO (by omega)) ?_ | refine xi _ (fun _ => (row_at (d := 902) fS rfl)) ?_ | fail)
    exact done_in hk
  rw [if_neg cB] at hk
  by_cases c63 : c = 63
  · subst c63
    rw [if_pos rfl] at hk
    repeat' ((conv => whnf); first | refine walk (Tryz.ok ..) ?_ | (refine Cnd.mk (fun h => ?_) (fun h => ?_) <;> (first | exact cndT h (by (try dsimp only); omega) | exact cndF h (by (try dsimp only); omega) | (exfalso; simp at h; omega) | simp at h | skip)) | refine side2 ?_ | refine sideL2 ?_ | refine xi _ (And.intro rfl rfl) ?_ | refine xi _ (last_at hO (by omega)) ?_ | refine xi _ (fun _ => (row_at (d := 902) fS rfl)) ?_ | fail)
    refine done_in (hk ⟨g, AO, cO, xsO, some p, cS, xsS, AE, cE, AP, cP, w0, gs, gi, Pi⟩ ⟨hO, gO, fun _ => hS, fun _ => gS⟩ ⟨rfl, rfl, rfl⟩)
  rw [if_neg c63] at hk
  unfold keepE at hk
  repeat' ((conv => whnf); first | refine walk (Tryz.ok ..) ?_ | (refine Cnd.mk (fun h => ?_) (fun h => ?_) <;> (first | exact cndT h (by (try dsimp only); omega) | exact cndF h (by (try dsimp only); omega) | (exfalso; simp at h; omega) | simp at h | skip)) | refine side2 ?_ | refine sideL2 ?_ | refine xi _ (And.intro rfl rfl) ?_ | refine xi _ (last_at hO (by omega)) ?_ | refine xi _ (fun _ => (row_at (d := 902) fS rfl)) ?_ | fail)
  refine keep_called ⟨g, AO, cO, xsO, some p, cS, xsS, AE, cE, AP, cP, w0, gs, gi, Pi⟩ r _ true false i c h4 ⟨hc, by omega⟩ (fun h => ?_) (fun h A cap => ?_)
  · rw [if_pos h] at hk
    repeat' ((conv => whnf); first | refine walk (Tryz.ok ..) ?_ | fail)
    exact done_in hk
  · rw [if_neg h] at hk
    repeat' ((conv => whnf); first | refine walk (Tryz.ok ..) ?_ | fail)
    refine done_in (hk ⟨g, AO, cO, xsO, some p, cS, xsS, AE, cE, A, cap, w0, gs, gi, Pi⟩ ⟨hO, gO, fun _ => hS, fun _ => gS⟩ ⟨rfl, rfl, rfl⟩)
end
section
open Go Sat Go.RowKit Go.PlainAid
/-- what a reader's method answers, and where it leaves the reader -/
def StepK (m : Mem) (K : SV → Heap → Prop) (i : Int) : Step → Prop
  | .error e => ∀ (m' : Mem) (r' : Rd) (nO F : Nat) (op wt : Bool), m'.g = m.g → K (.v (.int .i64 e.2)) [(900, .blk m.g 108 (rdC m' nO r' F op wt e.1))]
  | .ok r' => ∀ m' : Mem, MemOk m' r' → m'.g = m.g ∧ m'.gi = m.gi ∧ m'.Pi = m.Pi → K (.v (.int .i64 0)) (stH m' r' i)
/-- more is told than is asked -/
theorem called_less {cx : Cx} {n : Nat} {args : List SV} {H : Heap} {K : SV → Heap → Prop} (h : Called cx n args H (fun v H1 => ∃ H2, (∀ w, Holds cx H1 w → Holds cx H2 w) ∧ K v H2)) : Called cx n args H K :=
  ⟨fun w hw => (h.out w hw).mono fun e w' ⟨v, H1, he, hw', H2, hs, hk⟩ => ⟨v, H2, he, hs w' hw', hk⟩⟩
theorem insE_pos {r : Rd} {i c : Int} {e : Int × Int} (h : insE r i c = .error e) : e.1 = i := by
  unfold insE keepE at h
  repeat' split at h
  all_goals first | (cases h; rfl) | cases h
theorem step_ins {N n0 : Nat} {W : World} {K : SV → Heap → Prop} (m : Mem) (r : Rd) (i c : Int) (hr : RdOk r) (hm1 : r.mode = 1) (hm : MemOk m r) (hc : 0 ≤ c) (hk : StepK m K i (insE r i c)) :
    Called (Tryz.cxg N [] [] [] n0 [] W) 79 [.p 900 m.g 0 0, .v (.int .i32 c)] (insH m r 79 true false i) K := by
  refine called_less (inside_called m r i c hr hm1 hm hc ?_)
  cases hs : insE r i c with
  | error e =>
    rw [hs] at hk
    have hp := insE_pos hs
    refine ⟨[(900, .blk m.g 108 (rdC m (r.out.length + 1) r 79 true false i))], fun w hw => hw.sub (hsub_of rfl), ?_⟩
    have := hk m r (r.out.length + 1) 79 true false rfl
    rw [hp] at this
    exact this
  | ok r' =>
    rw [hs] at hk
    exact fun m' h1 h2 => ⟨_, fun w hw => hw, hk m' h1 h2⟩
set_option maxRecDepth 100000 in
set_option maxHeartbeats 8000000 in
theorem between_called {N n0 : Nat} {W : World} {K : SV → Heap → Prop} (m : Mem) (r : Rd) (i c : Int) (hr : RdOk r) (hm0 : r.mode = 0) (hpc : r.pc = []) (hm : MemOk m r) (hc : 0 ≤ c) (hk : StepK m K i (btwE r i c)) :
    Called (Tryz.cxg N [] [] [] n0 [] W) 57 [.p 900 m.g 0 0, .v (.int .i32 c)] (btwH m r 57 false false i) K := by
  refine called_in (Tryz.ok ..) Tryz.func57 rfl (by show 2 ≤ 42; omega) ?_
  obtain ⟨h1, h2, h3, h4⟩ := id hr
  have hO := hm.lO
  have gO := hm.gO
  unfold btwE at hk
  unfold btwH rdC
  by_cases cb : c = 10 ∨ c = 13 ∨ c = 32
  · rw [if_pos cb] at hk
    have k := hk m hm ⟨rfl, rfl, rfl⟩
    unfold stH btwH rdC at k
    rw [if_pos hm0] at k
    repeat' ((conv => whnf); first | refine walk (Tryz.ok ..) ?_ | (refine Cnd.mk (fun h => ?_) (fun h => ?_) <;> (first | exact cndT h (by (try dsimp only); omega) | exact cndF h (by (try dsimp only); omega) | (exfalso; simp at h; omega) | simp at h | skip)) | refine side2 ?_ | fail)
    exact done_in k
  rw [if_neg cb] at hk
  by_cases cm : r.out.length = 5000
  · rw [if_pos cm] at hk
    repeat' ((conv => whnf); first | refine walk (Tryz.ok ..) ?_ | (refine Cnd.mk (fun h => ?_) (fun h => ?_) <;> (first | exact cndT h (by (try dsimp only); omega) | exact cndF h (by (try dsimp only); omega) | (exfalso; simp at h; omega) | simp at h | skip)) | refine side2 ?_ | refine xi _ (And.intro rfl rfl) ?_ | fail)
    exact done_inL _ rfl (hk m r r.out.length _ false false rfl)
  rw [if_neg cm] at hk
  have hr1 : RdOk { r with seg := [], el := [], pc := [], mode := 1 } := ⟨h1, Nat.zero_le _, Nat.zero_le _, Nat.zero_le _⟩
  repeat' ((conv => whnf); first | refine walk (Tryz.ok ..) ?_ | (refine Cnd.mk (fun h => ?_) (fun h => ?_) <;> (first | exact cndT h (by (try dsimp only); omega) | exact cndF h (by (try dsimp only); omega) | (exfalso; simp at h; omega) | simp at h | skip)) | refine side2 ?_ | refine xi _ (And.intro rfl rfl) ?_ | fail)
  (conv => whnf)
  intro g26 hg26
  skip
  (conv => whnf)
  intro g27 hg27
  repeat' ((conv => whnf); first | refine side2 ?_ | refine Or.inr ?_ | fail)
  (conv => whnf)
  intro A2 c2
  repeat' ((conv => whnf); first | refine walk (Tryz.ok ..) ?_ | refine side2 ?_ | fail)
  (conv => whnf)
  refine called_lay [.p 900 m.g 0 0, .v (.int .i32 c)] (insH ⟨m.g, A2, c2, m.xsO, some (g26, 0), 1, [], none, 0, m.AP, m.cP, m.w0, m.gs, m.gi, m.Pi⟩ { r with seg := [], el := [], pc := [], mode := 1 } 79 true false i) rfl (fun w hw => ?_) (step_ins ⟨m.g, A2, c2, m.xsO, some (g26, 0), 1, [], none, 0, m.AP, m.cP, m.w0, m.gs, m.gi, m.Pi⟩ { r with seg := [], el := [], pc := [], mode := 1 } i c hr1 rfl ⟨hO, gO, fun _ => rfl, fun _ => Got.nil⟩ hc ?_)
  · rw [hpc] at hw
    have h2 := hw.own_ 26 (n := 1) 1 rfl rfl (by kernel_rfl) (by unfold maxLen; omega)
    have h3 := holds_ren h2 [(900, 900, .blk m.g 108 (rdC ⟨m.g, A2, c2, m.xsO, some (g26, 0), 1, [], none, 0, m.AP, m.cP, m.w0, m.gs, m.gi, m.Pi⟩ (r.out.length + 1) { r with seg := [], el := [], pc := [], mode := 1 } 79 true false i)), (901, 901, .row A2 54 1 (r.out.length + 1) c2 (m.xsO ++ [.slice (some ⟨g26, 0, none⟩) 1 1])), (902, 26, .row (some (g26, 0)) 22 1 1 1 [.slice none 0 0]), (904, 904, .row m.AP 5 1 0 m.cP (uB [])), (905, 905, .own m.gs (Frz m.w0 m.gs)), (906, 906, .own m.gi m.Pi)] (by kernel_rfl) rfl
    refine h3.sub ?_
    unfold insH
    ((repeat' (first | exact trivial | exact rfl | refine And.intro ?_ ?_)) <;> (try (conv => whnf)) <;> (try simp only [SV.real, SV.r2, SV.r1]))
  cases hs : insE { r with seg := [], el := [], pc := [], mode := 1 } i c with
  | error e =>
    rw [hs] at hk
    intro m' r' nO F op wt hg
    repeat' ((conv => whnf); first | refine walk (Tryz.ok ..) ?_ | fail)
    exact done_in (hk m' r' nO F op wt hg)
  | ok r' =>
    rw [hs] at hk
    intro m' h1 hg
    repeat' ((conv => whnf); first | refine walk (Tryz.ok ..) ?_ | fail)
    exact done_in (hk m' h1 hg)
theorem svc_index {c : Int} (h0 : 0 ≤ c) (h : c ≤ 126) : Lib.indexByte [39, 43, 58, 63] c.toNat.toUInt8 < 0 ↔ ¬ svc c := by
  obtain ⟨n, rfl⟩ : ∃ n : Nat, c = n := ⟨c.toNat, by omega⟩
  have : ∀ n : Nat, n < 127 → (Lib.indexByte [39, 43, 58, 63] (n : Int).toNat.toUInt8 < 0 ↔ ¬ svc (n : Int)) := by decide
  exact this n (by omega)
set_option maxRecDepth 100000 in
set_option maxHeartbeats 8000000 in
theorem released_called {N n0 : Nat} {W : World} {K : SV → Heap → Prop} (m : Mem) (r : Rd) (i c : Int) (hr : RdOk r) (hm2 : r.mode = 2) (hm : MemOk m r) (hc : 0 ≤ c) (hk : StepK m K i (relE r i c)) :
    Called (Tryz.cxg N [] [] [] n0 [] W) 94 [.p 900 m.g 0 0, .v (.int .i32 c)] (insH m r 94 true true i) K := by
  refine called_in (Tryz.ok ..) Tryz.func94 rfl (by show 2 ≤ 46; omega) ?_
  obtain ⟨h1, h2, h3, h4⟩ := id hr
  unfold relE at hk
  unfold insH rdC
  have hsi := fun h => svc_index hc h
  repeat' ((conv => whnf); first | refine walk (Tryz.ok ..) ?_ | refine side2 ?_ | refine sideL2 ?_ | fail)
  refine calledQ_pure (.v (.int .i64 (Lib.indexByte [39, 43, 58, 63] c.toNat.toUInt8))) rfl (fun _ w' => by exact (Tryz.strings_IndexByte ⟨#[39, 43, 58, 63]⟩ c w').mono fun e w2 h => ⟨h.1, by rw [h.2]; exact Below.refl _ _⟩) ?_
  repeat' ((conv => whnf); first | refine walk (Tryz.ok ..) ?_ | (refine Cnd.mk (fun h => ?_) (fun h => ?_) <;> (first | exact cndT h (by (try dsimp only); omega) | exact cndF h (by (try dsimp only); omega) | (exfalso; simp at h; omega) | simp at h | skip)) | refine side2 ?_ | refine xi _ (And.intro rfl rfl) ?_ | fail)
  · have hbad : c ≠ 32 ∧ ¬ svc c := by
      refine ⟨h.1, fun hsv => ?_⟩
      rcases h.2 with h5 | h5
      · unfold svc at hsv; omega
      · have h6 : c ≤ 126 := by unfold svc at hsv; omega
        exact (hsi h6).1 h5 hsv
    rw [if_pos hbad] at hk
    exact done_inL _ rfl (hk m r (r.out.length + 1) _ true true rfl)
  have hgood : ¬ (c ≠ 32 ∧ ¬ svc c) := fun hb => by
    obtain ⟨h5, h6⟩ := h hb.1
    have h7 : Lib.indexByte [39, 43, 58, 63] c.toNat.toUInt8 < 0 := (hsi h5).2 hb.2
    have h8 : 0 ≤ Lib.indexByte [39, 43, 58, 63] c.toNat.toUInt8 := h6
    omega
  have h256 : c < 256 := by
    by_cases h5 : c = 32
    · omega
    · have := (h h5).1; omega
  rw [if_neg hgood] at hk
  unfold keepE at hk
  clear h hsi
  (conv => whnf)
  refine called_lay [.p 900 m.g 0 0, .v (.int .i32 c)] (insH m r 79 true false i) rfl (fun w hw => hw.sub (hsub_of (by kernel_rfl))) (keep_called m r 79 true false i c h4 ⟨hc, h256⟩ (fun h => ?_) (fun h A cap => ?_))
  · rw [if_pos h] at hk
    repeat' ((conv => whnf); first | refine walk (Tryz.ok ..) ?_ | (refine Cnd.mk (fun h => ?_) (fun h => ?_) <;> (first | exact cndT h (by (try dsimp only); omega) | exact cndF h (by (try dsimp only); omega) | (exfalso; simp at h; omega) | simp at h | skip)) | refine side2 ?_ | refine xi _ (And.intro rfl rfl) ?_ | fail)
    exact done_inL _ rfl (hk m r (r.out.length + 1) 79 true false rfl)
  · rw [if_neg h] at hk
    repeat' ((conv => whnf); first | refine walk (Tryz.ok ..) ?_ | (refine Cnd.mk (fun h => ?_) (fun h => ?_) <;> (first | exact cndT h (by (try dsimp only); omega) | exact cndF h (by (try dsimp only); omega) | (exfalso; simp at h; omega) | simp at h | skip)) | fail)
    exact done_in (hk { m with AP := A, cP := cap } ⟨hm.lO, hm.gO, fun _ => hm.lS (by omega), fun _ => hm.gS (by omega)⟩ ⟨rfl, rfl, rfl⟩)
end
end Go.Proofs.YtdohcglpcgahaaaGreatDoor
