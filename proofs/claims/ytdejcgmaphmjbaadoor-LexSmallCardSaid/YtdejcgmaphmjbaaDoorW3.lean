/-
  The walks of the reader's methods: a byte is kept, a component ends.
-/
import Derived.Test.YtdejcgmaphmjbaaDoorRX
import Derived.Test.YtdejcgmaphmjbaaDoorW1
set_option linter.unusedSimpArgs false
set_option linter.unusedVariables false
namespace Go.Proofs.YtdejcgmaphmjbaaDoor
open Go Sat Go.RowKit Go.PlainAid
/-- where the reader's lists lie -/
structure Mem where
  g : Nat
  AO : Option (Nat × Nat)
  cO : Nat
  xsO : List Value
  AS : Option (Nat × Nat)
  cS : Nat
  xsS : List Value
  AE : Option (Nat × Nat)
  cE : Nat
  AP : Option (Nat × Nat)
  cP : Nat
  w0 : World
  gs : List Nat
  gi : List Nat
  Pi : World → Prop
def hdS (m : Mem) (r : Rd) : Value := .slice (adr m.AS) (r.seg.length + 1) m.cS
def hdE (m : Mem) (r : Rd) : Value := .slice (adr m.AE) r.el.length m.cE
def rdC (m : Mem) (nO : Nat) (r : Rd) (F : Nat) (op wt : Bool) (at' : Int) : List SV := [.o 901 m.AO nO m.cO, .fn (Fn.func F) [.p 900 m.g 0 0] [], .o 904 m.AP r.pc.length m.cP, .v (.bool op), .v (.bool wt), .v (.int .i64 at'), .v (.int .i64 r.mark)]
def insH (m : Mem) (r : Rd) (F : Nat) (op wt : Bool) (at' : Int) : Heap :=
  [(900, .blk m.g 61 (rdC m (r.out.length + 1) r F op wt at')), (901, .row m.AO 28 1 (r.out.length + 1) m.cO (m.xsO ++ [hdS m r])), (902, .row m.AS 25 1 (r.seg.length + 1) m.cS (m.xsS ++ [hdE m r])),
   (903, .row m.AE 9 1 r.el.length m.cE (r.el.map Value.string)), (904, .row m.AP 5 1 r.pc.length m.cP (uB r.pc)), (905, .own m.gs (Frz m.w0 m.gs)), (906, .own m.gi m.Pi)]
def btwH (m : Mem) (r : Rd) (F : Nat) (op wt : Bool) (at' : Int) : Heap :=
  [(900, .blk m.g 61 (rdC m r.out.length r F op wt at')), (901, .row m.AO 28 1 r.out.length m.cO m.xsO), (904, .row m.AP 5 1 r.pc.length m.cP (uB r.pc)), (905, .own m.gs (Frz m.w0 m.gs)), (906, .own m.gi m.Pi)]
theorem uB_snoc (l : List UInt8) {c : Int} (h : 0 ≤ c ∧ c < 256) : uB (l ++ [chr c]) = uB l ++ [.int .u8 c] := by
  unfold uB chr
  rw [List.map_append]
  simp only [List.map_cons, List.map_nil]
  congr 3
  simp
  omega
set_option maxRecDepth 100000 in
set_option maxHeartbeats 8000000 in
theorem keep_called {N n0 : Nat} {W : World} {K : SV → Heap → Prop} (m : Mem) (r : Rd) (F : Nat) (op wt : Bool) (at' c : Int) (hp : r.pc.length ≤ 100) (hc : 0 ≤ c ∧ c < 256)
    (h1 : r.pc.length = 100 → K (.v (.int .i64 3)) (insH m r F op wt at'))
    (h2 : r.pc.length ≠ 100 → ∀ A cap, K (.v (.int .i64 0)) (insH { m with AP := A, cP := cap } { r with pc := r.pc ++ [chr c] } F op wt at')) :
    Called (Tryd.cxg N [] [] [] n0 [] W) 66 [.p 900 m.g 0 0, .v (.int .i32 c)] (insH m r F op wt at') K := by
  refine called_in (Tryd.ok ..) Tryd.func66 rfl (by show 2 ≤ 22; omega) ?_
  unfold insH rdC
  have e1 := uB_snoc r.pc hc
  repeat' ((conv => whnf); first | refine walk (Tryd.ok ..) ?_ | refine walk (COk.with_ (Tryd.ok ..) _ _) ?_ | refine walk (COk.with_ (COk.with_ (Tryd.ok ..) _ _) _ _) ?_ | (refine Cnd.mk (fun h => ?_) (fun h => ?_) <;> (first | exact cndT h (by (try dsimp only); omega) | exact cndF h (by (try dsimp only); omega) | (exfalso; simp at h; omega) | simp at h | skip)) | refine kp ?_ ?_ | refine tw ?_ ?_ | refine appnil rfl ?_ | refine rawnil rfl ?_ | exact trivial | refine side2 ?_ | refine sideL2 ?_ | refine Or.inr ?_ | refine sat_drawH (Tryd.ok ..) (by kernel_rfl) ?_ | refine sat_drawH (COk.with_ (Tryd.ok ..) _ _) (by kernel_rfl) ?_ | refine sat_drawH (COk.with_ (COk.with_ (Tryd.ok ..) _ _) _ _) (by kernel_rfl) ?_ | refine xi _ (And.intro rfl rfl) ?_ | refine xi _ (fun _ => And.intro rfl rfl) ?_ | refine xi _ rfl ?_)
  · exact done_in (h1 (by omega))
  · (conv => whnf)
    intro g18 hg18
    repeat' ((conv => whnf); first | refine walk (Tryd.ok ..) ?_ | refine walk (COk.with_ (Tryd.ok ..) _ _) ?_ | refine walk (COk.with_ (COk.with_ (Tryd.ok ..) _ _) _ _) ?_ | (refine Cnd.mk (fun h => ?_) (fun h => ?_) <;> (first | exact cndT h (by (try dsimp only); omega) | exact cndF h (by (try dsimp only); omega) | (exfalso; simp at h; omega) | simp at h | skip)) | refine kp ?_ ?_ | refine tw ?_ ?_ | refine appnil rfl ?_ | refine rawnil rfl ?_ | exact trivial | refine side2 ?_ | refine sideL2 ?_ | refine Or.inr ?_ | refine sat_drawH (Tryd.ok ..) (by kernel_rfl) ?_ | refine sat_drawH (COk.with_ (Tryd.ok ..) _ _) (by kernel_rfl) ?_ | refine sat_drawH (COk.with_ (COk.with_ (Tryd.ok ..) _ _) _ _) (by kernel_rfl) ?_ | refine xi _ (And.intro rfl rfl) ?_ | refine xi _ (fun _ => And.intro rfl rfl) ?_ | refine xi _ rfl ?_)
    (conv => whnf)
    intro A2 cap2
    repeat' ((conv => whnf); first | refine walk (Tryd.ok ..) ?_ | refine walk (COk.with_ (Tryd.ok ..) _ _) ?_ | refine walk (COk.with_ (COk.with_ (Tryd.ok ..) _ _) _ _) ?_ | (refine Cnd.mk (fun h => ?_) (fun h => ?_) <;> (first | exact cndT h (by (try dsimp only); omega) | exact cndF h (by (try dsimp only); omega) | (exfalso; simp at h; omega) | simp at h | skip)) | refine kp ?_ ?_ | refine tw ?_ ?_ | refine appnil rfl ?_ | refine rawnil rfl ?_ | exact trivial | refine side2 ?_ | refine sideL2 ?_ | refine Or.inr ?_ | refine sat_drawH (Tryd.ok ..) (by kernel_rfl) ?_ | refine sat_drawH (COk.with_ (Tryd.ok ..) _ _) (by kernel_rfl) ?_ | refine sat_drawH (COk.with_ (COk.with_ (Tryd.ok ..) _ _) _ _) (by kernel_rfl) ?_ | refine xi _ (And.intro rfl rfl) ?_ | refine xi _ (fun _ => And.intro rfl rfl) ?_ | refine xi _ rfl ?_)
    have k := h2 (by omega) A2 cap2
    unfold insH rdC at k
    dsimp only at k
    rw [e1, List.length_append] at k
    exact done_inL _ rfl k
set_option maxRecDepth 100000 in
set_option maxHeartbeats 8000000 in
theorem close_called {N n0 : Nat} {W : World} {K : SV → Heap → Prop} (m : Mem) (r : Rd) (F : Nat) (op wt : Bool) (at' : Int) (hr : RdOk r) (hO : m.xsO.length = r.out.length) (hS : m.xsS.length = r.seg.length)
    (hk : ∀ A cap, K (.t []) (insH { m with AE := A, cE := cap } { r with el := r.el ++ [ba r.pc], pc := [] } F op wt at')) :
    Called (Tryd.cxg N [] [] [] n0 [] W) 64 [.p 900 m.g 0 0] (insH m r F op wt at') K := by
  refine called_in (Tryd.ok ..) Tryd.func64 rfl (by show 1 ≤ 41; omega) ?_
  obtain ⟨h1, h2, h3, h4⟩ := hr
  unfold insH rdC
  repeat' ((conv => whnf); first | refine walk (Tryd.ok ..) ?_ | refine walk (COk.with_ (Tryd.ok ..) _ _) ?_ | refine walk (COk.with_ (COk.with_ (Tryd.ok ..) _ _) _ _) ?_ | (refine Cnd.mk (fun h => ?_) (fun h => ?_) <;> (first | exact cndT h (by (try dsimp only); omega) | exact cndF h (by (try dsimp only); omega) | (exfalso; simp at h; omega) | simp at h | skip)) | refine kp ?_ ?_ | refine tw ?_ ?_ | refine appnil rfl ?_ | refine rawnil rfl ?_ | exact trivial | refine side2 ?_ | refine sideL2 ?_ | refine Or.inr ?_ | refine xi _ (And.intro rfl rfl) ?_ | refine xi _ (fun _ => And.intro rfl rfl) ?_ | refine xi _ rfl ?_ | refine xi _ (fun _ => (last_at hO (by omega))) ?_ | refine xi _ (last_at hO (by omega)) ?_)
  refine sat_to ([(0, .yes, .p 900 m.g 0 0), (2, .yes, .o 902 m.AS (r.seg.length + 1) m.cS)], [(900, .blk m.g 61 (rdC m (r.out.length + 1) r F op wt at')), (901, .row m.AO 28 1 (r.out.length + 1) m.cO (m.xsO ++ [hdS m r])), (902, .row m.AS 25 1 (r.seg.length + 1) m.cS (m.xsS ++ [hdE m r])),
   (903, .row m.AE 9 1 r.el.length m.cE (r.el.map Value.string)), (904, .row m.AP 5 1 r.pc.length m.cP (uB r.pc)), (905, .own m.gs (Frz m.w0 m.gs)), (906, .own m.gi m.Pi)]) rfl ?_ ?_ rfl ?_
  · ((repeat' (first | exact trivial | exact rfl | refine And.intro ?_ ?_)) <;> (try (conv => whnf)) <;> (try simp only [SV.real, SV.r2, SV.r1]))
  · ((repeat' (first | exact trivial | exact rfl | refine And.intro ?_ ?_)) <;> (try (conv => whnf)) <;> (try simp only [SV.real, SV.r2, SV.r1]))
  unfold rdC
  refine sat_join0 (fun (s : Option (Nat × Nat) × Nat) => ([(0, .yes, .p 900 m.g 0 0)], [(900, .blk m.g 61 (rdC m (r.out.length + 1) r F op wt at')), (901, .row m.AO 28 1 (r.out.length + 1) m.cO (m.xsO ++ [hdS m r])), (902, .row m.AS 25 1 (r.seg.length + 1) m.cS (m.xsS ++ [.slice (adr s.1) (r.el.length + 1) s.2])),
   (903, .row s.1 9 1 (r.el.length + 1) s.2 (r.el.map Value.string ++ [.string (ba r.pc)])), (904, .row m.AP 5 1 r.pc.length m.cP (uB r.pc)), (905, .own m.gs (Frz m.w0 m.gs)), (906, .own m.gi m.Pi)])) (fun _ => True) (fun _ => rfl) ?_ ?_
  · refine sat_draw (COk.with_ (Tryd.ok ..) _ _) [8, 9, 17] [(900, .blk m.g 61 (rdC m (r.out.length + 1) r F op wt at')), (904, .row m.AP 5 1 r.pc.length m.cP (uB r.pc))] (by kernel_rfl) (fun w hw => hw.sub ?_) ?_
    · ((repeat' (first | exact trivial | exact rfl | refine And.intro ?_ ?_)) <;> (try (conv => whnf)) <;> (try simp only [SV.real, SV.r2, SV.r1]))
    have hs := strOf_ba r.pc
    have hub : ∀ (j : Nat) (u : Value), ((r.pc.map fun b => (b.toNat : Int)).map (Value.int .u8))[j]? = some u → (uB r.pc)[j]? = some u := fun j u h => by unfold uB; rw [List.map_map] at h; exact h
    have hul : r.pc.length = (r.pc.map fun b => (b.toNat : Int)).length := by rw [List.length_map]
    unfold rdC
    repeat' ((conv => whnf); first | refine walk (Tryd.ok ..) ?_ | refine walk (COk.with_ (Tryd.ok ..) _ _) ?_ | refine walk (COk.with_ (COk.with_ (Tryd.ok ..) _ _) _ _) ?_ | (refine Cnd.mk (fun h => ?_) (fun h => ?_) <;> (first | exact cndT h (by (try dsimp only); omega) | exact cndF h (by (try dsimp only); omega) | (exfalso; simp at h; omega) | simp at h | skip)) | refine kp ?_ ?_ | refine tw ?_ ?_ | refine appnil rfl ?_ | refine rawnil rfl ?_ | exact trivial | refine side2 ?_ | refine sideL2 ?_ | refine Or.inr ?_ | refine xi _ (And.intro rfl rfl) ?_ | refine xi _ (fun _ => And.intro rfl rfl) ?_ | refine xi _ rfl ?_ | refine xi _ (fun _ => (last_at hS (by omega))) ?_ | refine xi _ (last_at hS (by omega)) ?_ | refine xi _ (fun _ => (And.intro hul hub)) ?_ | refine xi _ (And.intro hul hub) ?_ | intro g hg | (refine appat (.o 903 m.AE r.el.length m.cE) rfl ?_) | (intro A2 c2) | (refine And.intro (lt_last hS (by omega)) ?_))
    all_goals refine ⟨(g, hg), trivial, by ((repeat' (first | exact trivial | exact rfl | refine And.intro ?_ ?_)) <;> (try (conv => whnf)) <;> (try simp only [SV.real, SV.r2, SV.r1])), ?_, rfl⟩
    all_goals ((repeat' (first | exact trivial | exact rfl | refine And.intro ?_ ?_)) <;> (try (conv => whnf)) <;> (try simp only [SV.real, SV.r2, SV.r1]))
    all_goals first | exact set_last hS (by omega) | exact congrArg (fun s => r.el.map Value.string ++ [Value.string s]) hs
  rintro ⟨A2, c2⟩ -
  unfold rdC
  repeat' ((conv => whnf); first | refine walk (Tryd.ok ..) ?_ | refine walk (COk.with_ (Tryd.ok ..) _ _) ?_ | refine walk (COk.with_ (COk.with_ (Tryd.ok ..) _ _) _ _) ?_ | (refine Cnd.mk (fun h => ?_) (fun h => ?_) <;> (first | exact cndT h (by (try dsimp only); omega) | exact cndF h (by (try dsimp only); omega) | (exfalso; simp at h; omega) | simp at h | skip)) | refine kp ?_ ?_ | refine tw ?_ ?_ | refine appnil rfl ?_ | refine rawnil rfl ?_ | exact trivial | refine side2 ?_ | refine sideL2 ?_ | refine Or.inr ?_ | refine sat_drawH (Tryd.ok ..) (by kernel_rfl) ?_ | refine sat_drawH (COk.with_ (Tryd.ok ..) _ _) (by kernel_rfl) ?_ | refine sat_drawH (COk.with_ (COk.with_ (Tryd.ok ..) _ _) _ _) (by kernel_rfl) ?_ | refine xi _ (And.intro rfl rfl) ?_ | refine xi _ (fun _ => And.intro rfl rfl) ?_ | refine xi _ rfl ?_)
  have k := hk A2 c2
  unfold insH rdC hdE at k
  dsimp only at k
  rw [List.length_append, List.map_append] at k
  refine done_inW _ (fun w hw => ?_) k
  have hw2 := hw.cut_ (id := 904) rfl 0 (Nat.zero_le _)
  exact hw2.sub (hsub_of (by kernel_rfl))
end Go.Proofs.YtdejcgmaphmjbaaDoor
