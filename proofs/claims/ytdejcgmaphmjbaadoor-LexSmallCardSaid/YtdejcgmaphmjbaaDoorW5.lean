/-
  The walks of the reader's methods for a byte between segments, and behind a question mark.
-/
import Derived.Test.YtdejcgmaphmjbaaDoorW4
import Derived.Test.YtdejcgmaphmjbaaDoorSH
set_option linter.unusedSimpArgs false
set_option linter.unusedVariables false
namespace Go.Proofs.YtdejcgmaphmjbaaDoor
open Go Sat Go.RowKit Go.PlainAid
/-- what a reader's method answers, and where it leaves the reader -/
def StepK (m : Mem) (K : SV → Heap → Prop) (i : Int) : Step → Prop
  | .error e => ∀ (m' : Mem) (r' : Rd) (nO F : Nat) (op wt : Bool), m'.g = m.g → K (.v (.int .i64 e.2)) [(900, .blk m.g 61 (rdC m' nO r' F op wt e.1))]
  | .ok r' => ∀ m' : Mem, MemOk m' r' → m'.g = m.g ∧ m'.gi = m.gi ∧ m'.Pi = m.Pi → K (.v (.int .i64 0)) (stH m' r' i)
/-- more is told than is asked -/
theorem called_less {cx : Cx} {n : Nat} {args : List SV} {H : Heap} {K : SV → Heap → Prop} (h : Called cx n args H (fun v H1 => ∃ H2, (∀ w, Holds cx H1 w → Holds cx H2 w) ∧ K v H2)) : Called cx n args H K :=
  ⟨fun w hw => (h.out w hw).mono fun e w' ⟨v, H1, he, hw', H2, hs, hk⟩ => ⟨v, H2, he, hs w' hw', hk⟩⟩
theorem insE_pos {r : Rd} {i c : Int} {e : Int × Int} (h : insE r i c = .error e) : e.1 = i := by
  unfold insE keepE at h
  repeat' split at h
  all_goals first | (cases h; rfl) | cases h
theorem step_ins {N n0 : Nat} {W : World} {K : SV → Heap → Prop} (m : Mem) (r : Rd) (i c : Int) (hr : RdOk r) (hm1 : r.mode = 1) (hm : MemOk m r) (hc : 0 ≤ c) (hk : StepK m K i (insE r i c)) :
    Called (Tryd.cxg N [] [] [] n0 [] W) 50 [.p 900 m.g 0 0, .v (.int .i32 c)] (insH m r 50 true false i) K := by
  refine called_less (inside_called m r i c hr hm1 hm hc ?_)
  cases hs : insE r i c with
  | error e =>
    rw [hs] at hk
    have hp := insE_pos hs
    refine ⟨[(900, .blk m.g 61 (rdC m (r.out.length + 1) r 50 true false i))], fun w hw => hw.sub (hsub_of rfl), ?_⟩
    have := hk m r (r.out.length + 1) 50 true false rfl
    rw [hp] at this
    exact this
  | ok r' =>
    rw [hs] at hk
    exact fun m' h1 h2 => ⟨_, fun w hw => hw, hk m' h1 h2⟩
set_option maxRecDepth 100000 in
set_option maxHeartbeats 8000000 in
theorem between_called {N n0 : Nat} {W : World} {K : SV → Heap → Prop} (m : Mem) (r : Rd) (i c : Int) (hr : RdOk r) (hm0 : r.mode = 0) (hpc : r.pc = []) (hm : MemOk m r) (hc : 0 ≤ c) (hk : StepK m K i (btwE r i c)) :
    Called (Tryd.cxg N [] [] [] n0 [] W) 31 [.p 900 m.g 0 0, .v (.int .i32 c)] (btwH m r 31 false false i) K := by
  refine called_in (Tryd.ok ..) Tryd.func31 rfl (by show 2 ≤ 42; omega) ?_
  obtain ⟨h1, h2, h3, h4⟩ := id hr
  have hO := hm.lO
  have gO := hm.gO
  unfold btwE at hk
  unfold btwH rdC
  by_cases cb : c = 10 ∨ c = 13 ∨ c = 32
  · rw [if_pos cb] at hk
    have k := hk m hm ⟨rfl, rfl, rfl⟩
    unfold stH btwH rdC at k
    rw [if_pos hm0] at k
    repeat' ((conv => whnf); first | refine walk (Tryd.ok ..) ?_ | refine walk (COk.with_ (Tryd.ok ..) _ _) ?_ | refine walk (COk.with_ (COk.with_ (Tryd.ok ..) _ _) _ _) ?_ | (refine Cnd.mk (fun h => ?_) (fun h => ?_) <;> (first | exact cndT h (by (try dsimp only); omega) | exact cndF h (by (try dsimp only); omega) | (exfalso; simp at h; omega) | simp at h | skip)) | refine kp ?_ ?_ | refine tw ?_ ?_ | refine appnil rfl ?_ | refine rawnil rfl ?_ | exact trivial | refine side2 ?_ | refine sideL2 ?_ | refine Or.inr ?_ | refine xi _ (And.intro rfl rfl) ?_ | refine xi _ (fun _ => And.intro rfl rfl) ?_ | refine xi _ rfl ?_)
    exact done_in k
  rw [if_neg cb] at hk
  by_cases cm : r.out.length = 5000
  · rw [if_pos cm] at hk
    repeat' ((conv => whnf); first | refine walk (Tryd.ok ..) ?_ | refine walk (COk.with_ (Tryd.ok ..) _ _) ?_ | refine walk (COk.with_ (COk.with_ (Tryd.ok ..) _ _) _ _) ?_ | (refine Cnd.mk (fun h => ?_) (fun h => ?_) <;> (first | exact cndT h (by (try dsimp only); omega) | exact cndF h (by (try dsimp only); omega) | (exfalso; simp at h; omega) | simp at h | skip)) | refine kp ?_ ?_ | refine tw ?_ ?_ | refine appnil rfl ?_ | refine rawnil rfl ?_ | exact trivial | refine side2 ?_ | refine sideL2 ?_ | refine Or.inr ?_ | refine xi _ (And.intro rfl rfl) ?_ | refine xi _ (fun _ => And.intro rfl rfl) ?_ | refine xi _ rfl ?_)
    exact done_inL _ rfl (hk m r r.out.length _ false false rfl)
  rw [if_neg cm] at hk
  have hr1 : RdOk { r with seg := [], el := [], pc := [], mode := 1 } := ⟨h1, Nat.zero_le _, Nat.zero_le _, Nat.zero_le _⟩
  repeat' ((conv => whnf); first | refine walk (Tryd.ok ..) ?_ | refine walk (COk.with_ (Tryd.ok ..) _ _) ?_ | refine walk (COk.with_ (COk.with_ (Tryd.ok ..) _ _) _ _) ?_ | (refine Cnd.mk (fun h => ?_) (fun h => ?_) <;> (first | exact cndT h (by (try dsimp only); omega) | exact cndF h (by (try dsimp only); omega) | (exfalso; simp at h; omega) | simp at h | skip)) | refine kp ?_ ?_ | refine tw ?_ ?_ | refine appnil rfl ?_ | refine rawnil rfl ?_ | exact trivial | refine side2 ?_ | refine sideL2 ?_ | refine Or.inr ?_ | refine xi _ (And.intro rfl rfl) ?_ | refine xi _ (fun _ => And.intro rfl rfl) ?_ | refine xi _ rfl ?_)
  (conv => whnf)
  intro g26 hg26
  repeat' ((conv => whnf); first | refine walk (Tryd.ok ..) ?_ | refine walk (COk.with_ (Tryd.ok ..) _ _) ?_ | refine walk (COk.with_ (COk.with_ (Tryd.ok ..) _ _) _ _) ?_ | (refine Cnd.mk (fun h => ?_) (fun h => ?_) <;> (first | exact cndT h (by (try dsimp only); omega) | exact cndF h (by (try dsimp only); omega) | (exfalso; simp at h; omega) | simp at h | skip)) | refine kp ?_ ?_ | refine tw ?_ ?_ | refine appnil rfl ?_ | refine rawnil rfl ?_ | exact trivial | refine side2 ?_ | refine sideL2 ?_ | refine Or.inr ?_ | refine xi _ (And.intro rfl rfl) ?_ | refine xi _ (fun _ => And.intro rfl rfl) ?_ | refine xi _ rfl ?_)
  (conv => whnf)
  intro g27 hg27
  repeat' ((conv => whnf); first | refine walk (Tryd.ok ..) ?_ | refine walk (COk.with_ (Tryd.ok ..) _ _) ?_ | refine walk (COk.with_ (COk.with_ (Tryd.ok ..) _ _) _ _) ?_ | (refine Cnd.mk (fun h => ?_) (fun h => ?_) <;> (first | exact cndT h (by (try dsimp only); omega) | exact cndF h (by (try dsimp only); omega) | (exfalso; simp at h; omega) | simp at h | skip)) | refine kp ?_ ?_ | refine tw ?_ ?_ | refine appnil rfl ?_ | refine rawnil rfl ?_ | exact trivial | refine side2 ?_ | refine sideL2 ?_ | refine Or.inr ?_ | refine xi _ (And.intro rfl rfl) ?_ | refine xi _ (fun _ => And.intro rfl rfl) ?_ | refine xi _ rfl ?_)
  (conv => whnf)
  intro A2 c2
  repeat' ((conv => whnf); first | refine walk (Tryd.ok ..) ?_ | refine walk (COk.with_ (Tryd.ok ..) _ _) ?_ | refine walk (COk.with_ (COk.with_ (Tryd.ok ..) _ _) _ _) ?_ | (refine Cnd.mk (fun h => ?_) (fun h => ?_) <;> (first | exact cndT h (by (try dsimp only); omega) | exact cndF h (by (try dsimp only); omega) | (exfalso; simp at h; omega) | simp at h | skip)) | refine kp ?_ ?_ | refine tw ?_ ?_ | refine appnil rfl ?_ | refine rawnil rfl ?_ | exact trivial | refine side2 ?_ | refine sideL2 ?_ | refine Or.inr ?_ | refine xi _ (And.intro rfl rfl) ?_ | refine xi _ (fun _ => And.intro rfl rfl) ?_ | refine xi _ rfl ?_)
  (conv => whnf)
  refine called_lay [.p 900 m.g 0 0, .v (.int .i32 c)] (insH ⟨m.g, A2, c2, m.xsO, some (g26, 0), 1, [], none, 0, m.AP, m.cP, m.w0, m.gs, m.gi, m.Pi⟩ { r with seg := [], el := [], pc := [], mode := 1 } 50 true false i) rfl (fun w hw => ?_) (step_ins ⟨m.g, A2, c2, m.xsO, some (g26, 0), 1, [], none, 0, m.AP, m.cP, m.w0, m.gs, m.gi, m.Pi⟩ { r with seg := [], el := [], pc := [], mode := 1 } i c hr1 rfl ⟨hO, gO, fun _ => rfl, fun _ => Got.nil⟩ hc ?_)
  · rw [hpc] at hw
    have h2 := hw.own_ 26 (n := 1) 1 rfl rfl (by kernel_rfl) (by unfold maxLen; omega)
    have h3 := holds_ren h2 [(900, 900, .blk m.g 61 (rdC ⟨m.g, A2, c2, m.xsO, some (g26, 0), 1, [], none, 0, m.AP, m.cP, m.w0, m.gs, m.gi, m.Pi⟩ (r.out.length + 1) { r with seg := [], el := [], pc := [], mode := 1 } 50 true false i)), (901, 901, .row A2 28 1 (r.out.length + 1) c2 (m.xsO ++ [.slice (some ⟨g26, 0, none⟩) 1 1])), (902, 26, .row (some (g26, 0)) 25 1 1 1 [.slice none 0 0]), (904, 904, .row m.AP 5 1 0 m.cP (uB [])), (905, 905, .own m.gs (Frz m.w0 m.gs)), (906, 906, .own m.gi m.Pi)] (by kernel_rfl) rfl
    refine h3.sub ?_
    unfold insH
    ((repeat' (first | exact trivial | exact rfl | refine And.intro ?_ ?_)) <;> (try (conv => whnf)) <;> (try simp only [SV.real, SV.r2, SV.r1]))
  cases hs : insE { r with seg := [], el := [], pc := [], mode := 1 } i c with
  | error e =>
    rw [hs] at hk
    intro m' r' nO F op wt hg
    repeat' ((conv => whnf); first | refine walk (Tryd.ok ..) ?_ | refine walk (COk.with_ (Tryd.ok ..) _ _) ?_ | refine walk (COk.with_ (COk.with_ (Tryd.ok ..) _ _) _ _) ?_ | (refine Cnd.mk (fun h => ?_) (fun h => ?_) <;> (first | exact cndT h (by (try dsimp only); omega) | exact cndF h (by (try dsimp only); omega) | (exfalso; simp at h; omega) | simp at h | skip)) | refine kp ?_ ?_ | refine tw ?_ ?_ | refine appnil rfl ?_ | refine rawnil rfl ?_ | exact trivial | refine side2 ?_ | refine sideL2 ?_ | refine Or.inr ?_ | refine xi _ (And.intro rfl rfl) ?_ | refine xi _ (fun _ => And.intro rfl rfl) ?_ | refine xi _ rfl ?_)
    exact done_in (hk m' r' nO F op wt hg)
  | ok r' =>
    rw [hs] at hk
    intro m' h1 hg
    repeat' ((conv => whnf); first | refine walk (Tryd.ok ..) ?_ | refine walk (COk.with_ (Tryd.ok ..) _ _) ?_ | refine walk (COk.with_ (COk.with_ (Tryd.ok ..) _ _) _ _) ?_ | (refine Cnd.mk (fun h => ?_) (fun h => ?_) <;> (first | exact cndT h (by (try dsimp only); omega) | exact cndF h (by (try dsimp only); omega) | (exfalso; simp at h; omega) | simp at h | skip)) | refine kp ?_ ?_ | refine tw ?_ ?_ | refine appnil rfl ?_ | refine rawnil rfl ?_ | exact trivial | refine side2 ?_ | refine sideL2 ?_ | refine Or.inr ?_ | refine xi _ (And.intro rfl rfl) ?_ | refine xi _ (fun _ => And.intro rfl rfl) ?_ | refine xi _ rfl ?_)
    exact done_in (hk m' h1 hg)
theorem svc_index {c : Int} (h0 : 0 ≤ c) (h : c ≤ 126) : Lib.indexByte [39, 43, 58, 63] c.toNat.toUInt8 < 0 ↔ ¬ svc c := by
  obtain ⟨n, rfl⟩ : ∃ n : Nat, c = n := ⟨c.toNat, by omega⟩
  have : ∀ n : Nat, n < 127 → (Lib.indexByte [39, 43, 58, 63] (n : Int).toNat.toUInt8 < 0 ↔ ¬ svc (n : Int)) := by decide
  exact this n (by omega)
set_option maxRecDepth 100000 in
set_option maxHeartbeats 8000000 in
theorem released_called {N n0 : Nat} {W : World} {K : SV → Heap → Prop} (m : Mem) (r : Rd) (i c : Int) (hr : RdOk r) (hm2 : r.mode = 2) (hm : MemOk m r) (hc : 0 ≤ c) (hk : StepK m K i (relE r i c)) :
    Called (Tryd.cxg N [] [] [] n0 [] W) 65 [.p 900 m.g 0 0, .v (.int .i32 c)] (insH m r 65 true true i) K := by
  refine called_in (Tryd.ok ..) Tryd.func65 rfl (by show 2 ≤ 46; omega) ?_
  obtain ⟨h1, h2, h3, h4⟩ := id hr
  unfold relE at hk
  unfold insH rdC
  have hsi := fun h => svc_index hc h
  repeat' ((conv => whnf); first | refine walk (Tryd.ok ..) ?_ | refine walk (COk.with_ (Tryd.ok ..) _ _) ?_ | refine walk (COk.with_ (COk.with_ (Tryd.ok ..) _ _) _ _) ?_ | (refine Cnd.mk (fun h => ?_) (fun h => ?_) <;> (first | exact cndT h (by (try dsimp only); omega) | exact cndF h (by (try dsimp only); omega) | (exfalso; simp at h; omega) | simp at h | skip)) | refine kp ?_ ?_ | refine tw ?_ ?_ | refine appnil rfl ?_ | refine rawnil rfl ?_ | exact trivial | refine side2 ?_ | refine sideL2 ?_ | refine Or.inr ?_ | refine xi _ (And.intro rfl rfl) ?_ | refine xi _ (fun _ => And.intro rfl rfl) ?_ | refine xi _ rfl ?_)
  refine calledQ_pure (.v (.int .i64 (Lib.indexByte [39, 43, 58, 63] c.toNat.toUInt8))) rfl (fun _ w' => by exact (Tryd.strings_IndexByte ⟨#[39, 43, 58, 63]⟩ c w').mono fun e w2 h => ⟨h.1, by rw [h.2]; exact Below.refl _ _⟩) ?_
  repeat' ((conv => whnf); first | refine walk (Tryd.ok ..) ?_ | refine walk (COk.with_ (Tryd.ok ..) _ _) ?_ | refine walk (COk.with_ (COk.with_ (Tryd.ok ..) _ _) _ _) ?_ | (refine Cnd.mk (fun h => ?_) (fun h => ?_) <;> (first | exact cndT h (by (try dsimp only); omega) | exact cndF h (by (try dsimp only); omega) | (exfalso; simp at h; omega) | simp at h | skip)) | refine kp ?_ ?_ | refine tw ?_ ?_ | refine appnil rfl ?_ | refine rawnil rfl ?_ | exact trivial | refine side2 ?_ | refine sideL2 ?_ | refine Or.inr ?_ | refine xi _ (And.intro rfl rfl) ?_ | refine xi _ (fun _ => And.intro rfl rfl) ?_ | refine xi _ rfl ?_)
  · have hbad : c ≠ 32 ∧ ¬ svc c := by
      refine ⟨h.1, fun hsv => ?_⟩
      rcases h.2 with h5 | h5
      · unfold svc at hsv; omega
      · have h6 : c ≤ 126 := by unfold svc at hsv; omega
        exact (hsi h6).1 h5 hsv
    rw [if_pos hbad] at hk
    exact done_inL _ rfl (hk m r (r.out.length + 1) _ true true rfl)
  have hgood : ¬ (c ≠ 32 ∧ ¬ svc c) := fun hb => by
    obtain ⟨h5, h6⟩ := h hb.1
    have h7 : Lib.indexByte [39, 43, 58, 63] c.toNat.toUInt8 < 0 := (hsi h5).2 hb.2
    have h8 : 0 ≤ Lib.indexByte [39, 43, 58, 63] c.toNat.toUInt8 := h6
    omega
  have h256 : c < 256 := by
    by_cases h5 : c = 32
    · omega
    · have := (h h5).1; omega
  rw [if_neg hgood] at hk
  unfold keepE at hk
  clear h hsi
  (conv => whnf)
  refine called_lay [.p 900 m.g 0 0, .v (.int .i32 c)] (insH m r 50 true false i) rfl (fun w hw => hw.sub (hsub_of (by kernel_rfl))) (keep_called m r 50 true false i c h4 ⟨hc, h256⟩ (fun h => ?_) (fun h A cap => ?_))
  · rw [if_pos h] at hk
    repeat' ((conv => whnf); first | refine walk (Tryd.ok ..) ?_ | refine walk (COk.with_ (Tryd.ok ..) _ _) ?_ | refine walk (COk.with_ (COk.with_ (Tryd.ok ..) _ _) _ _) ?_ | (refine Cnd.mk (fun h => ?_) (fun h => ?_) <;> (first | exact cndT h (by (try dsimp only); omega) | exact cndF h (by (try dsimp only); omega) | (exfalso; simp at h; omega) | simp at h | skip)) | refine kp ?_ ?_ | refine tw ?_ ?_ | refine appnil rfl ?_ | refine rawnil rfl ?_ | exact trivial | refine side2 ?_ | refine sideL2 ?_ | refine Or.inr ?_ | refine xi _ (And.intro rfl rfl) ?_ | refine xi _ (fun _ => And.intro rfl rfl) ?_ | refine xi _ rfl ?_)
    exact done_inL _ rfl (hk m r (r.out.length + 1) 50 true false rfl)
  · rw [if_neg h] at hk
    repeat' ((conv => whnf); first | refine walk (Tryd.ok ..) ?_ | refine walk (COk.with_ (Tryd.ok ..) _ _) ?_ | refine walk (COk.with_ (COk.with_ (Tryd.ok ..) _ _) _ _) ?_ | (refine Cnd.mk (fun h => ?_) (fun h => ?_) <;> (first | exact cndT h (by (try dsimp only); omega) | exact cndF h (by (try dsimp only); omega) | (exfalso; simp at h; omega) | simp at h | skip)) | refine kp ?_ ?_ | refine tw ?_ ?_ | refine appnil rfl ?_ | refine rawnil rfl ?_ | exact trivial | refine side2 ?_ | refine sideL2 ?_ | refine Or.inr ?_ | refine xi _ (And.intro rfl rfl) ?_ | refine xi _ (fun _ => And.intro rfl rfl) ?_ | refine xi _ rfl ?_)
    exact done_in (hk { m with AP := A, cP := cap } ⟨hm.lO, hm.gO, fun _ => hm.lS (by omega), fun _ => hm.gS (by omega)⟩ ⟨rfl, rfl, rfl⟩)
/-- one byte, whatever the state -/
theorem step_called {N n0 : Nat} {W : World} {K : SV → Heap → Prop} (m : Mem) (r : Rd) (i c : Int) (hr : RdOk r) (hmode : r.mode ≤ 2) (hpc : r.mode = 0 → r.pc = []) (hm : MemOk m r) (hc : 0 ≤ c) (hk : StepK m K i (stepE r i c)) :
    Called (Tryd.cxg N [] [] [] n0 [] W) (if r.mode = 0 then 31 else if r.mode = 1 then 50 else 65) [.p 900 m.g 0 0, .v (.int .i32 c)] (stH m r i) K := by
  unfold stepE at hk
  unfold stH
  by_cases h0 : r.mode = 0
  · rw [if_pos h0] at hk
    rw [if_pos h0, if_pos h0]
    exact between_called m r i c hr h0 (hpc h0) hm hc hk
  rw [if_neg h0] at hk
  rw [if_neg h0, if_neg h0]
  by_cases h1 : r.mode = 1
  · rw [if_pos h1] at hk
    rw [if_pos h1, if_pos h1]
    exact step_ins m r i c hr h1 hm hc hk
  rw [if_neg h1] at hk
  rw [if_neg h1, if_neg h1]
  exact released_called m r i c hr (by omega) hm hc hk
end Go.Proofs.YtdejcgmaphmjbaaDoor
