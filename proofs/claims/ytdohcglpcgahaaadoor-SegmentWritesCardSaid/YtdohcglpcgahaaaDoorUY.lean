/-
  The walk of the law's bare: messages for the reference. The walk of the law's Small, on messages. The walk of SegmentWrites.
-/
import Derived.Test.YtdohcglpcgahaaaDoorUX
import Derived.Test.YtdohcglpcgahaaaDoorVX
import Derived.Test.YtdohcglpcgahaaaDoorSXX
import Derived.Test.YtdohcglpcgahaaaDoorVW
import Derived.Test.YtdohcglpcgahaaaDoorOX
set_option linter.unusedSimpArgs false
set_option linter.unusedVariables false
namespace Go.Proofs.YtdohcglpcgahaaaDoor
section
open Go Sat Go.RowKit Go.PlainAid
/-- data that are lent -/
def RL (w0 : World) (Bd : Nat → Prop) : Lies Dat := fun _ _ v d => NSA w0 Bd v d
theorem rl_stays (w0 : World) (Bd : Nat → Prop) : Stays (RL w0 Bd) := fun _ _ _ _ _ _ h _ _ => h
structure GotB (w0 : World) (Bd : Nat → Prop) (wS : World) (S : List Nat) (n : Nat) (xs : List Value) (l : List Msg) : Prop where
  len : xs.length = n * 3
  at_ : ∀ (i : Nat) (m : Msg), i < n → l[i]? = some m → MsgR (RL w0 Bd) wS (fun g => g ∈ S) (cut1 xs 3 i) m
theorem GotB.mono {w0 wS wS' : World} {Bd : Nat → Prop} {S S' : List Nat} {n : Nat} {xs : List Value} {l : List Msg} (h : GotB w0 Bd wS S n xs l) (hS : ∀ g, g ∈ S → wS'.heap[g]? = wS.heap[g]?) (hs : ∀ g, g ∈ S → g ∈ S') : GotB w0 Bd wS' S' n xs l :=
  ⟨h.len, fun i m hi hm => msgr_stays (rl_stays w0 Bd) _ _ _ _ _ _ (h.at_ i m hi hm) (fun g hg _ => hS g hg) hs⟩
theorem GotB.snoc {w0 wS : World} {Bd : Nat → Prop} {S : List Nat} {n : Nat} {xs : List Value} {l : List Msg} {m : Msg} {v : Value} (h : GotB w0 Bd wS S n xs l) (hm : l[n]? = some m) (hv : NSegs (RL w0 Bd) wS (fun g => g ∈ S) v m.segs) : GotB w0 Bd wS S (n + 1) (xs ++ [.string m.kind, .string m.ref, v]) l := by
  refine ⟨by rw [List.length_append, h.len]; simp; omega, fun i a hi ha => ?_⟩
  rcases Nat.lt_or_ge i n with h1 | h1
  · rw [cut1_old h.len h1]
    exact h.at_ i a h1 ha
  · obtain rfl : i = n := by omega
    rw [hm] at ha
    cases ha
    rw [cut1_new h.len rfl]
    exact ⟨v, rfl, hv⟩
theorem sat_recell {cx : Cx} {c : Code} {K : Exit → Env → Heap → Prop} {f : Env} {H : Heap} (id : Nat) {g e : Nat} {cs : List SV} (cs' : List SV) (hf : hfind H id = some (.blk g e cs)) (hr : cs'.map SV.r1 = cs.map SV.r1) (h : Sat cx c K f ((id, .blk g e cs') :: hdel H id)) : Sat cx c K f H := by
  refine ⟨fun a w hfit hw => h.out a w hfit ?_⟩
  have hb : (HB.blk g e cs).holds cx w := hw.at_ hf
  refine hw.turn id (.blk g e cs') (Keep.refl _ _ _) ⟨hb.1, by rw [hr]; exact hb.2⟩ fun x hx g' hg => ⟨rfl, fun hm => ?_⟩
  exact hw.sep _ _ _ _ (hdel_mem hx).1 (hfind_mem hf) (hdel_mem hx).2 g' hg hm
set_option maxRecDepth 100000 in
set_option maxHeartbeats 16000000 in
theorem bareM_any (l : List Msg) (v : Value) (w : World) (Bd : Nat → Prop) (hA : NMsgs NSA w Bd v l) (hl : l.length ≤ 1000000) (hls : ∀ m ∈ l, m.segs.length ≤ 1000000) :
    Calls Tryd.prog 34 #[v] w (Gives id (fun w' B v => NMsgs NSA w' (fun g => B g ∨ Bd g) v l) w) := by
  obtain ⟨A', A, cA, xs, rfl, aA, hcA, hrA, -, hxA⟩ := hA
  refine calls_sat (cx := Tryd.cx 40 [2, 6, 12] [] [] w) (Tryd.ok ..) Tryd.func34 rfl [.v (.slice A' l.length cA)] rfl (by show 1 ≤ 40; omega) [] (holds_nil (Nat.le_refl _)) ?_
  have hmax : l.length ≤ 9223372036854775807 := Nat.le_trans (Nat.le_trans hcA.1 hcA.2) (by decide)
  repeat' ((conv => whnf); first | refine walk (Tryd.ok ..) ?_ | fail)
  refine sat_fuse 977 [] rfl fun w0 hw0 => ?_
  refine sat_ops (Tryd.ok ..) ?_
  repeat' ((conv => whnf); first | refine walk (Tryd.ok ..) ?_ | fail)
  refine sat_loop (Tryd.ok ..) (α := Nat × Option (Nat × Nat) × Nat × List Value × World × List Nat) (fun t => ([(3, .yes, .o 80 t.2.1 t.1 t.2.2.1), (9, .yes, .v (.slice A' l.length cA)), (10, .yes, .v (.int .i64 l.length)), (11, .yes, .v (.int .i64 t.1))], [(80, .row t.2.1 65 3 t.1 t.2.2.1 t.2.2.2.1), (977, .own t.2.2.2.2.2 (Frz t.2.2.2.2.1 t.2.2.2.2.2))]))
    (fun t => t.1 ≤ l.length ∧ GotB w Bd t.2.2.2.2.1 t.2.2.2.2.2 t.1 t.2.2.2.1 l) (fun t => l.length - t.1) (fun _ => rfl) ?_ ?_
  · refine ⟨(0, none, 0, [], w0, []), ⟨Nat.zero_le _, rfl, fun i m h => by omega⟩, ?_, ?_, rfl⟩
    all_goals ((repeat' (first | exact trivial | exact rfl | refine And.intro ?_ ?_)) <;> (try (conv => whnf)) <;> (try simp only [SV.real, SV.r2, SV.r1]))
  rintro ⟨k, A3, cap3, xs3, wS, S⟩ ⟨hk, hg⟩
  dsimp only at hk hg ⊢
  by_cases hk1 : k < l.length
  case neg =>
    obtain rfl : k = l.length := by omega
    repeat' ((conv => whnf); first | refine walk (Tryd.ok ..) ?_ | (refine Cnd.mk (fun h => ?_) (fun h => ?_) <;> (first | exact cndT h (by (try dsimp only); omega) | exact cndF h (by (try dsimp only); omega) | (exfalso; simp at h; omega) | simp at h | skip)) | fail)
    refine done_fuse (v := .slice (adr A3) l.length cap3) rfl rfl [80, 977] (fun w' hw => ?_) rfl
    refine ⟨adr A3, A3, cap3, xs3, rfl, AtN.refl _ _, row_caps hw (id := 80) rfl, ro_of_row hw (id := 80) rfl, fun p hp _ => .inl (gs_sub (i := 80) rfl rfl (by rw [hp]; simp [HB.gs])), fun i m hm => ?_⟩
    obtain ⟨x, hx, h1⟩ := hg.at_ i m (List.getElem?_eq_some_iff.1 hm).1 hm
    refine ⟨x, hx, nestz_in (w := w') (B := fun g => g ∈ gsOf _ [80, 977]) (R := SegR (RL w Bd)) (fun g h => .inl h) (fun cs a h2 => ?_) (nsegs_stays (rl_stays w Bd) _ _ _ _ _ _ h1 (fun g hgs _ => frz_of (d := 977) rfl hw g hgs) (own_sub hw [80, 977] 977 (D := S) (w0 := wS) rfl rfl))⟩
    obtain ⟨y, hy, h3⟩ := h2
    have h4 : NSA w Bd y a.2 := h3
    exact ⟨y, hy, nsa_stays _ _ _ _ _ _ h4 (fun g _ hgl => hw.keep.block g hgl (fun h => (by cases h))) (fun _ h => .inr h)⟩
  obtain ⟨m, hm⟩ : ∃ s, l[k]? = some s := ⟨_, List.getElem?_eq_getElem hk1⟩
  obtain ⟨vm, hcm, hvm⟩ := hxA k m hm
  obtain ⟨am, Am, cm, xm, rfl, aAm, hcmm, hrm, -, hxm⟩ := hvm
  obtain ⟨p, rfl, rfl⟩ := some_ofz aA hrA (by omega)
  have hmaxm : m.segs.length ≤ 9223372036854775807 := Nat.le_trans (Nat.le_trans hcmm.1 hcmm.2) (by decide)
  have htopm := hls m (List.mem_of_getElem? hm)
  repeat' ((conv => whnf); first | refine walk (Tryd.ok ..) ?_ | (refine Cnd.mk (fun h => ?_) (fun h => ?_) <;> (first | exact cndT h (by (try dsimp only); omega) | exact cndF h (by (try dsimp only); omega) | (exfalso; simp at h; omega) | simp at h | skip)) | refine side2 ?_ | refine xi _ (ro_aggz rfl rfl hrA hcm rfl (kz k 3) hk1) ?_ | fail)
  (conv => whnf)
  intro g5 hg5
  repeat' ((conv => whnf); first | refine walk (Tryd.ok ..) ?_ | refine side2 ?_ | refine xi _ (And.intro rfl rfl) ?_ | fail)
  (conv => whnf)
  intro g6 hg6
  repeat' ((conv => whnf); first | refine walk (Tryd.ok ..) ?_ | refine side2 ?_ | fail)
  refine sat_recell 6 [.v (.string m.kind), .v (.string m.ref), .o 81 none 0 0] rfl rfl ?_
  refine sat_ops (Tryd.ok ..) ?_
  repeat' ((conv => whnf); first | refine walk (Tryd.ok ..) ?_ | refine side2 ?_ | refine xi _ (And.intro rfl rfl) ?_ | fail)
  refine sat_loop (Tryd.ok ..) (α := Nat × Option (Nat × Nat) × Nat × List Value) (fun t => ([(3, .yes, .o 80 A3 k cap3), (5, .yes, .p 5 g5 0 0), (6, .yes, .p 6 g6 0 0), (9, .yes, .v (.slice (adr (some p)) l.length cA)), (10, .yes, .v (.int .i64 l.length)), (11, .yes, .v (.int .i64 k)), (21, .yes, .v (.slice am m.segs.length cm)), (22, .yes, .v (.int .i64 m.segs.length)), (23, .yes, .v (.int .i64 t.1))], [(5, .blk g5 50 [.v (.string m.kind), .v (.string m.ref), .v (.slice am m.segs.length cm)]), (6, .blk g6 65 [.v (.string m.kind), .v (.string m.ref), .o 81 t.2.1 t.1 t.2.2.1]), (81, .row t.2.1 105 2 t.1 t.2.2.1 t.2.2.2), (80, .row A3 65 3 k cap3 xs3), (977, .own S (Frz wS S))]))
    (fun t => t.1 ≤ m.segs.length ∧ t.2.2.2.length = t.1 * 2 ∧ (∀ (j : Nat) (s : Sg), j < t.1 → m.segs[j]? = some s → SegR (RL w Bd) wS (fun g => g ∈ S) (cut1 t.2.2.2 2 j) s)) (fun t => m.segs.length - t.1) (fun _ => rfl) ?_ ?_
  · refine ⟨(0, none, 0, []), ⟨Nat.zero_le _, rfl, fun j s h => by omega⟩, ?_, ?_, rfl⟩
    all_goals ((repeat' (first | exact trivial | exact rfl | refine And.intro ?_ ?_)) <;> (try (conv => whnf)) <;> (try simp only [SV.real, SV.r2, SV.r1]))
  rintro ⟨j, A6, cap6, xs6⟩ ⟨hj, hl6, h6⟩
  dsimp only at hj hl6 h6 ⊢
  by_cases hj1 : j < m.segs.length
  case neg =>
    obtain rfl : j = m.segs.length := by omega
    repeat' ((conv => whnf); first | refine walk (Tryd.ok ..) ?_ | (refine Cnd.mk (fun h => ?_) (fun h => ?_) <;> (first | exact cndT h (by (try dsimp only); omega) | exact cndF h (by (try dsimp only); omega) | (exfalso; simp at h; omega) | simp at h | skip)) | refine side2 ?_ | fail)
    (conv => whnf)
    intro g36 hg36
    repeat' ((conv => whnf); first | refine side2 ?_ | refine Or.inr ?_ | fail)
    (conv => whnf)
    intro A37 cap37
    repeat' ((conv => whnf); first | refine walk (Tryd.ok ..) ?_ | fail)
    refine sat_fuse 977 [977, 81] rfl fun w4 hw4 => ?_
    have hS' := segs_row (R := RL w Bd) (fun _ _ _ _ _ _ h => h) [977, 81] 81 hw4 rfl rfl rfl h6
    have hg2 := hg.mono (frz_of (d := 977) rfl hw4) (own_sub hw4 [977, 81] 977 (D := S) (w0 := wS) rfl rfl)
    refine sat_ops (Tryd.ok ..) ?_
    repeat' ((conv => whnf); first | refine sideL2 ?_ | fail)
    refine ⟨(k + 1, A37, cap37, _, w4, _), ⟨⟨hk1, hg2.snoc hm hS'⟩, by show l.length - (k + 1) < l.length - k; omega⟩, ?_, ?_, rfl⟩
    all_goals ((repeat' (first | exact trivial | exact rfl | refine And.intro ?_ ?_)) <;> (try (conv => whnf)) <;> (try simp only [SV.real, SV.r2, SV.r1]))
  obtain ⟨s, hs⟩ : ∃ s, m.segs[j]? = some s := ⟨_, List.getElem?_eq_getElem hj1⟩
  obtain ⟨vd, hcd, hvd⟩ := hxm j s hs
  obtain ⟨q, rfl, rfl⟩ := some_ofz aAm hrm (by omega)
  obtain ⟨ad, nd, cd2, rfl⟩ := nsa_sl _ _ _ _ hvd
  repeat' ((conv => whnf); first | refine walk (Tryd.ok ..) ?_ | (refine Cnd.mk (fun h => ?_) (fun h => ?_) <;> (first | exact cndT h (by (try dsimp only); omega) | exact cndF h (by (try dsimp only); omega) | (exfalso; simp at h; omega) | simp at h | skip)) | refine side2 ?_ | refine xi _ (ro_aggz rfl rfl hrm hcd rfl (kz j 2) hj1) ?_ | fail)
  (conv => whnf)
  intro g8 hg8
  repeat' ((conv => whnf); first | refine walk (Tryd.ok ..) ?_ | refine side2 ?_ | refine xi _ (And.intro rfl rfl) ?_ | fail)
  (conv => whnf)
  intro g30 hg30
  repeat' ((conv => whnf); first | refine side2 ?_ | refine Or.inr ?_ | fail)
  (conv => whnf)
  intro A31 cap31
  repeat' ((conv => whnf); first | refine walk (Tryd.ok ..) ?_ | refine side2 ?_ | refine sideL2 ?_ | fail)
  refine ⟨(j + 1, A31, cap31, _), ⟨⟨hj1, by rw [List.length_append, hl6]; simp; omega, segs_snoc hl6 h6 hs hvd⟩, by show m.segs.length - (j + 1) < m.segs.length - j; omega⟩, ?_, ?_, rfl⟩
  all_goals ((repeat' (first | exact trivial | exact rfl | refine And.intro ?_ ?_)) <;> (try (conv => whnf)) <;> (try simp only [SV.real, SV.r2, SV.r1]))
end
section
open Go Sat Go.RowKit Go.PlainAid
/-- what Small of chapter 4 tells of data -/
def SmallD (d : Dat) (b : Bool) : Prop := b = true → mS d ≤ 1000000000000 → mS d ≤ 700
theorem small_one (d : Dat) (va : Value) (w : World) (hA : NLA w (fun _ => True) va [d]) :
    Calls Tryd.prog 13 #[va] w fun e w' => ∃ b : Bool, SmallD d b ∧ e = .returned (.bool b) ∧ Below w.heap.size w w' := by
  by_cases h : mS d ≤ 1000000000000
  · refine (small_says [d] va w hA (fun s hs => by rw [List.mem_singleton] at hs; subst hs; exact h)).mono fun e w' hp => ?_
    obtain ⟨b, h1, h2⟩ := hp
    exact ⟨b, fun hb _ => (h1 hb).2 d List.mem_cons_self, h2⟩
  · refine (small_some [d] va w hA).mono fun e w' hp => ?_
    obtain ⟨b, h1, h2⟩ := hp
    exact ⟨b, fun _ h' => absurd h' h, h2⟩
structure SmallM (m : Msg) : Prop where
  segs : m.segs.length ≤ 12
  kind : m.kind.size ≤ 100
  ref : m.ref.size ≤ 100
  seg : ∀ s ∈ m.segs, s.1.size ≤ 100 ∧ (mS s.2 ≤ 1000000000000 → mS s.2 ≤ 700)
def SmallG (l : List Msg) (b : Bool) : Prop := b = true → l.length ≤ 6 ∧ ∀ m ∈ l, SmallM m
set_option maxRecDepth 100000 in
set_option maxHeartbeats 16000000 in
theorem smallG_any (l : List Msg) (va : Value) (w : World) (hA : NMsgs NSA w (fun _ => True) va l) :
    Calls Tryd.prog 11 #[va] w fun e w' => ∃ b : Bool, SmallG l b ∧ e = .returned (.bool b) ∧ Below w.heap.size w w' := by
  obtain ⟨A', A, cA, xs, rfl, aA, hcA, hrA, -, hxA⟩ := hA
  refine calls_sat (cx := Tryd.cx 74 [] [] [] w) (Tryd.ok ..) Tryd.func11 rfl [.v (.slice A' l.length cA)] rfl (by show 1 ≤ 74; omega) [] (holds_nil (Nat.le_refl _)) ?_
  have hmax : l.length ≤ 9223372036854775807 := Nat.le_trans (Nat.le_trans hcA.1 hcA.2) (by decide)
  repeat' ((conv => whnf); first | refine walk (Tryd.ok ..) ?_ | fail)
  refine sat_loop (Tryd.ok ..) (α := Nat) (fun i => ([(0, .yes, .v (.slice A' l.length cA)), (3, .yes, .v (.int .i64 i))], []))
    (fun i => i ≤ l.length ∧ ∀ m ∈ l.take i, SmallM m) (fun i => l.length - i) (fun _ => rfl) ?_ ?_
  · refine ⟨0, ⟨Nat.zero_le _, fun m h => by simp at h⟩, ?_, ?_, rfl⟩
    all_goals ((repeat' (first | exact trivial | exact rfl | refine And.intro ?_ ?_)) <;> (try (conv => whnf)) <;> (try simp only [SV.real, SV.r2, SV.r1]))
  rintro i ⟨hi, hs0⟩
  by_cases hi1 : i < l.length
  case neg =>
    obtain rfl : i = l.length := by omega
    rw [List.take_length] at hs0
    repeat' ((conv => whnf); first | refine walk (Tryd.ok ..) ?_ | (refine Cnd.mk (fun h => ?_) (fun h => ?_) <;> (first | exact cndT h (by (try dsimp only); omega) | exact cndF h (by (try dsimp only); omega) | (exfalso; simp at h; omega) | simp at h | skip)) | fail)
    exact done_some rfl rfl (decide ((l.length : Int) ≤ 6)) (fun h => ⟨by have := of_decide_eq_true h; omega, hs0⟩) rfl
  obtain ⟨m, hm⟩ : ∃ s, l[i]? = some s := ⟨_, List.getElem?_eq_getElem hi1⟩
  obtain ⟨vm, hcm, hvm⟩ := hxA i m hm
  obtain ⟨p, rfl, rfl⟩ := some_ofz aA hrA (by omega)
  obtain ⟨am, Am, cm, xm, rfl, aAm, hcmm, hrm, -, hxm⟩ := hvm
  have hmaxm : m.segs.length ≤ 9223372036854775807 := Nat.le_trans (Nat.le_trans hcmm.1 hcmm.2) (by decide)
  repeat' ((conv => whnf); first | refine walk (Tryd.ok ..) ?_ | (refine Cnd.mk (fun h => ?_) (fun h => ?_) <;> (first | exact cndT h (by (try dsimp only); omega) | exact cndF h (by (try dsimp only); omega) | (exfalso; simp at h; omega) | simp at h | skip)) | refine side2 ?_ | refine xi _ (fun _ => (ro_cellz (j := 0) rfl rfl hrA hcm rfl rfl (kz i 3) hi1)) ?_ | refine xi _ (fun _ => (ro_cellz (j := 1) rfl rfl hrA hcm rfl rfl (kz i 3) hi1)) ?_ | refine xi _ (ro_cellz (j := 2) rfl rfl hrA hcm rfl rfl (kz i 3) hi1) ?_ | fail)
  · exact done_some rfl rfl false (fun h => by cases h) rfl
  refine sat_loop (Tryd.ok ..) (α := Nat) (fun k => ([(0, .yes, .v (.slice (adr (some p)) l.length cA)), (3, .yes, .v (.int .i64 i)), (4, .yes, .v (.int .i64 k))], []))
    (fun k => k ≤ m.segs.length ∧ ∀ s ∈ m.segs.take k, s.1.size ≤ 100 ∧ (mS s.2 ≤ 1000000000000 → mS s.2 ≤ 700)) (fun k => m.segs.length - k) (fun _ => rfl) ?_ ?_
  · refine ⟨0, ⟨Nat.zero_le _, fun m h => by simp at h⟩, ?_, ?_, rfl⟩
    all_goals ((repeat' (first | exact trivial | exact rfl | refine And.intro ?_ ?_)) <;> (try (conv => whnf)) <;> (try simp only [SV.real, SV.r2, SV.r1]))
  rintro k ⟨hk, hs1⟩
  by_cases hk1 : k < m.segs.length
  case neg =>
    obtain rfl : k = m.segs.length := by omega
    rw [List.take_length] at hs1
    repeat' ((conv => whnf); first | refine walk (Tryd.ok ..) ?_ | (refine Cnd.mk (fun h => ?_) (fun h => ?_) <;> (first | exact cndT h (by (try dsimp only); omega) | exact cndF h (by (try dsimp only); omega) | (exfalso; simp at h; omega) | simp at h | skip)) | refine side2 ?_ | refine sideL2 ?_ | refine xi _ (ro_cellz (j := 2) rfl rfl hrA hcm rfl rfl (kz i 3) hi1) ?_ | fail)
    refine ⟨i + 1, ⟨⟨hi1, fun m' hm' => ?_⟩, by omega⟩, ?_, ?_, rfl⟩
    · rw [List.take_add_one, hm] at hm'
      rcases List.mem_append.1 hm' with hm' | hm'
      · exact hs0 m' hm'
      · simp at hm'
        subst hm'
        exact ⟨by omega, by omega, by omega, hs1⟩
    all_goals ((repeat' (first | exact trivial | exact rfl | refine And.intro ?_ ?_)) <;> (try (conv => whnf)) <;> (try simp only [SV.real, SV.r2, SV.r1]))
  obtain ⟨s, hs⟩ : ∃ s, m.segs[k]? = some s := ⟨_, List.getElem?_eq_getElem hk1⟩
  obtain ⟨vd, hcd, hvd⟩ := hxm k s hs
  obtain ⟨q, rfl, rfl⟩ := some_ofz aAm hrm (by omega)
  obtain ⟨ad, nd, cd2, rfl⟩ := nsa_sl _ _ _ _ hvd
  by_cases hsz : s.1.size ≤ 100
  case neg =>
    have hG : decide ((100 : Int) < (s.1.size : Int)) = true := decide_eq_true (by omega)
    repeat' ((conv => whnf); first | ((refine Or.inl ?_; (conv => whnf); refine calledQ_at (.v (.bool true)) rfl (fun h _ _ => absurd h (by simp [Grd.holds, hG])) ?_)) | refine walk (Tryd.ok ..) ?_ | (refine Cnd.mk (fun h => ?_) (fun h => ?_) <;> (first | exact cndT h (by (try dsimp only); omega) | exact cndF h (by (try dsimp only); omega) | (exfalso; simp at h; omega) | simp at h | skip)) | refine side2 ?_ | refine Or.inr ?_ | refine xi _ (fun _ => (ro_cellz (j := 2) rfl rfl hrA hcm rfl rfl (kz i 3) hi1)) ?_ | refine xi _ (ro_cellz (j := 2) rfl rfl hrA hcm rfl rfl (kz i 3) hi1) ?_ | refine xi _ (ro_cellz (j := 0) rfl rfl hrm hcd rfl rfl (kz k 2) hk1) ?_ | refine xi _ (fun _ => (ro_cellz (j := 1) rfl rfl hrm hcd rfl rfl (kz k 2) hk1)) ?_ | fail)
    all_goals first | exact done_some rfl rfl false (fun h => by cases h) rfl | skip
  have hG : decide ((100 : Int) < (s.1.size : Int)) = false := decide_eq_false (by omega)
  repeat' ((conv => whnf); first | refine walk (Tryd.ok ..) ?_ | (refine Cnd.mk (fun h => ?_) (fun h => ?_) <;> (first | exact cndT h (by (try dsimp only); omega) | exact cndF h (by (try dsimp only); omega) | (exfalso; simp at h; omega) | simp at h | skip)) | refine side2 ?_ | refine Or.inr ?_ | refine xi _ (fun _ => (ro_cellz (j := 2) rfl rfl hrA hcm rfl rfl (kz i 3) hi1)) ?_ | refine xi _ (ro_cellz (j := 2) rfl rfl hrA hcm rfl rfl (kz i 3) hi1) ?_ | refine xi _ (ro_cellz (j := 0) rfl rfl hrm hcd rfl rfl (kz k 2) hk1) ?_ | refine xi _ (fun _ => (ro_cellz (j := 1) rfl rfl hrm hcd rfl rfl (kz k 2) hk1)) ?_ | fail)
  (conv => whnf)
  refine ⟨by show (!decide (_ < _)) = true; rw [decide_eq_false (by omega)]; rfl, ?_⟩
  (conv => whnf)
  intro g67 hg67
  repeat' ((conv => whnf); first | ((with_reducible refine Or.inr (Cnd.mk (fun _ => ?_) (fun h => absurd h (by simp [hG]))))) | fail)
  (conv => whnf)
  refine called_some (SmallD s.2) (fun b => .v (.bool b)) (fun w' hh => by
    have h67 := blk_nest NSA hh 67 (g := g67) [s.2] [.slice ad nd cd2] rfl rfl (by unfold maxLen; simp) rfl ⟨lent_nest nsa_stays rfl rfl hvd hh, trivial⟩
    exact small_one s.2 _ w' (nest_to h67)) ?_
  intro b hb
  cases b with
  | false =>
    repeat' ((conv => whnf); first | refine walk (Tryd.ok ..) ?_ | (refine Cnd.mk (fun h => ?_) (fun h => ?_) <;> (first | exact cndT h (by (try dsimp only); omega) | exact cndF h (by (try dsimp only); omega) | (exfalso; simp at h; omega) | simp at h | skip)) | refine side2 ?_ | fail)
    exact done_some rfl rfl false (fun h => by cases h) rfl
  | true =>
  repeat' ((conv => whnf); first | refine walk (Tryd.ok ..) ?_ | (refine Cnd.mk (fun h => ?_) (fun h => ?_) <;> (first | exact cndT h (by (try dsimp only); omega) | exact cndF h (by (try dsimp only); omega) | (exfalso; simp at h; omega) | simp at h | skip)) | refine side2 ?_ | refine sideL2 ?_ | fail)
  refine ⟨k + 1, ⟨⟨hk1, fun t ht => ?_⟩, by omega⟩, ?_, ?_, rfl⟩
  · rw [List.take_add_one, hs] at ht
    rcases List.mem_append.1 ht with ht | ht
    · exact hs1 t ht
    · simp at ht
      subst ht
      exact ⟨hsz, hb rfl⟩
  all_goals ((repeat' (first | exact trivial | exact rfl | refine And.intro ?_ ?_)) <;> (try (conv => whnf)) <;> (try simp only [SV.real, SV.r2, SV.r1]))
end
section
open Go Sat Go.RowKit Go.PlainAid
theorem nmsgsA_len {w : World} {B : Nat → Prop} {v : Value} {l : List Msg} (h : NMsgs NSA w B v l) : ∃ a c, v = .slice a l.length c := by
  obtain ⟨a, A, cap, xs, hv, -⟩ := h
  exact ⟨a, cap, hv⟩
theorem nsegs_sl {R : Lies Dat} {w : World} {B : Nat → Prop} {v : Value} {l : List Sg} (h : NSegs R w B v l) : ∃ a n c, v = .slice a n c := by
  obtain ⟨a, A, cap, xs, hv, -⟩ := h
  exact ⟨_, _, _, hv⟩
theorem ArgM.fewW {l : List Msg} (h : ArgM l) : ∀ m ∈ l, FewW m := fun m hm => by
  obtain ⟨h1, h2, -, h3⟩ := h.msg m hm
  refine ⟨Nat.le_trans h1 (by decide), Nat.le_trans h2 (by decide), fun s hs => ?_⟩
  obtain ⟨h4, h5, h6⟩ := h3 s hs
  exact ⟨⟨Nat.le_trans h4 (by decide), h6⟩, h5⟩
theorem mix_aggz {cx : Cx} (hM : cx.M = []) {A : Option (Nat × Nat)} {n z d : Nat} {w0 : World} {gs : List Nat} {xs : List Value} {k i : Nat} {cs : List Value} (h : Ro w0 A n z xs) (hB : ∀ p, A = some p → 0 < n → p.1 ∈ gs ∨ p.1 < cx.n0) (hc : cut1 xs z i = cs) (hl : cs.length = z) (hk : k = i * z) (hi : i < n) {H0 : Heap} (hw0 : Holds cx H0 w0) {H : Heap} (hf : hfind H d = some (.own gs (Frz w0 gs))) : cs.length = z ∧ ∀ w, Holds cx H w → ∀ (j : Nat) (u : Value), cs[j]? = some u → w.cell? ((adAt (adr A) k).add j) = some u := by
  refine ⟨hl, fun w hw j u hu => ?_⟩
  have hj : j < z := by rw [← hl]; exact (List.getElem?_eq_some_iff.1 hu).1
  have hx : xs[k + j]? = some u := by rw [hk, cut1_at hc (by omega), hu]
  obtain ⟨p, rfl, hlt, hcell⟩ := h.2 (by omega)
  rw [← hcell (k + j) u hx, ad_some, add_mk, Nat.add_assoc]
  refine World.cell?_of_block ?_
  rcases hB p rfl (by omega) with hg | hg
  · exact frz_of hf hw p.1 hg
  · rw [hw.keep.block p.1 hg (by rw [hM]; simp), hw0.keep.block p.1 hg (by rw [hM]; simp)]
set_option maxRecDepth 100000 in
set_option maxHeartbeats 16000000 in
theorem writesM_any (l : List Msg) (v : Value) (w : World) (hw : WfT w) (hA : NMsgs NSA w (fun _ => True) v l) (hf : ArgM l) (h6 : l.length ≤ 6) (hs : ∀ m ∈ l, m.segs.length ≤ 12) :
    Calls Tryd.prog 12 #[v] w fun e w' => e = .returned (.bool true) ∧ Below w.heap.size w w' := by
  obtain ⟨pv, cv, rfl⟩ : ∃ a c, v = .slice a l.length c := by
    obtain ⟨a, A, cap, xs, hv, -⟩ := hA
    exact ⟨a, cap, hv⟩
  refine calls_sat (cx := Tryd.cx 57 [9] [] [] w) (Tryd.ok ..) Tryd.func12 rfl [.v (.slice pv l.length cv)] rfl (by show 1 ≤ 57; omega) [] (holds_nil (Nat.le_refl _)) ?_
  have hAw : ∀ {H : Heap} {w' : World}, Holds (Tryd.cx 57 [9] [] [] w) H w' → NMsgs NSA w' (fun _ => True) (.slice pv l.length cv) l := fun hh => lent_nest (nmsgs_stays nsa_stays) rfl rfl hA hh
  have hAl : ∀ {H : Heap} {w' : World}, Holds (Tryd.cx 57 [9] [] [] w) H w' → NMsgs NSA w' (fun g => g < w.heap.size) (.slice pv l.length cv) l := fun hh => lent_low (nmsgs_stays nsa_stays) (nmsgs_narrow nsa_narrow) rfl rfl hA hh
  have hO : FewO l := ⟨by omega, fun m hm => ⟨by have := hs m hm; omega, fun s hx => ((hf.msg m hm).2.2.2 s hx).2.1⟩⟩
  have hmany : (segsL l).length ≤ 1000000 := by
    have h2 : ∀ (l : List Msg), (∀ m ∈ l, m.segs.length ≤ 12) → (segsL l).length ≤ l.length * 14 := by
      intro l
      induction l with
      | nil => intro _; simp [segsL]
      | cons m l ih =>
        intro hs
        have h1 := hs m List.mem_cons_self
        have h2 := ih (fun m hm => hs m (List.mem_cons_of_mem _ hm))
        rw [show segsL (m :: l) = segsM m ++ segsL l from rfl, List.length_append, segsM_len, List.length_cons]
        omega
    have := h2 l hs
    omega
  repeat' ((conv => whnf); first | refine walk (Tryd.ok ..) ?_ | fail)
  (conv => whnf)
  refine called_nest 901 (mk := id) (Q := fun w B v => NMsgs NS w B v l) (fun v => .v v) (fun _ => rfl) (fun w' hh => by exact (ownM_row l _ w' (hAw hh) hO).mono fun _ _ h => gives_of_M h) ?_
  intro w1 gs1 v1 h1
  obtain ⟨A1', A1, c1, xs1, rfl, aA1, hc1, hr1, hB1, hx1⟩ := h1
  have h1 : NMsgs NS w1 (fun g => g ∈ gs1) (.slice A1' l.length c1) l := ⟨A1', A1, c1, xs1, rfl, aA1, hc1, hr1, hB1, hx1⟩
  repeat' ((conv => whnf); first | refine walk (Tryd.ok ..) ?_ | fail)
  (conv => whnf)
  obtain ⟨tx, te, hW⟩ : ∃ tx te, writeG l = (tx, te) := ⟨_, _, rfl⟩
  refine called_at (.t [.v (.string tx), .v (.int .i64 te)]) rfl (fun w' hh => by exact writeG_lit hW _ w' (hw.at_ rfl rfl hh) (nmsgs_arg (frz_is (nmsgs_stays ns_stays) h1 (d := 901) rfl hh)) hf.fewW hmany) ?_
  repeat' ((conv => whnf); first | refine walk (Tryd.ok ..) ?_ | fail)
  (conv => whnf)
  refine called_nestK 902 (mk := id) (Q := fun w' B v => NMsgs NSA w' (fun g => B g ∨ g < w.heap.size) v l) (fun v => .v v) (fun _ => rfl) (fun w' hh => by exact bareM_any l _ w' _ (hAl hh) (by omega) (fun m hm => by have := hs m hm; omega)) ?_
  intro w2 gs2 v2 h2 hw2
  obtain ⟨a2, c2, rfl⟩ := nmsgsA_len h2
  skip
  (conv => whnf)
  refine called_at (.t [.v (.string tx), .v (.int .i64 te)]) rfl (fun w' hh => by
    have := rWriteM_any l _ w' (mix_nest (nmsgs_stays nsa_stays) rfl h2 hw2 (d := 902) rfl hh _ (fun _ _ => trivial)) hf.fewW hmany
    rw [hW] at this
    exact this) ?_
  repeat' ((conv => whnf); first | refine walk (Tryd.ok ..) ?_ | refine side2 ?_ | refine sideL2 ?_ | fail)
  (conv => whnf)
  have hsame : ∀ {H : Heap} {w' : World}, Holds (Tryd.cx 57 [9] [] [] w) H w' → hfind H 901 = some (.own gs1 (Frz w1 gs1)) → Calls Tryd.prog 20 #[.slice A1' l.length c1, .slice pv l.length cv] w' fun e w'' => e = .returned (.bool true) ∧ Below w'.heap.size w' w'' := fun hh hf => by
    have := sameG_any l l _ _ _ (nmsgs_arg (frz_is (nmsgs_stays ns_stays) h1 (d := 901) hf hh)) (hAw hh)
    rw [decide_eq_true (rfl : l = l)] at this
    exact this
  refine calledQ_at (.v (.bool true)) rfl (fun _ w' hh => by exact hsame hh rfl) ?_
  have htt : (tx == tx) = true := (MapKept.bytes_beq _ _).2 rfl
  repeat' ((conv => whnf); first | refine walk (Tryd.ok ..) ?_ | (refine Cnd.mk (fun h => ?_) (fun h => ?_) <;> (first | exact cndT h (by (try dsimp only); omega) | exact cndF h (by (try dsimp only); omega) | (exfalso; simp at h; omega) | simp at h | skip)) | refine side2 ?_ | fail)
  (conv => whnf)
  refine called_nestK 903 (mk := id) (Q := fun w' B v => NMsgs NSA w' (fun g => B g ∨ g < w.heap.size) v l) (fun v => .v v) (fun _ => rfl) (fun w' hh => by exact bareM_any l _ w' _ (hAl hh) (by omega) (fun m hm => by have := hs m hm; omega)) ?_
  intro w3 gs3 v3 h3 hw3
  obtain ⟨A3', A3, c3, xs3, rfl, aA3, hc3, hr3, hB3, hx3⟩ := h3
  have hmax : l.length ≤ 9223372036854775807 := by omega
  repeat' ((conv => whnf); first | refine walk (Tryd.ok ..) ?_ | fail)
  refine sat_loop (Tryd.ok ..) (α := Nat) (fun i => ([(0, .yes, .v (.slice pv l.length cv)), (3, .yes, .v (.slice A1' l.length c1)), (38, .yes, .v (.slice A3' l.length c3)), (39, .yes, .v (.int .i64 l.length)), (40, .yes, .v (.int .i64 i))], [(901, .own gs1 (Frz w1 gs1)), (903, .own gs3 (Frz w3 gs3))]))
    (fun i => i ≤ l.length) (fun i => l.length - i) (fun _ => rfl) ?_ ?_
  · refine ⟨0, Nat.zero_le _, ?_, ?_, rfl⟩
    all_goals ((repeat' (first | exact trivial | exact rfl | refine And.intro ?_ ?_)) <;> (try (conv => whnf)) <;> (try simp only [SV.real, SV.r2, SV.r1]))
  rintro i hi
  by_cases hi1 : i < l.length
  case neg =>
    obtain rfl : i = l.length := by omega
    repeat' ((conv => whnf); first | refine walk (Tryd.ok ..) ?_ | (refine Cnd.mk (fun h => ?_) (fun h => ?_) <;> (first | exact cndT h (by (try dsimp only); omega) | exact cndF h (by (try dsimp only); omega) | (exfalso; simp at h; omega) | simp at h | skip)) | fail)
    (conv => whnf)
    refine called_at (.v (.bool true)) rfl (fun w' hh => by exact hsame hh rfl) ?_
    repeat' ((conv => whnf); first | refine walk (Tryd.ok ..) ?_ | fail)
    exact done_pure rfl rfl rfl
  obtain ⟨m, hm⟩ : ∃ s, l[i]? = some s := ⟨_, List.getElem?_eq_getElem hi1⟩
  obtain ⟨va, hca, hna⟩ := hx3 i m hm
  obtain ⟨vb, hcb, hns⟩ := hx1 i m hm
  obtain ⟨aa, na, ca, rfl⟩ := nsegs_sl hna
  obtain ⟨ab, nb, cb, rfl⟩ := nsegs_sl hns
  obtain ⟨p3, rfl, rfl⟩ := some_ofz aA3 hr3 (by omega)
  obtain ⟨p1, rfl, rfl⟩ := some_ofz aA1 hr1 (by omega)
  repeat' ((conv => whnf); first | refine walk (Tryd.ok ..) ?_ | (refine Cnd.mk (fun h => ?_) (fun h => ?_) <;> (first | exact cndT h (by (try dsimp only); omega) | exact cndF h (by (try dsimp only); omega) | (exfalso; simp at h; omega) | simp at h | skip)) | refine side2 ?_ | refine xi _ (mix_aggz rfl hr3 hB3 hca rfl (kz i 3) hi1 hw3 (d := 903) rfl) ?_ | fail)
  (conv => whnf)
  intro g9 hg9
  repeat' ((conv => whnf); first | refine walk (Tryd.ok ..) ?_ | refine side2 ?_ | fail)
  refine sat_draw (Tryd.ok ..) [] [(901, .own gs1 (Frz w1 gs1)), (9, .blk g9 65 [.v (.string m.kind), .v (.string m.ref), .v (.slice aa na ca)])] (by kernel_rfl) (fun w hw => hw.sub ?_) ?_
  · exact hsub_of rfl
  repeat' ((conv => whnf); first | refine side2 ?_ | refine xi _ (frz_aggz (d := 901) hr1 hB1 hcb rfl (kz i 3) hi1 rfl) ?_ | fail)
  (conv => whnf)
  refine called_at (.v (.bool (rightM m))) rfl (fun w' hh => by exact rightm_any m _ w' (nsegs_arg (frz_is (nsegs_stays ns_stays) hns (d := 901) rfl hh)) (hf.fewW m (List.mem_of_getElem? hm)).m) ?_
  repeat' ((conv => whnf); first | refine kp ?_ ?_ | exact trivial | refine side2 ?_ | fail)
  (conv => whnf)
  refine called_at (.v (.bool (rightM m))) rfl (fun w' hh => by exact rRightM_any m _ w' (mix_nest (nsegs_stays nsa_stays) rfl hna hw3 (d := 903) rfl hh _ (fun _ _ => trivial)) (hf.fewW m (List.mem_of_getElem? hm)).m) ?_
  cases rightM m
  · repeat' ((conv => whnf); first | refine walk (Tryd.ok ..) ?_ | (refine Cnd.mk (fun h => ?_) (fun h => ?_) <;> (first | exact cndT h (by (try dsimp only); omega) | exact cndF h (by (try dsimp only); omega) | (exfalso; simp at h; omega) | simp at h | skip)) | refine kp ?_ ?_ | exact trivial | refine side2 ?_ | refine sideL2 ?_ | fail)
    refine ⟨i + 1, ⟨hi1, by omega⟩, ?_, ?_, rfl⟩
    all_goals ((repeat' (first | exact trivial | exact rfl | refine And.intro ?_ ?_)) <;> (try (conv => whnf)) <;> (try simp only [SV.real, SV.r2, SV.r1]))
  · repeat' ((conv => whnf); first | refine walk (Tryd.ok ..) ?_ | (refine Cnd.mk (fun h => ?_) (fun h => ?_) <;> (first | exact cndT h (by (try dsimp only); omega) | exact cndF h (by (try dsimp only); omega) | (exfalso; simp at h; omega) | simp at h | skip)) | refine kp ?_ ?_ | exact trivial | refine side2 ?_ | refine sideL2 ?_ | fail)
    refine ⟨i + 1, ⟨hi1, by omega⟩, ?_, ?_, rfl⟩
    all_goals ((repeat' (first | exact trivial | exact rfl | refine And.intro ?_ ?_)) <;> (try (conv => whnf)) <;> (try simp only [SV.real, SV.r2, SV.r1]))
set_option maxRecDepth 100000 in
set_option maxHeartbeats 16000000 in
theorem segmentWrites_any (l : List Msg) (v : Value) (w : World) (hw : WfT w) (hA : NMsgs NSA w (fun _ => True) v l) (hf : ArgM l) :
    Calls Tryd.prog 4 #[v] w fun e w' => e = .returned (.bool true) ∧ Below w.heap.size w w' := by
  obtain ⟨pv, cv, rfl⟩ := nmsgsA_len hA
  refine calls_sat (cx := Tryd.cx 13 [] [] [] w) (Tryd.ok ..) Tryd.func4 rfl [.v (.slice pv l.length cv)] rfl (by show 1 ≤ 13; omega) [] (holds_nil (Nat.le_refl _)) ?_
  have hAw : ∀ {H : Heap} {w' : World}, Holds (Tryd.cx 13 [] [] [] w) H w' → NMsgs NSA w' (fun _ => True) (.slice pv l.length cv) l := fun hh => lent_nest (nmsgs_stays nsa_stays) rfl rfl hA hh
  repeat' ((conv => whnf); first | refine walk (Tryd.ok ..) ?_ | fail)
  (conv => whnf)
  refine called_some (SmallG l) (fun b => .v (.bool b)) (fun w' hh => by exact smallG_any l _ w' (hAw hh)) ?_
  intro b hb
  cases b with
  | false =>
    repeat' ((conv => whnf); first | refine sideL2 ?_ | fail)
    (conv => whnf)
    refine calledQ_at (.v (.bool true)) rfl (fun h _ _ => absurd h Bool.false_ne_true) ?_
    repeat' ((conv => whnf); first | (refine Cnd.mk (fun h => ?_) (fun h => ?_) <;> (first | exact cndT h (by (try dsimp only); omega) | exact cndF h (by (try dsimp only); omega) | (exfalso; simp at h; omega) | simp at h | skip)) | refine side2 ?_ | refine Or.inr ?_ | fail)
    (conv => whnf)
    refine called_at (.v (.bool true)) rfl (fun w' hh => by exact awakeG_any w' (hw.at_ rfl rfl hh)) ?_
    repeat' ((conv => whnf); first | refine walk (Tryd.ok ..) ?_ | fail)
    exact done_pure rfl rfl rfl
  | true =>
    obtain ⟨h6, hs⟩ := hb rfl
    repeat' ((conv => whnf); first | refine sideL2 ?_ | fail)
    (conv => whnf)
    refine calledQ_at (.v (.bool true)) rfl (fun _ w' hh => by exact writesM_any l _ w' (hw.at_ rfl rfl hh) (hAw hh) hf h6 (fun m hm => (hs m hm).segs)) ?_
    repeat' ((conv => whnf); first | (refine Cnd.mk (fun h => ?_) (fun h => ?_) <;> (first | exact cndT h (by (try dsimp only); omega) | exact cndF h (by (try dsimp only); omega) | (exfalso; simp at h; omega) | simp at h | skip)) | refine side2 ?_ | refine Or.inr ?_ | fail)
    (conv => whnf)
    refine called_at (.v (.bool true)) rfl (fun w' hh => by exact awakeG_any w' (hw.at_ rfl rfl hh)) ?_
    repeat' ((conv => whnf); first | refine walk (Tryd.ok ..) ?_ | fail)
    exact done_pure rfl rfl rfl
end
end Go.Proofs.YtdohcglpcgahaaaDoor
