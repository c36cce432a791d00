/-
  The walk of the law's bare: messages for the reference. The walk of the law's told: messages of the reference, as those of the program. The walk of the law's reads, and of SegmentReads.
-/
import Derived.Test.YtdohcglpcgahaaaGreatDoorUX
import Derived.Test.YtdohcglpcgahaaaGreatDoorVZX
import Derived.Test.YtdohcglpcgahaaaGreatDoorNX
import Derived.Test.YtdohcglpcgahaaaGreatDoorSXX
import Derived.Test.YtdohcglpcgahaaaGreatDoorPX
set_option linter.unusedSimpArgs false
set_option linter.unusedVariables false
namespace Go.Proofs.YtdohcglpcgahaaaGreatDoor
section
open Go Sat Go.RowKit Go.PlainAid
/-- data that are lent -/
def RL (w0 : World) (Bd : Nat → Prop) : Lies Dat := fun _ _ v d => NSA w0 Bd v d
theorem rl_stays (w0 : World) (Bd : Nat → Prop) : Stays (RL w0 Bd) := fun _ _ _ _ _ _ h _ _ => h
structure GotB (w0 : World) (Bd : Nat → Prop) (wS : World) (S : List Nat) (n : Nat) (xs : List Value) (l : List Msg) : Prop where
  len : xs.length = n * 3
  at_ : ∀ (i : Nat) (m : Msg), i < n → l[i]? = some m → MsgR (RL w0 Bd) wS (fun g => g ∈ S) (cut1 xs 3 i) m
theorem GotB.mono {w0 wS wS' : World} {Bd : Nat → Prop} {S S' : List Nat} {n : Nat} {xs : List Value} {l : List Msg} (h : GotB w0 Bd wS S n xs l) (hS : ∀ g, g ∈ S → wS'.heap[g]? = wS.heap[g]?) (hs : ∀ g, g ∈ S → g ∈ S') : GotB w0 Bd wS' S' n xs l :=
  ⟨h.len, fun i m hi hm => msgr_stays (rl_stays w0 Bd) _ _ _ _ _ _ (h.at_ i m hi hm) (fun g hg _ => hS g hg) hs⟩
theorem GotB.snoc {w0 wS : World} {Bd : Nat → Prop} {S : List Nat} {n : Nat} {xs : List Value} {l : List Msg} {m : Msg} {v : Value} (h : GotB w0 Bd wS S n xs l) (hm : l[n]? = some m) (hv : NSegs (RL w0 Bd) wS (fun g => g ∈ S) v m.segs) : GotB w0 Bd wS S (n + 1) (xs ++ [.string m.kind, .string m.ref, v]) l := by
  refine ⟨by rw [List.length_append, h.len]; simp; omega, fun i a hi ha => ?_⟩
  rcases Nat.lt_or_ge i n with h1 | h1
  · rw [cut1_old h.len h1]
    exact h.at_ i a h1 ha
  · obtain rfl : i = n := by omega
    rw [hm] at ha
    cases ha
    rw [cut1_new h.len rfl]
    exact ⟨v, rfl, hv⟩
theorem sat_recell {cx : Cx} {c : Code} {K : Exit → Env → Heap → Prop} {f : Env} {H : Heap} (id : Nat) {g e : Nat} {cs : List SV} (cs' : List SV) (hf : hfind H id = some (.blk g e cs)) (hr : cs'.map SV.r1 = cs.map SV.r1) (h : Sat cx c K f ((id, .blk g e cs') :: hdel H id)) : Sat cx c K f H := by
  refine ⟨fun a w hfit hw => h.out a w hfit ?_⟩
  have hb : (HB.blk g e cs).holds cx w := hw.at_ hf
  refine hw.turn id (.blk g e cs') (Keep.refl _ _ _) ⟨hb.1, by rw [hr]; exact hb.2⟩ fun x hx g' hg => ⟨rfl, fun hm => ?_⟩
  exact hw.sep _ _ _ _ (hdel_mem hx).1 (hfind_mem hf) (hdel_mem hx).2 g' hg hm
set_option maxRecDepth 100000 in
set_option maxHeartbeats 16000000 in
theorem bareM_any (l : List Msg) (v : Value) (w : World) (Bd : Nat → Prop) (hA : NMsgs NSA w Bd v l) (hl : l.length ≤ 1000000) (hls : ∀ m ∈ l, m.segs.length ≤ 1000000) :
    Calls Tryz.prog 16 #[v] w (Gives id (fun w' B v => NMsgs NSA w' (fun g => B g ∨ Bd g) v l) w) := by
  obtain ⟨A', A, cA, xs, rfl, aA, hcA, hrA, -, hxA⟩ := hA
  refine calls_sat (cx := Tryz.cx 40 [2, 6, 12] [] [] w) (Tryz.ok ..) Tryz.func16 rfl [.v (.slice A' l.length cA)] rfl (by show 1 ≤ 40; omega) [] (holds_nil (Nat.le_refl _)) ?_
  have hmax : l.length ≤ 9223372036854775807 := Nat.le_trans (Nat.le_trans hcA.1 hcA.2) (by decide)
  repeat' ((conv => whnf); first | refine walk (Tryz.ok ..) ?_ | fail)
  refine sat_fuse 977 [] rfl fun w0 hw0 => ?_
  refine sat_ops (Tryz.ok ..) ?_
  repeat' ((conv => whnf); first | refine walk (Tryz.ok ..) ?_ | fail)
  refine sat_loop (Tryz.ok ..) (α := Nat × Option (Nat × Nat) × Nat × List Value × World × List Nat) (fun t => ([(3, .yes, .o 80 t.2.1 t.1 t.2.2.1), (9, .yes, .v (.slice A' l.length cA)), (10, .yes, .v (.int .i64 l.length)), (11, .yes, .v (.int .i64 t.1))], [(80, .row t.2.1 51 3 t.1 t.2.2.1 t.2.2.2.1), (977, .own t.2.2.2.2.2 (Frz t.2.2.2.2.1 t.2.2.2.2.2))]))
    (fun t => t.1 ≤ l.length ∧ GotB w Bd t.2.2.2.2.1 t.2.2.2.2.2 t.1 t.2.2.2.1 l) (fun t => l.length - t.1) (fun _ => rfl) ?_ ?_
  · refine ⟨(0, none, 0, [], w0, []), ⟨Nat.zero_le _, rfl, fun i m h => by omega⟩, ?_, ?_, rfl⟩
    all_goals ((repeat' (first | exact trivial | exact rfl | refine And.intro ?_ ?_)) <;> (try (conv => whnf)) <;> (try simp only [SV.real, SV.r2, SV.r1]))
  rintro ⟨k, A3, cap3, xs3, wS, S⟩ ⟨hk, hg⟩
  dsimp only at hk hg ⊢
  by_cases hk1 : k < l.length
  case neg =>
    obtain rfl : k = l.length := by omega
    repeat' ((conv => whnf); first | refine walk (Tryz.ok ..) ?_ | (refine Cnd.mk (fun h => ?_) (fun h => ?_) <;> (first | exact cndT h (by (try dsimp only); omega) | exact cndF h (by (try dsimp only); omega) | (exfalso; simp at h; omega) | simp at h | skip)) | fail)
    refine done_fuse (v := .slice (adr A3) l.length cap3) rfl rfl [80, 977] (fun w' hw => ?_) rfl
    refine ⟨adr A3, A3, cap3, xs3, rfl, AtN.refl _ _, row_caps hw (id := 80) rfl, ro_of_row hw (id := 80) rfl, fun p hp _ => .inl (gs_sub (i := 80) rfl rfl (by rw [hp]; simp [HB.gs])), fun i m hm => ?_⟩
    obtain ⟨x, hx, h1⟩ := hg.at_ i m (List.getElem?_eq_some_iff.1 hm).1 hm
    refine ⟨x, hx, nestz_in (w := w') (B := fun g => g ∈ gsOf _ [80, 977]) (R := SegR (RL w Bd)) (fun g h => .inl h) (fun cs a h2 => ?_) (nsegs_stays (rl_stays w Bd) _ _ _ _ _ _ h1 (fun g hgs _ => frz_of (d := 977) rfl hw g hgs) (own_sub hw [80, 977] 977 (D := S) (w0 := wS) rfl rfl))⟩
    obtain ⟨y, hy, h3⟩ := h2
    have h4 : NSA w Bd y a.2 := h3
    exact ⟨y, hy, nsa_stays _ _ _ _ _ _ h4 (fun g _ hgl => hw.keep.block g hgl (fun h => (by cases h))) (fun _ h => .inr h)⟩
  obtain ⟨m, hm⟩ : ∃ s, l[k]? = some s := ⟨_, List.getElem?_eq_getElem hk1⟩
  obtain ⟨vm, hcm, hvm⟩ := hxA k m hm
  obtain ⟨am, Am, cm, xm, rfl, aAm, hcmm, hrm, -, hxm⟩ := hvm
  obtain ⟨p, rfl, rfl⟩ := some_ofz aA hrA (by omega)
  have hmaxm : m.segs.length ≤ 9223372036854775807 := Nat.le_trans (Nat.le_trans hcmm.1 hcmm.2) (by decide)
  have htopm := hls m (List.mem_of_getElem? hm)
  repeat' ((conv => whnf); first | refine walk (Tryz.ok ..) ?_ | (refine Cnd.mk (fun h => ?_) (fun h => ?_) <;> (first | exact cndT h (by (try dsimp only); omega) | exact cndF h (by (try dsimp only); omega) | (exfalso; simp at h; omega) | simp at h | skip)) | refine side2 ?_ | refine xi _ (ro_aggz rfl rfl hrA hcm rfl (kz k 3) hk1) ?_ | fail)
  (conv => whnf)
  intro g5 hg5
  repeat' ((conv => whnf); first | refine walk (Tryz.ok ..) ?_ | refine side2 ?_ | refine xi _ (And.intro rfl rfl) ?_ | fail)
  (conv => whnf)
  intro g6 hg6
  repeat' ((conv => whnf); first | refine walk (Tryz.ok ..) ?_ | refine side2 ?_ | fail)
  refine sat_recell 6 [.v (.string m.kind), .v (.string m.ref), .o 81 none 0 0] rfl rfl ?_
  refine sat_ops (Tryz.ok ..) ?_
  repeat' ((conv => whnf); first | refine walk (Tryz.ok ..) ?_ | refine side2 ?_ | refine xi _ (And.intro rfl rfl) ?_ | fail)
  refine sat_loop (Tryz.ok ..) (α := Nat × Option (Nat × Nat) × Nat × List Value) (fun t => ([(3, .yes, .o 80 A3 k cap3), (5, .yes, .p 5 g5 0 0), (6, .yes, .p 6 g6 0 0), (9, .yes, .v (.slice (adr (some p)) l.length cA)), (10, .yes, .v (.int .i64 l.length)), (11, .yes, .v (.int .i64 k)), (21, .yes, .v (.slice am m.segs.length cm)), (22, .yes, .v (.int .i64 m.segs.length)), (23, .yes, .v (.int .i64 t.1))], [(5, .blk g5 28 [.v (.string m.kind), .v (.string m.ref), .v (.slice am m.segs.length cm)]), (6, .blk g6 51 [.v (.string m.kind), .v (.string m.ref), .o 81 t.2.1 t.1 t.2.2.1]), (81, .row t.2.1 81 2 t.1 t.2.2.1 t.2.2.2), (80, .row A3 51 3 k cap3 xs3), (977, .own S (Frz wS S))]))
    (fun t => t.1 ≤ m.segs.length ∧ t.2.2.2.length = t.1 * 2 ∧ (∀ (j : Nat) (s : Sg), j < t.1 → m.segs[j]? = some s → SegR (RL w Bd) wS (fun g => g ∈ S) (cut1 t.2.2.2 2 j) s)) (fun t => m.segs.length - t.1) (fun _ => rfl) ?_ ?_
  · refine ⟨(0, none, 0, []), ⟨Nat.zero_le _, rfl, fun j s h => by omega⟩, ?_, ?_, rfl⟩
    all_goals ((repeat' (first | exact trivial | exact rfl | refine And.intro ?_ ?_)) <;> (try (conv => whnf)) <;> (try simp only [SV.real, SV.r2, SV.r1]))
  rintro ⟨j, A6, cap6, xs6⟩ ⟨hj, hl6, h6⟩
  dsimp only at hj hl6 h6 ⊢
  by_cases hj1 : j < m.segs.length
  case neg =>
    obtain rfl : j = m.segs.length := by omega
    repeat' ((conv => whnf); first | refine walk (Tryz.ok ..) ?_ | (refine Cnd.mk (fun h => ?_) (fun h => ?_) <;> (first | exact cndT h (by (try dsimp only); omega) | exact cndF h (by (try dsimp only); omega) | (exfalso; simp at h; omega) | simp at h | skip)) | refine side2 ?_ | fail)
    (conv => whnf)
    intro g36 hg36
    repeat' ((conv => whnf); first | refine side2 ?_ | refine Or.inr ?_ | fail)
    (conv => whnf)
    intro A37 cap37
    repeat' ((conv => whnf); first | refine walk (Tryz.ok ..) ?_ | fail)
    refine sat_fuse 977 [977, 81] rfl fun w4 hw4 => ?_
    have hS' := segs_row (R := RL w Bd) (fun _ _ _ _ _ _ h => h) [977, 81] 81 hw4 rfl rfl rfl h6
    have hg2 := hg.mono (frz_of (d := 977) rfl hw4) (own_sub hw4 [977, 81] 977 (D := S) (w0 := wS) rfl rfl)
    refine sat_ops (Tryz.ok ..) ?_
    repeat' ((conv => whnf); first | refine sideL2 ?_ | fail)
    refine ⟨(k + 1, A37, cap37, _, w4, _), ⟨⟨hk1, hg2.snoc hm hS'⟩, by show l.length - (k + 1) < l.length - k; omega⟩, ?_, ?_, rfl⟩
    all_goals ((repeat' (first | exact trivial | exact rfl | refine And.intro ?_ ?_)) <;> (try (conv => whnf)) <;> (try simp only [SV.real, SV.r2, SV.r1]))
  obtain ⟨s, hs⟩ : ∃ s, m.segs[j]? = some s := ⟨_, List.getElem?_eq_getElem hj1⟩
  obtain ⟨vd, hcd, hvd⟩ := hxm j s hs
  obtain ⟨q, rfl, rfl⟩ := some_ofz aAm hrm (by omega)
  obtain ⟨ad, nd, cd2, rfl⟩ := nsa_sl _ _ _ _ hvd
  repeat' ((conv => whnf); first | refine walk (Tryz.ok ..) ?_ | (refine Cnd.mk (fun h => ?_) (fun h => ?_) <;> (first | exact cndT h (by (try dsimp only); omega) | exact cndF h (by (try dsimp only); omega) | (exfalso; simp at h; omega) | simp at h | skip)) | refine side2 ?_ | refine xi _ (ro_aggz rfl rfl hrm hcd rfl (kz j 2) hj1) ?_ | fail)
  (conv => whnf)
  intro g8 hg8
  repeat' ((conv => whnf); first | refine walk (Tryz.ok ..) ?_ | refine side2 ?_ | refine xi _ (And.intro rfl rfl) ?_ | fail)
  (conv => whnf)
  intro g30 hg30
  repeat' ((conv => whnf); first | refine side2 ?_ | refine Or.inr ?_ | fail)
  (conv => whnf)
  intro A31 cap31
  repeat' ((conv => whnf); first | refine walk (Tryz.ok ..) ?_ | refine side2 ?_ | refine sideL2 ?_ | fail)
  refine ⟨(j + 1, A31, cap31, _), ⟨⟨hj1, by rw [List.length_append, hl6]; simp; omega, segs_snoc hl6 h6 hs hvd⟩, by show m.segs.length - (j + 1) < m.segs.length - j; omega⟩, ?_, ?_, rfl⟩
  all_goals ((repeat' (first | exact trivial | exact rfl | refine And.intro ?_ ?_)) <;> (try (conv => whnf)) <;> (try simp only [SV.real, SV.r2, SV.r1]))
end
section
open Go Sat Go.RowKit Go.PlainAid
set_option maxRecDepth 100000 in
set_option maxHeartbeats 16000000 in
theorem toldM_any (l : List Msg) (v : Value) (w : World) (Bd : Nat → Prop) (hA : NMsgs NSA w Bd v l) (hl : l.length ≤ 1000000) (hls : ∀ m ∈ l, m.segs.length ≤ 1000000) :
    Calls Tryz.prog 11 #[v] w (Gives id (fun w' B v => NMsgs NSA w' (fun g => B g ∨ Bd g) v l) w) := by
  obtain ⟨A', A, cA, xs, rfl, aA, hcA, hrA, -, hxA⟩ := hA
  refine calls_sat (cx := Tryz.cx 40 [2, 6, 12] [] [] w) (Tryz.ok ..) Tryz.func11 rfl [.v (.slice A' l.length cA)] rfl (by show 1 ≤ 40; omega) [] (holds_nil (Nat.le_refl _)) ?_
  have hmax : l.length ≤ 9223372036854775807 := Nat.le_trans (Nat.le_trans hcA.1 hcA.2) (by decide)
  repeat' ((conv => whnf); first | refine walk (Tryz.ok ..) ?_ | fail)
  refine sat_fuse 977 [] rfl fun w0 hw0 => ?_
  refine sat_ops (Tryz.ok ..) ?_
  repeat' ((conv => whnf); first | refine walk (Tryz.ok ..) ?_ | fail)
  refine sat_loop (Tryz.ok ..) (α := Nat × Option (Nat × Nat) × Nat × List Value × World × List Nat) (fun t => ([(3, .yes, .o 80 t.2.1 t.1 t.2.2.1), (9, .yes, .v (.slice A' l.length cA)), (10, .yes, .v (.int .i64 l.length)), (11, .yes, .v (.int .i64 t.1))], [(80, .row t.2.1 28 3 t.1 t.2.2.1 t.2.2.2.1), (977, .own t.2.2.2.2.2 (Frz t.2.2.2.2.1 t.2.2.2.2.2))]))
    (fun t => t.1 ≤ l.length ∧ GotB w Bd t.2.2.2.2.1 t.2.2.2.2.2 t.1 t.2.2.2.1 l) (fun t => l.length - t.1) (fun _ => rfl) ?_ ?_
  · refine ⟨(0, none, 0, [], w0, []), ⟨Nat.zero_le _, rfl, fun i m h => by omega⟩, ?_, ?_, rfl⟩
    all_goals ((repeat' (first | exact trivial | exact rfl | refine And.intro ?_ ?_)) <;> (try (conv => whnf)) <;> (try simp only [SV.real, SV.r2, SV.r1]))
  rintro ⟨k, A3, cap3, xs3, wS, S⟩ ⟨hk, hg⟩
  dsimp only at hk hg ⊢
  by_cases hk1 : k < l.length
  case neg =>
    obtain rfl : k = l.length := by omega
    repeat' ((conv => whnf); first | refine walk (Tryz.ok ..) ?_ | (refine Cnd.mk (fun h => ?_) (fun h => ?_) <;> (first | exact cndT h (by (try dsimp only); omega) | exact cndF h (by (try dsimp only); omega) | (exfalso; simp at h; omega) | simp at h | skip)) | fail)
    refine done_fuse (v := .slice (adr A3) l.length cap3) rfl rfl [80, 977] (fun w' hw => ?_) rfl
    refine ⟨adr A3, A3, cap3, xs3, rfl, AtN.refl _ _, row_caps hw (id := 80) rfl, ro_of_row hw (id := 80) rfl, fun p hp _ => .inl (gs_sub (i := 80) rfl rfl (by rw [hp]; simp [HB.gs])), fun i m hm => ?_⟩
    obtain ⟨x, hx, h1⟩ := hg.at_ i m (List.getElem?_eq_some_iff.1 hm).1 hm
    refine ⟨x, hx, nestz_in (w := w') (B := fun g => g ∈ gsOf _ [80, 977]) (R := SegR (RL w Bd)) (fun g h => .inl h) (fun cs a h2 => ?_) (nsegs_stays (rl_stays w Bd) _ _ _ _ _ _ h1 (fun g hgs _ => frz_of (d := 977) rfl hw g hgs) (own_sub hw [80, 977] 977 (D := S) (w0 := wS) rfl rfl))⟩
    obtain ⟨y, hy, h3⟩ := h2
    have h4 : NSA w Bd y a.2 := h3
    exact ⟨y, hy, nsa_stays _ _ _ _ _ _ h4 (fun g _ hgl => hw.keep.block g hgl (fun h => (by cases h))) (fun _ h => .inr h)⟩
  obtain ⟨m, hm⟩ : ∃ s, l[k]? = some s := ⟨_, List.getElem?_eq_getElem hk1⟩
  obtain ⟨vm, hcm, hvm⟩ := hxA k m hm
  obtain ⟨am, Am, cm, xm, rfl, aAm, hcmm, hrm, -, hxm⟩ := hvm
  obtain ⟨p, rfl, rfl⟩ := some_ofz aA hrA (by omega)
  have hmaxm : m.segs.length ≤ 9223372036854775807 := Nat.le_trans (Nat.le_trans hcmm.1 hcmm.2) (by decide)
  have htopm := hls m (List.mem_of_getElem? hm)
  repeat' ((conv => whnf); first | refine walk (Tryz.ok ..) ?_ | (refine Cnd.mk (fun h => ?_) (fun h => ?_) <;> (first | exact cndT h (by (try dsimp only); omega) | exact cndF h (by (try dsimp only); omega) | (exfalso; simp at h; omega) | simp at h | skip)) | refine side2 ?_ | refine xi _ (ro_aggz rfl rfl hrA hcm rfl (kz k 3) hk1) ?_ | fail)
  (conv => whnf)
  intro g5 hg5
  repeat' ((conv => whnf); first | refine walk (Tryz.ok ..) ?_ | refine side2 ?_ | refine xi _ (And.intro rfl rfl) ?_ | fail)
  (conv => whnf)
  intro g6 hg6
  repeat' ((conv => whnf); first | refine walk (Tryz.ok ..) ?_ | refine side2 ?_ | fail)
  refine sat_recell 6 [.v (.string m.kind), .v (.string m.ref), .o 81 none 0 0] rfl rfl ?_
  refine sat_ops (Tryz.ok ..) ?_
  repeat' ((conv => whnf); first | refine walk (Tryz.ok ..) ?_ | refine side2 ?_ | refine xi _ (And.intro rfl rfl) ?_ | fail)
  refine sat_loop (Tryz.ok ..) (α := Nat × Option (Nat × Nat) × Nat × List Value) (fun t => ([(3, .yes, .o 80 A3 k cap3), (5, .yes, .p 5 g5 0 0), (6, .yes, .p 6 g6 0 0), (9, .yes, .v (.slice (adr (some p)) l.length cA)), (10, .yes, .v (.int .i64 l.length)), (11, .yes, .v (.int .i64 k)), (21, .yes, .v (.slice am m.segs.length cm)), (22, .yes, .v (.int .i64 m.segs.length)), (23, .yes, .v (.int .i64 t.1))], [(5, .blk g5 51 [.v (.string m.kind), .v (.string m.ref), .v (.slice am m.segs.length cm)]), (6, .blk g6 28 [.v (.string m.kind), .v (.string m.ref), .o 81 t.2.1 t.1 t.2.2.1]), (81, .row t.2.1 32 2 t.1 t.2.2.1 t.2.2.2), (80, .row A3 28 3 k cap3 xs3), (977, .own S (Frz wS S))]))
    (fun t => t.1 ≤ m.segs.length ∧ t.2.2.2.length = t.1 * 2 ∧ (∀ (j : Nat) (s : Sg), j < t.1 → m.segs[j]? = some s → SegR (RL w Bd) wS (fun g => g ∈ S) (cut1 t.2.2.2 2 j) s)) (fun t => m.segs.length - t.1) (fun _ => rfl) ?_ ?_
  · refine ⟨(0, none, 0, []), ⟨Nat.zero_le _, rfl, fun j s h => by omega⟩, ?_, ?_, rfl⟩
    all_goals ((repeat' (first | exact trivial | exact rfl | refine And.intro ?_ ?_)) <;> (try (conv => whnf)) <;> (try simp only [SV.real, SV.r2, SV.r1]))
  rintro ⟨j, A6, cap6, xs6⟩ ⟨hj, hl6, h6⟩
  dsimp only at hj hl6 h6 ⊢
  by_cases hj1 : j < m.segs.length
  case neg =>
    obtain rfl : j = m.segs.length := by omega
    repeat' ((conv => whnf); first | refine walk (Tryz.ok ..) ?_ | (refine Cnd.mk (fun h => ?_) (fun h => ?_) <;> (first | exact cndT h (by (try dsimp only); omega) | exact cndF h (by (try dsimp only); omega) | (exfalso; simp at h; omega) | simp at h | skip)) | refine side2 ?_ | fail)
    (conv => whnf)
    intro g36 hg36
    repeat' ((conv => whnf); first | refine side2 ?_ | refine Or.inr ?_ | fail)
    (conv => whnf)
    intro A37 cap37
    repeat' ((conv => whnf); first | refine walk (Tryz.ok ..) ?_ | fail)
    refine sat_fuse 977 [977, 81] rfl fun w4 hw4 => ?_
    have hS' := segs_row (R := RL w Bd) (fun _ _ _ _ _ _ h => h) [977, 81] 81 hw4 rfl rfl rfl h6
    have hg2 := hg.mono (frz_of (d := 977) rfl hw4) (own_sub hw4 [977, 81] 977 (D := S) (w0 := wS) rfl rfl)
    refine sat_ops (Tryz.ok ..) ?_
    repeat' ((conv => whnf); first | refine sideL2 ?_ | fail)
    refine ⟨(k + 1, A37, cap37, _, w4, _), ⟨⟨hk1, hg2.snoc hm hS'⟩, by show l.length - (k + 1) < l.length - k; omega⟩, ?_, ?_, rfl⟩
    all_goals ((repeat' (first | exact trivial | exact rfl | refine And.intro ?_ ?_)) <;> (try (conv => whnf)) <;> (try simp only [SV.real, SV.r2, SV.r1]))
  obtain ⟨s, hs⟩ : ∃ s, m.segs[j]? = some s := ⟨_, List.getElem?_eq_getElem hj1⟩
  obtain ⟨vd, hcd, hvd⟩ := hxm j s hs
  obtain ⟨q, rfl, rfl⟩ := some_ofz aAm hrm (by omega)
  obtain ⟨ad, nd, cd2, rfl⟩ := nsa_sl _ _ _ _ hvd
  repeat' ((conv => whnf); first | refine walk (Tryz.ok ..) ?_ | (refine Cnd.mk (fun h => ?_) (fun h => ?_) <;> (first | exact cndT h (by (try dsimp only); omega) | exact cndF h (by (try dsimp only); omega) | (exfalso; simp at h; omega) | simp at h | skip)) | refine side2 ?_ | refine xi _ (ro_aggz rfl rfl hrm hcd rfl (kz j 2) hj1) ?_ | fail)
  (conv => whnf)
  intro g8 hg8
  repeat' ((conv => whnf); first | refine walk (Tryz.ok ..) ?_ | refine side2 ?_ | refine xi _ (And.intro rfl rfl) ?_ | fail)
  (conv => whnf)
  intro g30 hg30
  repeat' ((conv => whnf); first | refine side2 ?_ | refine Or.inr ?_ | fail)
  (conv => whnf)
  intro A31 cap31
  repeat' ((conv => whnf); first | refine walk (Tryz.ok ..) ?_ | refine side2 ?_ | refine sideL2 ?_ | fail)
  refine ⟨(j + 1, A31, cap31, _), ⟨⟨hj1, by rw [List.length_append, hl6]; simp; omega, segs_snoc hl6 h6 hs hvd⟩, by show m.segs.length - (j + 1) < m.segs.length - j; omega⟩, ?_, ?_, rfl⟩
  all_goals ((repeat' (first | exact trivial | exact rfl | refine And.intro ?_ ?_)) <;> (try (conv => whnf)) <;> (try simp only [SV.real, SV.r2, SV.r1]))
end
section
open Go Sat Go.RowKit Go.PlainAid
theorem nmsgs_len' {R : Lies Dat} {w : World} {B : Nat → Prop} {v : Value} {l : List Msg} (h : NMsgs R w B v l) : ∃ a c, v = .slice a l.length c := by
  obtain ⟨a, A, cap, xs, hv, -⟩ := h
  exact ⟨a, cap, hv⟩
/-- bounds of what is read -/
structure FewR (l : List Msg) : Prop where
  top : l.length ≤ 5000
  seg : ∀ m ∈ l, m.segs.length ≤ 5000
  ne : ∀ m ∈ l, ∀ s ∈ m.segs, ∀ e ∈ s.2, e ≠ []
theorem segs_ge : ∀ (l : List Msg), l.length ≤ (segsL l).length ∧ ∀ m ∈ l, m.segs.length ≤ (segsL l).length
  | [] => ⟨Nat.le_refl _, fun m h => by cases h⟩
  | x :: l => by
    obtain ⟨h1, h2⟩ := segs_ge l
    have e : (segsL (x :: l)).length = (x.segs.length + 2) + (segsL l).length := by
      rw [show segsL (x :: l) = segsM x ++ segsL l from rfl, List.length_append]
      simp [segsM]
    refine ⟨by rw [e, List.length_cons]; omega, fun m hm => ?_⟩
    rcases List.mem_cons.1 hm with rfl | hm
    · omega
    · have := h2 m hm
      omega
theorem readG_few (t : List UInt8) : FewR (readG t).1 := by
  obtain ⟨l, p, e, h⟩ : ∃ l p e, readG t = (l, p, e) := ⟨_, _, _, rfl⟩
  rw [h]
  by_cases he : e = 0
  · subst he
    have ht : t.length ≤ 65536 := by
      rcases Nat.lt_or_ge 65536 t.length with h5 | h5
      · exfalso
        unfold readG at h
        have hE : readE t = ([], 0, 3) := by unfold readE; rw [if_pos h5]
        rw [hE] at h
        rw [if_neg (by decide)] at h
        cases h
      · exact h5
    obtain ⟨-, hA⟩ := againG ht h
    have h1 := segs_ge l
    have h2 := hA.few
    refine ⟨by show l.length ≤ _; omega, fun m hm => by have := h1.2 m hm; omega, fun m hm s hs e he => ?_⟩
    have ht := hA.trim
    have hm2 : m ∈ l.map trimM := by rw [ht]; exact hm
    obtain ⟨m0, -, rfl⟩ := List.mem_map.1 hm2
    have hs : s ∈ m0.segs.map fun s => (s.1, trimS s.2) := hs
    obtain ⟨s0, -, rfl⟩ := List.mem_map.1 hs
    unfold trimS at he
    obtain ⟨e0, -, rfl⟩ := List.mem_map.1 (List.mem_of_mem_take he)
    exact trimE_ne e0
  · rw [readG_wrong h he]
    exact ⟨by simp, fun m h => (by cases h), fun m h => (by cases h)⟩
/-- a cell that is no string is read -/
theorem mod_cell {cx : Cx} {d : Nat} {w0 : World} {gs : List Nat} {g o : Nat} {a : Addr} {x : Value} (hg : g ∈ gs) (hc : Cells0 w0 g) (h : w0.cell? ⟨g, o, none⟩ = some x) (hns : isStr x = false) (ha : a = ⟨g, o, none⟩) {H : Heap} (hf : hfind H d = some (.own gs (StrMod w0 gs))) : ∀ (w : World), Holds cx H w → w.cell? a = some x := by
  intro w hw
  obtain ⟨cur, ty, hcell⟩ := hc
  obtain ⟨cur', h3, h4, h5⟩ := mod_of hf hw g hg cur ty hcell
  rw [cell_in hcell] at h
  obtain ⟨y, h6, h7, h8⟩ := h5 _ x h
  rw [ha, cell_in h3, h6, h8 hns]
/-- a string is written over another one, wherever it lies -/
theorem mod_put {cx : Cx} {d T : Nat} {w0 : World} {gs : List Nat} {g o : Nat} {a : Addr} {x : Value} {H : Heap} {K : SV → Heap → Prop} {s : ByteArray} (hg : g ∈ gs) (hc : Cells0 w0 g) (h2 : w0.cell? ⟨g, o, none⟩ = some x) (hns : isStr x = true) (ha : a = ⟨g, o, none⟩)
    (hT : ∃ j, tfind cx.T T = some j ∧ j.size = 1) (hf : hfind H d = some (.own gs (StrMod w0 gs))) (hk : K (.v undef) ((d, .own gs (StrMod w0 gs)) :: hdel H d)) : RawStore cx H T (.v (.pointer (some a))) (.v (.string s)) K := by
  obtain ⟨cur, ty, hcell⟩ := hc
  rw [cell_in hcell] at h2
  subst ha
  refine ⟨.inr ⟨g, o, d, gs, _, StrMod w0 gs, rfl, hT, rfl, hf, hg, fun w hw => ?_, fun w cur2 ty2 hw hc2 ho g2 hg2 cur3 ty3 h3 => ?_, fun w w' hw hk => strMod_stay hw hk, hk⟩⟩
  · obtain ⟨cur', h3, h4, h5⟩ := mod_of hf hw g hg cur ty hcell
    refine ⟨cur', ty, h3, ?_⟩
    rw [h4]
    exact (Array.getElem?_eq_some_iff.1 h2).1
  · obtain ⟨cur', h4, h5, h6⟩ := mod_of hf hw g2 hg2 cur3 ty3 h3
    by_cases hgp : g2 = g
    · subst hgp
      rw [hcell] at h3
      cases h3
      rw [hc2] at h4
      cases h4
      refine ⟨(cur2.toList.set o (SV.v (.string s)).r1).toArray, setRow_heap w g2 _ _ _ _ hc2, by simp [h5], fun j y hy => ?_⟩
      by_cases hj : j = o
      · subst hj
        rw [h2] at hy
        cases hy
        refine ⟨.string s, ?_, (show isStr (.string s) = true from rfl).trans hns.symm, fun h => by rw [hns] at h; cases h⟩
        simp only [List.getElem?_toArray]
        rw [List.getElem?_set_self (by simpa using ho)]
        rfl
      · obtain ⟨z, h7, h8⟩ := h6 j y hy
        refine ⟨z, ?_, h8⟩
        rw [← h7]
        simp [List.getElem?_set, Ne.symm hj]
    · exact ⟨cur', by rw [setRow_other w g g2 _ hgp]; exact h4, h5, h6⟩
theorem ro_cell1 {w : World} {p : Nat × Nat} {n z i j : Nat} {xs cs : List Value} {u : Value} (h : Ro w (some p) n z xs) (hc : cut1 xs z i = cs) (hu : cs[j]? = some u) (hn : 0 < n) : w.cell? ⟨p.1, p.2 + (i * z + j), none⟩ = some u := by
  obtain ⟨q, hq, hl, hcell⟩ := h.2 hn
  cases hq
  exact hcell _ _ (by rw [cut1_at hc (List.getElem?_eq_some_iff.1 hu).1]; exact hu)
theorem ad_cellz (p : Nat × Nat) (k z j : Nat) : (adAt (adr (some p)) (mulS (k : Int).toNat z)).add j = ⟨p.1, p.2 + (k * z + j), none⟩ := by
  rw [kz, ad_some, add_mk, Nat.add_assoc]
set_option maxRecDepth 100000 in
set_option maxHeartbeats 16000000 in
theorem readsM_any (s : ByteArray) (w : World) (hw : WfT w) : Calls Tryz.prog 4 #[.string s] w fun e w' => e = .returned (.bool true) ∧ Below w.heap.size w w' := by
  refine calls_sat (cx := Tryz.cx 95 [] [] [] w) (Tryz.ok ..) Tryz.func4 rfl [.v (.string s)] rfl (by show 1 ≤ 95; omega) [] (holds_nil (Nat.le_refl _)) ?_
  obtain ⟨l, pt, er, hG⟩ : ∃ l p e, readG s.data.toList = (l, p, e) := ⟨_, _, _, rfl⟩
  have hfew := readG_few s.data.toList
  rw [hG] at hfew
  have htop := hfew.top
  have htop : l.length ≤ 5000 := htop
  repeat' ((conv => whnf); first | refine walk (Tryz.ok ..) ?_ | fail)
  (conv => whnf)
  refine called_nest 901 (mk := fun v => .tuple #[v, .int .i64 pt, .int .i64 er]) (Q := fun w B v => NMsgs NS w B v l) (fun v => .t [.v v, .v (.int .i64 pt), .v (.int .i64 er)]) (fun _ => rfl) (fun w' hh => by exact readG_lit hG w' (hw.at_ rfl rfl hh)) ?_
  intro w1 gs1 v1 h1
  obtain ⟨a1, c1, rfl⟩ := nmsgs_len' h1
  repeat' ((conv => whnf); first | refine walk (Tryz.ok ..) ?_ | fail)
  (conv => whnf)
  refine called_nest 902 (mk := fun v => .tuple #[v, .int .i64 pt, .int .i64 er]) (Q := fun w B v => NMsgs NS w B v l) (fun v => .t [.v v, .v (.int .i64 pt), .v (.int .i64 er)]) (fun _ => rfl) (fun w' hh => by
    have := rReadM_any s w'
    rw [hG] at this
    exact this) ?_
  intro w2 gs2 v2 h2
  obtain ⟨a2, c2, rfl⟩ := nmsgs_len' h2
  repeat' ((conv => whnf); first | refine walk (Tryz.ok ..) ?_ | fail)
  (conv => whnf)
  refine called_nestK 903 (mk := id) (Q := fun w' B v => NMsgs NSA w' (fun g => B g ∨ g ∈ gs2) v l) (fun v => .v v) (fun _ => rfl) (fun w' hh => by exact toldM_any l _ w' _ (nmsgs_arg (frz_nest' (nmsgs_stays ns_stays) h2 (d := 902) rfl hh (fun _ h => h))) (by omega) (fun m hm => by have := hfew.seg m hm; omega)) ?_
  intro w3 gs3 v3 h3 hw3
  obtain ⟨a3, c3, rfl⟩ := nmsgs_len' h3
  repeat' ((conv => whnf); first | refine walk (Tryz.ok ..) ?_ | refine side2 ?_ | refine sideL2 ?_ | fail)
  (conv => whnf)
  have hsame : ∀ {H : Heap} {w' : World}, Holds (Tryz.cx 95 [] [] [] w) H w' → hfind H 901 = some (.own gs1 (Frz w1 gs1)) → hfind H 902 = some (.own gs2 (Frz w2 gs2)) → hfind H 903 = some (.own gs3 (Frz w3 gs3)) → Calls Tryz.prog 12 #[.slice a1 l.length c1, .slice a3 l.length c3] w' fun e w'' => e = .returned (.bool true) ∧ Below w'.heap.size w' w'' := fun hh f1 f2 f3 => by
    have hwant := two_nest (nmsgs_stays nsa_stays) h3 hw3 (d := 903) (d1 := 902) (w1 := w2) rfl hh f3 f2 (fun _ => True) (fun _ _ => trivial)
    have := sameG_any l l _ _ _ (nmsgs_arg (frz_is (nmsgs_stays ns_stays) h1 (d := 901) f1 hh)) hwant
    rw [decide_eq_true (rfl : l = l)] at this
    exact this
  refine calledQ_at (.v (.bool true)) rfl (fun _ w' hh => by exact hsame hh rfl rfl rfl) ?_
  repeat' ((conv => whnf); first | refine walk (Tryz.ok ..) ?_ | (refine Cnd.mk (fun h => ?_) (fun h => ?_) <;> (first | exact cndT h (by (try dsimp only); omega) | exact cndF h (by (try dsimp only); omega) | (exfalso; simp at h; omega) | simp at h | skip)) | refine side2 ?_ | fail)
  (conv => whnf)
  refine called_nest 904 (mk := fun v => .tuple #[v, .int .i64 pt, .int .i64 er]) (Q := fun w B v => MsgsC w B v l) (fun v => .t [.v v, .v (.int .i64 pt), .v (.int .i64 er)]) (fun _ => rfl) (fun w' hh => by
    have : Calls Tryz.prog 9 #[.string s] w' (Gives (fun v => .tuple #[v, .int .i64 (readG s.data.toList).2.1, .int .i64 (readG s.data.toList).2.2]) (fun w B v => MsgsC w B v (readG s.data.toList).1) w') := readC_any s w' (hw.at_ rfl rfl hh)
    rw [hG] at this
    exact this) ?_
  intro w4 gs4 v4 h4
  obtain ⟨A4', A4, c4, xs4, rfl, aA4, hc4, hr4, hB4, hx4⟩ := h4
  have hmax : l.length ≤ 9223372036854775807 := by omega
  repeat' ((conv => whnf); first | refine walk (Tryz.ok ..) ?_ | fail)
  refine sat_less 904 rfl ?_
  refine sat_loop (Tryz.ok ..) (α := Nat) (fun i => ([(3, .yes, .v (.slice a1 l.length c1)), (9, .yes, .v (.slice a3 l.length c3)), (10, .yes, .v (.slice A4' l.length c4)), (13, .yes, .v (.int .i64 i))], [(901, .own gs1 (Frz w1 gs1)), (902, .own gs2 (Frz w2 gs2)), (903, .own gs3 (Frz w3 gs3)), (904, .own gs4 (StrMod w4 gs4))]))
    (fun i => i ≤ l.length) (fun i => l.length - i) (fun _ => rfl) ?_ ?_
  · refine ⟨0, Nat.zero_le _, ?_, ?_, rfl⟩
    all_goals ((repeat' (first | exact trivial | exact rfl | refine And.intro ?_ ?_)) <;> (try (conv => whnf)) <;> (try simp only [SV.real, SV.r2, SV.r1]))
  rintro i hi
  by_cases hi1 : i < l.length
  case neg =>
    obtain rfl : i = l.length := by omega
    repeat' ((conv => whnf); first | refine walk (Tryz.ok ..) ?_ | (refine Cnd.mk (fun h => ?_) (fun h => ?_) <;> (first | exact cndT h (by (try dsimp only); omega) | exact cndF h (by (try dsimp only); omega) | (exfalso; simp at h; omega) | simp at h | skip)) | fail)
    (conv => whnf)
    refine called_at (.v (.bool true)) rfl (fun w' hh => by exact hsame hh rfl rfl rfl) ?_
    repeat' ((conv => whnf); first | refine walk (Tryz.ok ..) ?_ | fail)
    exact done_pure rfl rfl rfl
  obtain ⟨m, hm⟩ : ∃ m, l[i]? = some m := ⟨_, List.getElem?_eq_getElem hi1⟩
  obtain ⟨vm, hcm, hnm⟩ := hx4 i m hm
  obtain ⟨am, Am, cm, xm, rfl, aAm, hcmm, hrm, hBm, hxm⟩ := hnm
  obtain ⟨p, rfl, rfl⟩ := some_ofz aA4 hr4 (by omega)
  obtain ⟨hpg, hpc⟩ := hB4 p rfl (by omega)
  have hcs2 := ro_cell1 (j := 2) hr4 hcm rfl (by omega)
  have hmaxm : m.segs.length ≤ 9223372036854775807 := Nat.le_trans (Nat.le_trans hcmm.1 hcmm.2) (by decide)
  repeat' ((conv => whnf); first | refine walk (Tryz.ok ..) ?_ | (refine Cnd.mk (fun h => ?_) (fun h => ?_) <;> (first | exact cndT h (by (try dsimp only); omega) | exact cndF h (by (try dsimp only); omega) | (exfalso; simp at h; omega) | simp at h | skip)) | fail)
  refine sat_loop (Tryz.ok ..) (α := Nat) (fun k => ([(3, .yes, .v (.slice a1 l.length c1)), (9, .yes, .v (.slice a3 l.length c3)), (10, .yes, .v (.slice (adr (some p)) l.length c4)), (13, .yes, .v (.int .i64 i)), (14, .yes, .v (.int .i64 k))], [(901, .own gs1 (Frz w1 gs1)), (902, .own gs2 (Frz w2 gs2)), (903, .own gs3 (Frz w3 gs3)), (904, .own gs4 (StrMod w4 gs4))]))
    (fun k => k ≤ m.segs.length) (fun k => m.segs.length - k) (fun _ => rfl) ?_ ?_
  · refine ⟨0, Nat.zero_le _, ?_, ?_, rfl⟩
    all_goals ((repeat' (first | exact trivial | exact rfl | refine And.intro ?_ ?_)) <;> (try (conv => whnf)) <;> (try simp only [SV.real, SV.r2, SV.r1]))
  rintro k hk
  by_cases hk1 : k < m.segs.length
  case neg =>
    obtain rfl : k = m.segs.length := by omega
    repeat' ((conv => whnf); first | refine walk (Tryz.ok ..) ?_ | (refine Cnd.mk (fun h => ?_) (fun h => ?_) <;> (first | exact cndT h (by (try dsimp only); omega) | exact cndF h (by (try dsimp only); omega) | (exfalso; simp at h; omega) | simp at h | skip)) | refine side2 ?_ | refine sideL2 ?_ | refine xi _ (mod_cell (d := 904) hpg hpc hcs2 rfl (ad_cellz p i 3 2) rfl) ?_ | fail)
    refine ⟨i + 1, ⟨hi1, by omega⟩, ?_, ?_, rfl⟩
    all_goals ((repeat' (first | exact trivial | exact rfl | refine And.intro ?_ ?_)) <;> (try (conv => whnf)) <;> (try simp only [SV.real, SV.r2, SV.r1]))
  obtain ⟨sg, hsg⟩ : ∃ x, m.segs[k]? = some x := ⟨_, List.getElem?_eq_getElem hk1⟩
  obtain ⟨vd, hcd, hnd⟩ := hxm k sg hsg
  obtain ⟨q, rfl, rfl⟩ := some_ofz aAm hrm (by omega)
  obtain ⟨hqg, hqc⟩ := hBm q rfl (by omega)
  have hne := hfew.ne m (List.mem_of_getElem? hm) sg (List.mem_of_getElem? hsg)
  obtain ⟨Ad, cd, xd, rfl, hcd', hrd, hBd, hxd⟩ := hnd
  have hct := ro_cell1 (j := 0) hrm hcd rfl (by omega)
  have hcv := ro_cell1 (j := 1) hrm hcd rfl (by omega)
  have hmaxd : sg.2.length ≤ 9223372036854775807 := Nat.le_trans (Nat.le_trans hcd'.1 hcd'.2) (by decide)
  repeat' ((conv => whnf); first | refine walk (Tryz.ok ..) ?_ | (refine Cnd.mk (fun h => ?_) (fun h => ?_) <;> (first | exact cndT h (by (try dsimp only); omega) | exact cndF h (by (try dsimp only); omega) | (exfalso; simp at h; omega) | simp at h | skip)) | refine side2 ?_ | refine xi _ (mod_cell (d := 904) hpg hpc hcs2 rfl (ad_cellz p i 3 2) rfl) ?_ | refine xi _ (mod_cell (d := 904) hqg hqc hcv rfl (ad_cellz q k 2 1) rfl) ?_ | fail)
  refine sat_loop (Tryz.ok ..) (α := Nat) (fun j => ([(3, .yes, .v (.slice a1 l.length c1)), (9, .yes, .v (.slice a3 l.length c3)), (10, .yes, .v (.slice (adr (some p)) l.length c4)), (13, .yes, .v (.int .i64 i)), (14, .yes, .v (.int .i64 k)), (75, .yes, .v (.slice (adr Ad) sg.2.length cd)), (76, .yes, .v (.int .i64 sg.2.length)), (77, .yes, .v (.int .i64 j))], [(901, .own gs1 (Frz w1 gs1)), (902, .own gs2 (Frz w2 gs2)), (903, .own gs3 (Frz w3 gs3)), (904, .own gs4 (StrMod w4 gs4))]))
    (fun j => j ≤ sg.2.length) (fun j => sg.2.length - j) (fun _ => rfl) ?_ ?_
  · refine ⟨0, Nat.zero_le _, ?_, ?_, rfl⟩
    all_goals ((repeat' (first | exact trivial | exact rfl | refine And.intro ?_ ?_)) <;> (try (conv => whnf)) <;> (try simp only [SV.real, SV.r2, SV.r1]))
  rintro j hj
  by_cases hj1 : j < sg.2.length
  case neg =>
    obtain rfl : j = sg.2.length := by omega
    repeat' ((conv => whnf); first | refine walk (Tryz.ok ..) ?_ | (refine Cnd.mk (fun h => ?_) (fun h => ?_) <;> (first | exact cndT h (by (try dsimp only); omega) | exact cndF h (by (try dsimp only); omega) | (exfalso; simp at h; omega) | simp at h | skip)) | refine side2 ?_ | refine xi _ (mod_cell (d := 904) hpg hpc hcs2 rfl (ad_cellz p i 3 2) rfl) ?_ | fail)
    (conv => whnf)
    refine mod_put (d := 904) (s := ⟨#[63]⟩) hqg hqc hct rfl (ad_cellz q k 2 0) ⟨_, rfl, rfl⟩ rfl ?_
    repeat' ((conv => whnf); first | refine walk (Tryz.ok ..) ?_ | refine sideL2 ?_ | fail)
    refine ⟨k + 1, ⟨hk1, by omega⟩, ?_, ?_, rfl⟩
    all_goals ((repeat' (first | exact trivial | exact rfl | refine And.intro ?_ ?_)) <;> (try (conv => whnf)) <;> (try simp only [SV.real, SV.r2, SV.r1]))
  obtain ⟨e, he⟩ : ∃ e, sg.2[j]? = some e := ⟨_, List.getElem?_eq_getElem hj1⟩
  obtain ⟨y, hy, Ae, ce, xe, rfl, hce, hre, hBe, hxe⟩ := nest_at hxd hrd.1 he
  obtain ⟨pd, rfl, _⟩ := hrd.some_ (by omega)
  have hel : 0 < e.length := List.length_pos_iff.2 (hne e (List.mem_of_getElem? he))
  obtain ⟨pe, rfl, _⟩ := hre.some_ hel
  obtain ⟨c0, hc0⟩ : ∃ c, e[0]? = some c := ⟨_, List.getElem?_eq_getElem hel⟩
  obtain ⟨z, hz, hzc⟩ := nest_at hxe hre.1 hc0
  have hzs : isStr z = true := by rw [show z = .string c0 from hzc]; rfl
  repeat' ((conv => whnf); first | refine walk (Tryz.ok ..) ?_ | (refine Cnd.mk (fun h => ?_) (fun h => ?_) <;> (first | exact cndT h (by (try dsimp only); omega) | exact cndF h (by (try dsimp only); omega) | (exfalso; simp at h; omega) | simp at h | skip)) | refine side2 ?_ | refine xi _ (mod_at (d := 904) hrd hBd hy rfl rfl rfl) ?_ | fail)
  (conv => whnf)
  refine mod_store (d := 904) (s := ⟨#[63]⟩) hre hBe hz hzs rfl ⟨_, rfl, rfl⟩ rfl ?_
  repeat' ((conv => whnf); first | refine walk (Tryz.ok ..) ?_ | refine sideL2 ?_ | fail)
  refine ⟨j + 1, ⟨hj1, by omega⟩, ?_, ?_, rfl⟩
  all_goals ((repeat' (first | exact trivial | exact rfl | refine And.intro ?_ ?_)) <;> (try (conv => whnf)) <;> (try simp only [SV.real, SV.r2, SV.r1]))
end
end Go.Proofs.YtdohcglpcgahaaaGreatDoor
