/-
  The walk of the law's Small, on messages. The walk of SegmentWrites.
-/
import Derived.Test.YtdohcglpcgahaaaGreatDoorUX
import Derived.Test.YtdohcglpcgahaaaGreatDoorV5B
import Derived.Test.YtdohcglpcgahaaaGreatDoorSXX
import Derived.Test.YtdohcglpcgahaaaGreatDoorVW
import Derived.Test.YtdohcglpcgahaaaGreatDoorVRX
import Derived.Test.YtdohcglpcgahaaaGreatDoorOX
set_option linter.unusedSimpArgs false
set_option linter.unusedVariables false
namespace Go.Proofs.YtdohcglpcgahaaaGreatDoor
section
open Go Sat Go.RowKit Go.PlainAid
structure SmallM (m : Msg) : Prop where
  segs : m.segs.length ≤ 12
  kind : m.kind.size ≤ 100
  ref : m.ref.size ≤ 100
  seg : ∀ s ∈ m.segs, s.1.size ≤ 100 ∧ (mS s.2 ≤ 1000000000000 → mS s.2 ≤ 700)
end
section
open Go Sat Go.RowKit Go.PlainAid
theorem nmsgsA_len {w : World} {B : Nat → Prop} {v : Value} {l : List Msg} (h : NMsgs NSA w B v l) : ∃ a c, v = .slice a l.length c := by
  obtain ⟨a, A, cap, xs, hv, -⟩ := h
  exact ⟨a, cap, hv⟩
theorem nsegs_sl {R : Lies Dat} {w : World} {B : Nat → Prop} {v : Value} {l : List Sg} (h : NSegs R w B v l) : ∃ a n c, v = .slice a n c := by
  obtain ⟨a, A, cap, xs, hv, -⟩ := h
  exact ⟨_, _, _, hv⟩
theorem ArgM.fewW {l : List Msg} (h : ArgM l) : ∀ m ∈ l, FewW m := fun m hm => by
  obtain ⟨h1, h2, -, h3⟩ := h.msg m hm
  refine ⟨Nat.le_trans h1 (by decide), Nat.le_trans h2 (by decide), fun s hs => ?_⟩
  obtain ⟨h4, h5, h6⟩ := h3 s hs
  exact ⟨⟨Nat.le_trans h4 (by decide), h6⟩, h5⟩
theorem mix_aggz {cx : Cx} (hM : cx.M = []) {A : Option (Nat × Nat)} {n z d : Nat} {w0 : World} {gs : List Nat} {xs : List Value} {k i : Nat} {cs : List Value} (h : Ro w0 A n z xs) (hB : ∀ p, A = some p → 0 < n → p.1 ∈ gs ∨ p.1 < cx.n0) (hc : cut1 xs z i = cs) (hl : cs.length = z) (hk : k = i * z) (hi : i < n) {H0 : Heap} (hw0 : Holds cx H0 w0) {H : Heap} (hf : hfind H d = some (.own gs (Frz w0 gs))) : cs.length = z ∧ ∀ w, Holds cx H w → ∀ (j : Nat) (u : Value), cs[j]? = some u → w.cell? ((adAt (adr A) k).add j) = some u := by
  refine ⟨hl, fun w hw j u hu => ?_⟩
  have hj : j < z := by rw [← hl]; exact (List.getElem?_eq_some_iff.1 hu).1
  have hx : xs[k + j]? = some u := by rw [hk, cut1_at hc (by omega), hu]
  obtain ⟨p, rfl, hlt, hcell⟩ := h.2 (by omega)
  rw [← hcell (k + j) u hx, ad_some, add_mk, Nat.add_assoc]
  refine World.cell?_of_block ?_
  rcases hB p rfl (by omega) with hg | hg
  · exact frz_of hf hw p.1 hg
  · rw [hw.keep.block p.1 hg (by rw [hM]; simp), hw0.keep.block p.1 hg (by rw [hM]; simp)]
set_option maxRecDepth 100000 in
set_option maxHeartbeats 16000000 in
theorem writesM_any (l : List Msg) (v : Value) (w : World) (hw : WfT w) (hA : NMsgs NSA w (fun _ => True) v l) (hf : ArgM l) (h6 : l.length ≤ 6) (hs : ∀ m ∈ l, m.segs.length ≤ 12) :
    Calls Tryz.prog 5 #[v] w fun e w' => e = .returned (.bool true) ∧ Below w.heap.size w w' := by
  obtain ⟨pv, cv, rfl⟩ : ∃ a c, v = .slice a l.length c := by
    obtain ⟨a, A, cap, xs, hv, -⟩ := hA
    exact ⟨a, cap, hv⟩
  refine calls_sat (cx := Tryz.cx 57 [9] [] [] w) (Tryz.ok ..) Tryz.func5 rfl [.v (.slice pv l.length cv)] rfl (by show 1 ≤ 57; omega) [] (holds_nil (Nat.le_refl _)) ?_
  have hAw : ∀ {H : Heap} {w' : World}, Holds (Tryz.cx 57 [9] [] [] w) H w' → NMsgs NSA w' (fun _ => True) (.slice pv l.length cv) l := fun hh => lent_nest (nmsgs_stays nsa_stays) rfl rfl hA hh
  have hAl : ∀ {H : Heap} {w' : World}, Holds (Tryz.cx 57 [9] [] [] w) H w' → NMsgs NSA w' (fun g => g < w.heap.size) (.slice pv l.length cv) l := fun hh => lent_low (nmsgs_stays nsa_stays) (nmsgs_narrow nsa_narrow) rfl rfl hA hh
  have hO : FewO l := ⟨by omega, fun m hm => ⟨by have := hs m hm; omega, fun s hx => ((hf.msg m hm).2.2.2 s hx).2.1⟩⟩
  have hmany : (segsL l).length ≤ 1000000 := by
    have h2 : ∀ (l : List Msg), (∀ m ∈ l, m.segs.length ≤ 12) → (segsL l).length ≤ l.length * 14 := by
      intro l
      induction l with
      | nil => intro _; simp [segsL]
      | cons m l ih =>
        intro hs
        have h1 := hs m List.mem_cons_self
        have h2 := ih (fun m hm => hs m (List.mem_cons_of_mem _ hm))
        rw [show segsL (m :: l) = segsM m ++ segsL l from rfl, List.length_append, segsM_len, List.length_cons]
        omega
    have := h2 l hs
    omega
  repeat' ((conv => whnf); first | refine walk (Tryz.ok ..) ?_ | fail)
  (conv => whnf)
  refine called_nest 901 (mk := id) (Q := fun w B v => NMsgs NS w B v l) (fun v => .v v) (fun _ => rfl) (fun w' hh => by exact (ownM_row l _ w' (hAw hh) hO).mono fun _ _ h => gives_of_M h) ?_
  intro w1 gs1 v1 h1
  obtain ⟨A1', A1, c1, xs1, rfl, aA1, hc1, hr1, hB1, hx1⟩ := h1
  have h1 : NMsgs NS w1 (fun g => g ∈ gs1) (.slice A1' l.length c1) l := ⟨A1', A1, c1, xs1, rfl, aA1, hc1, hr1, hB1, hx1⟩
  repeat' ((conv => whnf); first | refine walk (Tryz.ok ..) ?_ | fail)
  (conv => whnf)
  obtain ⟨tx, te, hW⟩ : ∃ tx te, writeG l = (tx, te) := ⟨_, _, rfl⟩
  refine called_at (.t [.v (.string tx), .v (.int .i64 te)]) rfl (fun w' hh => by exact writeG_lit hW _ w' (hw.at_ rfl rfl hh) (nmsgs_arg (frz_is (nmsgs_stays ns_stays) h1 (d := 901) rfl hh)) hf.fewW hmany) ?_
  repeat' ((conv => whnf); first | refine walk (Tryz.ok ..) ?_ | fail)
  (conv => whnf)
  refine called_nestK 902 (mk := id) (Q := fun w' B v => NMsgs NSA w' (fun g => B g ∨ g < w.heap.size) v l) (fun v => .v v) (fun _ => rfl) (fun w' hh => by exact bareM_any l _ w' _ (hAl hh) (by omega) (fun m hm => by have := hs m hm; omega)) ?_
  intro w2 gs2 v2 h2 hw2
  obtain ⟨a2, c2, rfl⟩ := nmsgsA_len h2
  skip
  (conv => whnf)
  refine called_at (.t [.v (.string tx), .v (.int .i64 te)]) rfl (fun w' hh => by
    have := rWriteM_any l _ w' (mix_nest (nmsgs_stays nsa_stays) rfl h2 hw2 (d := 902) rfl hh _ (fun _ _ => trivial)) hf.fewW hmany
    rw [hW] at this
    exact this) ?_
  repeat' ((conv => whnf); first | refine walk (Tryz.ok ..) ?_ | refine side2 ?_ | refine sideL2 ?_ | fail)
  (conv => whnf)
  have hsame : ∀ {H : Heap} {w' : World}, Holds (Tryz.cx 57 [9] [] [] w) H w' → hfind H 901 = some (.own gs1 (Frz w1 gs1)) → Calls Tryz.prog 12 #[.slice A1' l.length c1, .slice pv l.length cv] w' fun e w'' => e = .returned (.bool true) ∧ Below w'.heap.size w' w'' := fun hh hf => by
    have := sameG_any l l _ _ _ (nmsgs_arg (frz_is (nmsgs_stays ns_stays) h1 (d := 901) hf hh)) (hAw hh)
    rw [decide_eq_true (rfl : l = l)] at this
    exact this
  refine calledQ_at (.v (.bool true)) rfl (fun _ w' hh => by exact hsame hh rfl) ?_
  have htt : (tx == tx) = true := (MapKept.bytes_beq _ _).2 rfl
  repeat' ((conv => whnf); first | refine walk (Tryz.ok ..) ?_ | (refine Cnd.mk (fun h => ?_) (fun h => ?_) <;> (first | exact cndT h (by (try dsimp only); omega) | exact cndF h (by (try dsimp only); omega) | (exfalso; simp at h; omega) | simp at h | skip)) | refine side2 ?_ | fail)
  (conv => whnf)
  refine called_nestK 903 (mk := id) (Q := fun w' B v => NMsgs NSA w' (fun g => B g ∨ g < w.heap.size) v l) (fun v => .v v) (fun _ => rfl) (fun w' hh => by exact bareM_any l _ w' _ (hAl hh) (by omega) (fun m hm => by have := hs m hm; omega)) ?_
  intro w3 gs3 v3 h3 hw3
  obtain ⟨A3', A3, c3, xs3, rfl, aA3, hc3, hr3, hB3, hx3⟩ := h3
  have hmax : l.length ≤ 9223372036854775807 := by omega
  repeat' ((conv => whnf); first | refine walk (Tryz.ok ..) ?_ | fail)
  refine sat_loop (Tryz.ok ..) (α := Nat) (fun i => ([(0, .yes, .v (.slice pv l.length cv)), (3, .yes, .v (.slice A1' l.length c1)), (38, .yes, .v (.slice A3' l.length c3)), (39, .yes, .v (.int .i64 l.length)), (40, .yes, .v (.int .i64 i))], [(901, .own gs1 (Frz w1 gs1)), (903, .own gs3 (Frz w3 gs3))]))
    (fun i => i ≤ l.length) (fun i => l.length - i) (fun _ => rfl) ?_ ?_
  · refine ⟨0, Nat.zero_le _, ?_, ?_, rfl⟩
    all_goals ((repeat' (first | exact trivial | exact rfl | refine And.intro ?_ ?_)) <;> (try (conv => whnf)) <;> (try simp only [SV.real, SV.r2, SV.r1]))
  rintro i hi
  by_cases hi1 : i < l.length
  case neg =>
    obtain rfl : i = l.length := by omega
    repeat' ((conv => whnf); first | refine walk (Tryz.ok ..) ?_ | (refine Cnd.mk (fun h => ?_) (fun h => ?_) <;> (first | exact cndT h (by (try dsimp only); omega) | exact cndF h (by (try dsimp only); omega) | (exfalso; simp at h; omega) | simp at h | skip)) | fail)
    (conv => whnf)
    refine called_at (.v (.bool true)) rfl (fun w' hh => by exact hsame hh rfl) ?_
    repeat' ((conv => whnf); first | refine walk (Tryz.ok ..) ?_ | fail)
    exact done_pure rfl rfl rfl
  obtain ⟨m, hm⟩ : ∃ s, l[i]? = some s := ⟨_, List.getElem?_eq_getElem hi1⟩
  obtain ⟨va, hca, hna⟩ := hx3 i m hm
  obtain ⟨vb, hcb, hns⟩ := hx1 i m hm
  obtain ⟨aa, na, ca, rfl⟩ := nsegs_sl hna
  obtain ⟨ab, nb, cb, rfl⟩ := nsegs_sl hns
  obtain ⟨p3, rfl, rfl⟩ := some_ofz aA3 hr3 (by omega)
  obtain ⟨p1, rfl, rfl⟩ := some_ofz aA1 hr1 (by omega)
  repeat' ((conv => whnf); first | refine walk (Tryz.ok ..) ?_ | (refine Cnd.mk (fun h => ?_) (fun h => ?_) <;> (first | exact cndT h (by (try dsimp only); omega) | exact cndF h (by (try dsimp only); omega) | (exfalso; simp at h; omega) | simp at h | skip)) | refine side2 ?_ | refine xi _ (mix_aggz rfl hr3 hB3 hca rfl (kz i 3) hi1 hw3 (d := 903) rfl) ?_ | fail)
  (conv => whnf)
  intro g9 hg9
  repeat' ((conv => whnf); first | refine walk (Tryz.ok ..) ?_ | refine side2 ?_ | fail)
  refine sat_draw (Tryz.ok ..) [] [(901, .own gs1 (Frz w1 gs1)), (9, .blk g9 51 [.v (.string m.kind), .v (.string m.ref), .v (.slice aa na ca)])] (by kernel_rfl) (fun w hw => hw.sub ?_) ?_
  · exact hsub_of rfl
  repeat' ((conv => whnf); first | refine side2 ?_ | refine xi _ (frz_aggz (d := 901) hr1 hB1 hcb rfl (kz i 3) hi1 rfl) ?_ | fail)
  (conv => whnf)
  refine called_at (.v (.bool (rightM m))) rfl (fun w' hh => by exact rightm_any m _ w' (nsegs_arg (frz_is (nsegs_stays ns_stays) hns (d := 901) rfl hh)) (hf.fewW m (List.mem_of_getElem? hm)).m) ?_
  repeat' ((conv => whnf); first | refine kp ?_ ?_ | exact trivial | refine side2 ?_ | fail)
  (conv => whnf)
  refine called_at (.v (.bool (rightM m))) rfl (fun w' hh => by exact rRightM_any m _ w' (mix_nest (nsegs_stays nsa_stays) rfl hna hw3 (d := 903) rfl hh _ (fun _ _ => trivial)) (hf.fewW m (List.mem_of_getElem? hm)).m) ?_
  cases rightM m
  · repeat' ((conv => whnf); first | refine walk (Tryz.ok ..) ?_ | (refine Cnd.mk (fun h => ?_) (fun h => ?_) <;> (first | exact cndT h (by (try dsimp only); omega) | exact cndF h (by (try dsimp only); omega) | (exfalso; simp at h; omega) | simp at h | skip)) | refine kp ?_ ?_ | exact trivial | refine side2 ?_ | refine sideL2 ?_ | fail)
    refine ⟨i + 1, ⟨hi1, by omega⟩, ?_, ?_, rfl⟩
    all_goals ((repeat' (first | exact trivial | exact rfl | refine And.intro ?_ ?_)) <;> (try (conv => whnf)) <;> (try simp only [SV.real, SV.r2, SV.r1]))
  · repeat' ((conv => whnf); first | refine walk (Tryz.ok ..) ?_ | (refine Cnd.mk (fun h => ?_) (fun h => ?_) <;> (first | exact cndT h (by (try dsimp only); omega) | exact cndF h (by (try dsimp only); omega) | (exfalso; simp at h; omega) | simp at h | skip)) | refine kp ?_ ?_ | exact trivial | refine side2 ?_ | refine sideL2 ?_ | fail)
    refine ⟨i + 1, ⟨hi1, by omega⟩, ?_, ?_, rfl⟩
    all_goals ((repeat' (first | exact trivial | exact rfl | refine And.intro ?_ ?_)) <;> (try (conv => whnf)) <;> (try simp only [SV.real, SV.r2, SV.r1]))
end
end Go.Proofs.YtdohcglpcgahaaaGreatDoor
