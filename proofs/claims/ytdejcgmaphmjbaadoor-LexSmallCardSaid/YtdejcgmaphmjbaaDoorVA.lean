/-
  The walk of the reference's segment.
-/
import Derived.Test.YtdejcgmaphmjbaaDoorV9
import Derived.Test.YtdejcgmaphmjbaaDoorW2
set_option linter.unusedSimpArgs false
set_option linter.unusedVariables false
namespace Go.Proofs.YtdejcgmaphmjbaaDoor
open Go Sat Go.RowKit Go.PlainAid
/-- places one behind the other -/
def Inc (hi : Nat) : Nat → List Nat → Prop
  | p, [] => p ≤ hi
  | p, q :: L => p < q ∧ Inc hi q L
theorem Inc.mono {hi hi' : Nat} (h : hi ≤ hi') : ∀ {L : List Nat} {p p' : Nat}, p' ≤ p → Inc hi p L → Inc hi' p' L
  | [], p, p', h1, h2 => Nat.le_trans h1 (Nat.le_trans h2 h)
  | q :: L, p, p', h1, h2 => ⟨Nat.lt_of_le_of_lt h1 h2.1, Inc.mono h (Nat.le_refl _) h2.2⟩
theorem cutQ_inc (b : UInt8) : ∀ (m : Nat) (l : List UInt8), l.length ≤ m → ∀ (n i : Nat), Inc (i + n) i (cutQ b n l i)
  | _, [], h, n, i => by rw [cutQ_nil]; exact Nat.le_add_right _ _
  | 0, c :: l, h, n, i => by simp at h
  | m + 1, c :: l, h, n, i => by
    rw [List.length_cons] at h
    unfold cutQ
    split
    · exact Nat.le_add_right _ _
    split
    · cases l with
      | nil => exact Nat.le_add_right _ _
      | cons d l' =>
        rw [List.length_cons] at h
        by_cases hn : n = 1
        · subst hn
          show Inc (i + 1) i (cutQ b 0 l' (i + 2))
          rw [cutQ_zero]
          exact Nat.le_add_right _ _
        · exact (cutQ_inc b m l' (by omega) (n - 2) (i + 2)).mono (by omega) (by omega)
    split
    · exact ⟨Nat.lt_succ_self _, (cutQ_inc b m l (by omega) (n - 1) (i + 1)).mono (by omega) (Nat.le_refl _)⟩
    · exact (cutQ_inc b m l (by omega) (n - 1) (i + 1)).mono (by omega) (by omega)
theorem Inc.at_ {hi : Nat} : ∀ {L : List Nat} {p : Nat}, Inc hi p L → ∀ (i : Nat) (q : Nat), (p :: L)[i]? = some q → p + i ≤ q ∧ q ≤ hi ∧ ∀ q', (p :: L)[i + 1]? = some q' → q < q'
  | [], p, h, i, q, hq => by
    cases i with
    | zero => cases hq; exact ⟨Nat.le_refl _, h, fun q' h => by cases h⟩
    | succ i => cases hq
  | r :: L, p, h, i, q, hq => by
    cases i with
    | zero =>
      cases hq
      refine ⟨Nat.le_refl _, ?_, fun q' h' => by cases h'; exact h.1⟩
      have := (Inc.at_ h.2 0 r rfl).2.1
      have := h.1
      omega
    | succ i =>
      have := Inc.at_ h.2 i q hq
      have := h.1
      refine ⟨by omega, by omega, fun q' h' => (Inc.at_ h.2 i q hq).2.2 q' h'⟩
theorem behind_at {L : List Nat} {i last : Nat} : behindQ (L.drop (i + 1)) last = match L[i + 1]? with | some q => q - 1 | none => last := by
  cases h : L[i + 1]? with
  | none =>
    rw [List.drop_eq_nil_of_le (List.getElem?_eq_none_iff.1 h)]
    rfl
  | some q =>
    rw [drop_at h]
    rfl
theorem iv_at {L : List Nat} {i q : Nat} (h : L[i]? = some q) : (iv L)[mulS (i : Int).toNat 1]? = some (.int .i64 (q : Int)) := by
  rw [mulS_eq, Int.toNat_natCast, Nat.mul_one]
  unfold iv
  rw [List.getElem?_map, h]
  rfl
theorem elemsQ_end (T : List UInt8) (te : Nat) (L : List Nat) {i : Nat} (h : L.length ≤ i) (sg : Segm) (f : Flt) : elemsQ T te (L.drop i) i sg f = (sg, f) := by rw [List.drop_eq_nil_of_le h]; rfl
theorem partsQ_end (T : List UInt8) (last : Nat) (L : List Nat) {k : Nat} (h : L.length ≤ k) (el : Elem) (f : Flt) : partsQ T last (L.drop k) k el f = (el, f) := by rw [List.drop_eq_nil_of_le h]; rfl
def lastOf (L : List Nat) (i te : Nat) : Nat := match L[i + 1]? with | some q => q - 1 | none => te
theorem elemsQ_step {T : List UInt8} {te : Nat} {L : List Nat} {i p : Nat} (h : L[i]? = some p) (sg : Segm) (f : Flt) : elemsQ T te (L.drop i) i sg f = elemsQ T te (L.drop (i + 1)) (i + 1) (sg ++ [(elemQ T p (lastOf L i te) (if i = 30 then worseF f ⟨(p : Int) - 1, 1, 5⟩ else f)).1]) (elemQ T p (lastOf L i te) (if i = 30 then worseF f ⟨(p : Int) - 1, 1, 5⟩ else f)).2 := by
  rw [drop_at h, elemsQ_cons, behind_at]
  rfl
theorem partsQ_step {T : List UInt8} {last : Nat} {L : List Nat} {k p : Nat} (h : L[k]? = some p) (el : Elem) (f : Flt) : partsQ T last (L.drop k) k el f = partsQ T last (L.drop (k + 1)) (k + 1) (el ++ [ba (compQ (lastOf L k last - p) (T.drop p) p [] flt0).1]) (worseF (if k = 10 then worseF f ⟨(p : Int) - 1, 1, 5⟩ else f) (compQ (lastOf L k last - p) (T.drop p) p [] flt0).2) := by
  rw [drop_at h, partsQ_cons, behind_at]
  rfl
theorem last_some {L : List Nat} {i te q : Nat} (h : L[i + 1]? = some q) : lastOf L i te = q - 1 := by unfold lastOf; rw [h]
theorem last_none {L : List Nat} {i te : Nat} (h : L.length ≤ i + 1) : lastOf L i te = te := by unfold lastOf; rw [List.getElem?_eq_none h]
set_option maxRecDepth 100000 in
set_option maxHeartbeats 16000000 in
theorem segment_any (s : ByteArray) (j te : Nat) (hto : te ≤ s.size) (hj : j ≤ te) (hs : s.size ≤ 100000) (w : World) :
    Calls Tryd.prog 33 #[.string s, .int .i64 j, .int .i64 te] w (GivesR 25 (fun v => .tuple #[v, fV (segQ s.data.toList j te).2]) NE (segQ s.data.toList j te).1 w) := by
  refine calls_sat (cx := Tryd.cx 109 [6, 8, 18, 26] [] [30, 44, 65, 79] w) (Tryd.ok ..) Tryd.func33 rfl [.v (.string s), .v (.int .i64 j), .v (.int .i64 te)] rfl (by show 3 ≤ 109; omega) [] (holds_nil (Nat.le_refl _)) ?_
  have hsz : s.size = s.data.toList.length := rfl
  generalize hR : segQ s.data.toList j te = R
  unfold segQ at hR
  obtain ⟨L, hLe⟩ : ∃ L, L = j :: cutQ 43 (te - j) (s.data.toList.drop j) j := ⟨_, rfl⟩
  have hInc := cutQ_inc 43 _ (s.data.toList.drop j) (Nat.le_refl _) (te - j) j
  rw [show j + (te - j) = te by omega] at hInc
  have hLat : ∀ (i q : Nat), L[i]? = some q → j + i ≤ q ∧ q ≤ te ∧ ∀ q', L[i + 1]? = some q' → q < q' := by
    rw [hLe]
    exact fun i q h => hInc.at_ i q h
  have hLlen : L.length ≤ 100001 := by
    have := cutQ_len 43 _ (s.data.toList.drop j) (Nat.le_refl _) (te - j) j
    rw [List.length_drop] at this
    rw [hLe, List.length_cons]
    omega
  rw [← hLe] at hR
  repeat' ((conv => whnf); first | refine walk (Tryd.ok ..) ?_ | (refine Cnd.mk (fun h => ?_) (fun h => ?_) <;> (first | exact cndT h (by (try dsimp only); omega) | exact cndF h (by (try dsimp only); omega) | (exfalso; simp at h; omega) | simp at h | skip)) | refine kp ?_ ?_ | refine tw ?_ ?_ | refine appnil rfl ?_ | refine rawnil rfl ?_ | exact trivial | refine side2 ?_ | refine sideL2 ?_ | refine Or.inr ?_ | refine sat_drawH (Tryd.ok ..) (by kernel_rfl) ?_ | refine xi _ (And.intro rfl rfl) ?_ | refine xi _ (fun _ => And.intro rfl rfl) ?_ | refine xi _ rfl ?_)
  (conv => whnf)
  intro g7 hg7
  repeat' ((conv => whnf); first | refine walk (Tryd.ok ..) ?_ | (refine Cnd.mk (fun h => ?_) (fun h => ?_) <;> (first | exact cndT h (by (try dsimp only); omega) | exact cndF h (by (try dsimp only); omega) | (exfalso; simp at h; omega) | simp at h | skip)) | refine kp ?_ ?_ | refine tw ?_ ?_ | refine appnil rfl ?_ | refine rawnil rfl ?_ | exact trivial | refine side2 ?_ | refine sideL2 ?_ | refine Or.inr ?_ | refine sat_drawH (Tryd.ok ..) (by kernel_rfl) ?_ | refine xi _ (And.intro rfl rfl) ?_ | refine xi _ (fun _ => And.intro rfl rfl) ?_ | refine xi _ rfl ?_)
  (conv => whnf)
  intro g9 hg9
  repeat' ((conv => whnf); first | refine walk (Tryd.ok ..) ?_ | (refine Cnd.mk (fun h => ?_) (fun h => ?_) <;> (first | exact cndT h (by (try dsimp only); omega) | exact cndF h (by (try dsimp only); omega) | (exfalso; simp at h; omega) | simp at h | skip)) | refine kp ?_ ?_ | refine tw ?_ ?_ | refine appnil rfl ?_ | refine rawnil rfl ?_ | exact trivial | refine side2 ?_ | refine sideL2 ?_ | refine Or.inr ?_ | refine sat_drawH (Tryd.ok ..) (by kernel_rfl) ?_ | refine xi _ (And.intro rfl rfl) ?_ | refine xi _ (fun _ => And.intro rfl rfl) ?_ | refine xi _ rfl ?_)
  (conv => whnf)
  refine called_row 22 (e := 3) (size := 1) (m := L.length) (xs := iv L) id (fun A cap => .o 22 A L.length cap) (fun _ _ => rfl) (fun w' hh => by rw [hLe]; exact cut_any s j te 43 hto hj hs w') ?_
  intro A22 c22
  repeat' ((conv => whnf); first | refine walk (Tryd.ok ..) ?_ | (refine Cnd.mk (fun h => ?_) (fun h => ?_) <;> (first | exact cndT h (by (try dsimp only); omega) | exact cndF h (by (try dsimp only); omega) | (exfalso; simp at h; omega) | simp at h | skip)) | refine kp ?_ ?_ | refine tw ?_ ?_ | refine appnil rfl ?_ | refine rawnil rfl ?_ | exact trivial | refine side2 ?_ | refine sideL2 ?_ | refine Or.inr ?_ | refine sat_drawH (Tryd.ok ..) (by kernel_rfl) ?_ | refine xi _ (And.intro rfl rfl) ?_ | refine xi _ (fun _ => And.intro rfl rfl) ?_ | refine xi _ rfl ?_)
  refine sat_fuse 77 [] rfl fun w0 hw0 => ?_
  refine sat_loop (Tryd.ok ..) (α := Nat × Segm × Flt × Option (Nat × Nat) × Nat × List Value × World × List Nat) (fun t => ([(0, .yes, .v (.string s)), (2, .yes, .v (.int .i64 te)), (7, .yes, .p 7 g7 0 0), (8, .yes, .o 106 t.2.2.2.1 t.2.1.length t.2.2.2.2.1), (9, .yes, .p 9 g9 0 0), (10, .yes, .o 22 A22 L.length c22), (11, .yes, .v (.int .i64 t.1))], [(7, .blk g7 64 (fC flt0)), (9, .blk g9 64 (fC t.2.2.1)), (22, .row A22 3 1 L.length c22 (iv L)), (106, .row t.2.2.2.1 25 1 t.2.1.length t.2.2.2.2.1 t.2.2.2.2.2.1), (77, .own t.2.2.2.2.2.2.2 (Frz t.2.2.2.2.2.2.1 t.2.2.2.2.2.2.2))]))
    (fun t => t.1 ≤ L.length ∧ t.2.1.length = t.1 ∧ t.2.2.2.2.2.1.length = t.1 ∧ Got NE t.2.2.2.2.2.2.1 t.2.2.2.2.2.2.2 t.2.2.2.2.2.1 t.2.1 ∧ elemsQ s.data.toList te (L.drop t.1) t.1 t.2.1 t.2.2.1 = R) (fun t => L.length - t.1) (fun _ => rfl) ?_ ?_
  · refine ⟨(0, [], flt0, none, 0, [], w0, []), ⟨Nat.zero_le _, rfl, rfl, Got.nil, hR⟩, ?_, ?_, rfl⟩
    all_goals ((repeat' (first | exact trivial | exact rfl | refine And.intro ?_ ?_)) <;> (try (conv => whnf)) <;> (try simp only [SV.real, SV.r2, SV.r1]))
  rintro ⟨i, sg, f, A8, c8, xs8, w1, gs⟩ ⟨hi, hsl, hxl, hgot, hrun⟩
  dsimp only at hi hsl hxl hgot hrun ⊢
  by_cases hi1 : i < L.length
  case neg =>
    rw [elemsQ_end _ _ _ (by omega)] at hrun
    subst hrun
    repeat' ((conv => whnf); first | refine walk (Tryd.ok ..) ?_ | (refine Cnd.mk (fun h => ?_) (fun h => ?_) <;> (first | exact cndT h (by (try dsimp only); omega) | exact cndF h (by (try dsimp only); omega) | (exfalso; simp at h; omega) | simp at h | skip)) | refine kp ?_ ?_ | refine tw ?_ ?_ | refine appnil rfl ?_ | refine rawnil rfl ?_ | exact trivial | refine side2 ?_ | refine sideL2 ?_ | refine Or.inr ?_ | refine xi _ (And.intro rfl rfl) ?_ | refine xi _ (fun _ => And.intro rfl rfl) ?_ | refine xi _ rfl ?_)
    refine sat_draw (Tryd.ok ..) [1] [(9, .blk g9 64 (fC f))] (by kernel_rfl) (fun w hw => hw.sub ?_) ?_
    · ((repeat' (first | exact trivial | exact rfl | refine And.intro ?_ ?_)) <;> (try (conv => whnf)) <;> (try simp only [SV.real, SV.r2, SV.r1]))
    repeat' ((conv => whnf); first | refine walk (Tryd.ok ..) ?_ | (refine Cnd.mk (fun h => ?_) (fun h => ?_) <;> (first | exact cndT h (by (try dsimp only); omega) | exact cndF h (by (try dsimp only); omega) | (exfalso; simp at h; omega) | simp at h | skip)) | refine kp ?_ ?_ | refine tw ?_ ?_ | refine appnil rfl ?_ | refine rawnil rfl ?_ | exact trivial | refine side2 ?_ | refine sideL2 ?_ | refine Or.inr ?_ | refine xi _ (And.intro rfl rfl) ?_ | refine xi _ (fun _ => And.intro rfl rfl) ?_ | refine xi _ rfl ?_)
    exact done_nestR (mk := fun v => .tuple #[v, fV f]) ne_stays rfl rfl 106 77 (by decide) (A := A8) (cap := c8) (xs := xs8) (gs := gs) (w0 := w1) rfl rfl rfl hgot rfl
  obtain ⟨p, hp⟩ : ∃ p, L[i]? = some p := ⟨_, List.getElem?_eq_getElem hi1⟩
  obtain ⟨hp1, hp2, hp3⟩ := hLat i p hp
  rw [elemsQ_step hp] at hrun
  obtain ⟨f1, hf1⟩ : ∃ f1, f1 = if i = 30 then worseF f ⟨(p : Int) - 1, 1, 5⟩ else f := ⟨_, rfl⟩
  rw [← hf1] at hrun
  repeat' ((conv => whnf); first | refine walk (Tryd.ok ..) ?_ | (refine Cnd.mk (fun h => ?_) (fun h => ?_) <;> (first | exact cndT h (by (try dsimp only); omega) | exact cndF h (by (try dsimp only); omega) | (exfalso; simp at h; omega) | simp at h | skip)) | refine kp ?_ ?_ | refine tw ?_ ?_ | refine appnil rfl ?_ | refine rawnil rfl ?_ | exact trivial | refine side2 ?_ | refine sideL2 ?_ | refine Or.inr ?_ | refine sat_drawH (Tryd.ok ..) (by kernel_rfl) ?_ | refine xi _ (And.intro rfl rfl) ?_ | refine xi _ (fun _ => And.intro rfl rfl) ?_ | refine xi _ rfl ?_)
  refine sat_join0 (fun (_ : Unit) => ([(0, .yes, .v (.string s)), (2, .yes, .v (.int .i64 te)), (7, .yes, .p 7 g7 0 0), (8, .yes, .o 106 A8 sg.length c8), (9, .yes, .p 9 g9 0 0), (10, .yes, .o 22 A22 L.length c22), (11, .yes, .v (.int .i64 i))], [(7, .blk g7 64 (fC flt0)), (9, .blk g9 64 (fC f1)), (22, .row A22 3 1 L.length c22 (iv L)), (106, .row A8 25 1 sg.length c8 xs8), (77, .own gs (Frz w1 gs))])) (fun _ => True) (fun _ => rfl) ?_ ?_
  · by_cases h30 : i = 30
    · rw [if_pos h30] at hf1
      refine sat_cnd true (congrArg (fun b => SV.v (Value.bool b)) (show ((i : Int) == 30) = true by rw [h30]; rfl)) ⟨fun _ => ?_, fun h => (by cases h)⟩
      subst hf1
      repeat' ((conv => whnf); first | refine walk (Tryd.ok ..) ?_ | (refine Cnd.mk (fun h => ?_) (fun h => ?_) <;> (first | exact cndT h (by (try dsimp only); omega) | exact cndF h (by (try dsimp only); omega) | (exfalso; simp at h; omega) | simp at h | skip)) | refine kp ?_ ?_ | refine tw ?_ ?_ | refine appnil rfl ?_ | refine rawnil rfl ?_ | exact trivial | refine side2 ?_ | refine sideL2 ?_ | refine Or.inr ?_ | refine xi _ (And.intro rfl rfl) ?_ | refine xi _ (fun _ => And.intro rfl rfl) ?_ | refine xi _ rfl ?_ | refine xi _ (fun _ => (iv_at hp)) ?_ | refine xi _ (iv_at hp) ?_)
      refine sat_draw (Tryd.ok ..) [0] [(22, .row A22 3 1 L.length c22 (iv L))] (by kernel_rfl) (fun w hw => hw.sub ?_) ?_
      · ((repeat' (first | exact trivial | exact rfl | refine And.intro ?_ ?_)) <;> (try (conv => whnf)) <;> (try simp only [SV.real, SV.r2, SV.r1]))
      repeat' ((conv => whnf); first | refine walk (Tryd.ok ..) ?_ | (refine Cnd.mk (fun h => ?_) (fun h => ?_) <;> (first | exact cndT h (by (try dsimp only); omega) | exact cndF h (by (try dsimp only); omega) | (exfalso; simp at h; omega) | simp at h | skip)) | refine kp ?_ ?_ | refine tw ?_ ?_ | refine appnil rfl ?_ | refine rawnil rfl ?_ | exact trivial | refine side2 ?_ | refine sideL2 ?_ | refine Or.inr ?_ | refine xi _ (And.intro rfl rfl) ?_ | refine xi _ (fun _ => And.intro rfl rfl) ?_ | refine xi _ rfl ?_ | refine xi _ (fun _ => (iv_at hp)) ?_ | refine xi _ (iv_at hp) ?_)
      (conv => whnf)
      refine called_pure (.a (fC (worseF f ⟨(p : Int) - 1, 1, 5⟩))) rfl (fun w' => worse_any f ⟨(p : Int) - 1, 1, 5⟩ w') ?_
      repeat' ((conv => whnf); first | refine walk (Tryd.ok ..) ?_ | (refine Cnd.mk (fun h => ?_) (fun h => ?_) <;> (first | exact cndT h (by (try dsimp only); omega) | exact cndF h (by (try dsimp only); omega) | (exfalso; simp at h; omega) | simp at h | skip)) | refine kp ?_ ?_ | refine tw ?_ ?_ | refine appnil rfl ?_ | refine rawnil rfl ?_ | exact trivial | refine side2 ?_ | refine sideL2 ?_ | refine Or.inr ?_ | refine sat_drawH (Tryd.ok ..) (by kernel_rfl) ?_ | refine xi _ (And.intro rfl rfl) ?_ | refine xi _ (fun _ => And.intro rfl rfl) ?_ | refine xi _ rfl ?_)
      exact ⟨(), trivial, by ((repeat' (first | exact trivial | exact rfl | refine And.intro ?_ ?_)) <;> (try (conv => whnf)) <;> (try simp only [SV.real, SV.r2, SV.r1])), by ((repeat' (first | exact trivial | exact rfl | refine And.intro ?_ ?_)) <;> (try (conv => whnf)) <;> (try simp only [SV.real, SV.r2, SV.r1])), rfl⟩
    · rw [if_neg h30] at hf1
      subst hf1
      refine sat_cnd false (congrArg (fun b => SV.v (Value.bool b)) (show ((i : Int) == 30) = false from beq_false_of_ne (by omega))) ⟨fun h => (by cases h), fun _ => ?_⟩
      repeat' ((conv => whnf); first | refine walk (Tryd.ok ..) ?_ | (refine Cnd.mk (fun h => ?_) (fun h => ?_) <;> (first | exact cndT h (by (try dsimp only); omega) | exact cndF h (by (try dsimp only); omega) | (exfalso; simp at h; omega) | simp at h | skip)) | refine kp ?_ ?_ | refine tw ?_ ?_ | refine appnil rfl ?_ | refine rawnil rfl ?_ | exact trivial | refine side2 ?_ | refine sideL2 ?_ | refine Or.inr ?_ | refine sat_drawH (Tryd.ok ..) (by kernel_rfl) ?_ | refine xi _ (And.intro rfl rfl) ?_ | refine xi _ (fun _ => And.intro rfl rfl) ?_ | refine xi _ rfl ?_)
      exact ⟨(), trivial, by ((repeat' (first | exact trivial | exact rfl | refine And.intro ?_ ?_)) <;> (try (conv => whnf)) <;> (try simp only [SV.real, SV.r2, SV.r1])), by ((repeat' (first | exact trivial | exact rfl | refine And.intro ?_ ?_)) <;> (try (conv => whnf)) <;> (try simp only [SV.real, SV.r2, SV.r1])), rfl⟩
  rintro - -
  repeat' ((conv => whnf); first | refine walk (Tryd.ok ..) ?_ | (refine Cnd.mk (fun h => ?_) (fun h => ?_) <;> (first | exact cndT h (by (try dsimp only); omega) | exact cndF h (by (try dsimp only); omega) | (exfalso; simp at h; omega) | simp at h | skip)) | refine kp ?_ ?_ | refine tw ?_ ?_ | refine appnil rfl ?_ | refine rawnil rfl ?_ | exact trivial | refine side2 ?_ | refine sideL2 ?_ | refine Or.inr ?_ | refine sat_drawH (Tryd.ok ..) (by kernel_rfl) ?_ | refine xi _ (And.intro rfl rfl) ?_ | refine xi _ (fun _ => And.intro rfl rfl) ?_ | refine xi _ rfl ?_)
  obtain ⟨last, hlast⟩ : ∃ x, x = lastOf L i te := ⟨_, rfl⟩
  rw [← hlast] at hrun
  refine sat_join0 (fun (_ : Unit) => ([(0, .yes, .v (.string s)), (2, .yes, .v (.int .i64 te)), (7, .yes, .p 7 g7 0 0), (8, .yes, .o 106 A8 sg.length c8), (9, .yes, .p 9 g9 0 0), (10, .yes, .o 22 A22 L.length c22), (11, .yes, .v (.int .i64 i)), (12, .yes, .v (.int .i64 last))], [(7, .blk g7 64 (fC flt0)), (9, .blk g9 64 (fC f1)), (22, .row A22 3 1 L.length c22 (iv L)), (106, .row A8 25 1 sg.length c8 xs8), (77, .own gs (Frz w1 gs))])) (fun _ => p ≤ last ∧ last ≤ te) (fun _ => rfl) ?_ ?_
  · by_cases hn : i + 1 < L.length
    · obtain ⟨q, hq⟩ : ∃ q, L[i + 1]? = some q := ⟨_, List.getElem?_eq_getElem hn⟩
      obtain ⟨hq1, hq2, -⟩ := hLat (i + 1) q hq
      have hpq := hp3 q hq
      rw [last_some hq] at hlast
      subst hlast
      have hcast : ((q - 1 : Nat) : Int) = (q : Int) - 1 := by omega
      have hiv : (iv L)[mulS ((i : Int) + 1).toNat 1]? = some (.int .i64 (q : Int)) := by rw [show (i : Int) + 1 = ((i + 1 : Nat) : Int) from rfl]; exact iv_at hq
      rw [hcast]
      refine sat_cnd true (congrArg (fun b => SV.v (Value.bool b)) (decide_eq_true (by omega))) ⟨fun _ => ?_, fun h => (by cases h)⟩
      repeat' ((conv => whnf); first | refine walk (Tryd.ok ..) ?_ | (refine Cnd.mk (fun h => ?_) (fun h => ?_) <;> (first | exact cndT h (by (try dsimp only); omega) | exact cndF h (by (try dsimp only); omega) | (exfalso; simp at h; omega) | simp at h | skip)) | refine kp ?_ ?_ | refine tw ?_ ?_ | refine appnil rfl ?_ | refine rawnil rfl ?_ | exact trivial | refine side2 ?_ | refine sideL2 ?_ | refine Or.inr ?_ | refine sat_drawH (Tryd.ok ..) (by kernel_rfl) ?_ | refine xi _ (And.intro rfl rfl) ?_ | refine xi _ (fun _ => And.intro rfl rfl) ?_ | refine xi _ rfl ?_ | refine xi _ (fun _ => hiv) ?_ | refine xi _ hiv ?_)
      exact ⟨(), ⟨by omega, by omega⟩, by ((repeat' (first | exact trivial | exact rfl | refine And.intro ?_ ?_)) <;> (try (conv => whnf)) <;> (try simp only [SV.real, SV.r2, SV.r1])), by ((repeat' (first | exact trivial | exact rfl | refine And.intro ?_ ?_)) <;> (try (conv => whnf)) <;> (try simp only [SV.real, SV.r2, SV.r1])), rfl⟩
    · rw [last_none (by omega)] at hlast
      subst hlast
      refine sat_cnd false (congrArg (fun b => SV.v (Value.bool b)) (decide_eq_false (by omega))) ⟨fun h => (by cases h), fun _ => ?_⟩
      repeat' ((conv => whnf); first | refine walk (Tryd.ok ..) ?_ | (refine Cnd.mk (fun h => ?_) (fun h => ?_) <;> (first | exact cndT h (by (try dsimp only); omega) | exact cndF h (by (try dsimp only); omega) | (exfalso; simp at h; omega) | simp at h | skip)) | refine kp ?_ ?_ | refine tw ?_ ?_ | refine appnil rfl ?_ | refine rawnil rfl ?_ | exact trivial | refine side2 ?_ | refine sideL2 ?_ | refine Or.inr ?_ | refine sat_drawH (Tryd.ok ..) (by kernel_rfl) ?_ | refine xi _ (And.intro rfl rfl) ?_ | refine xi _ (fun _ => And.intro rfl rfl) ?_ | refine xi _ rfl ?_)
      exact ⟨(), ⟨by omega, Nat.le_refl _⟩, by ((repeat' (first | exact trivial | exact rfl | refine And.intro ?_ ?_)) <;> (try (conv => whnf)) <;> (try simp only [SV.real, SV.r2, SV.r1])), by ((repeat' (first | exact trivial | exact rfl | refine And.intro ?_ ?_)) <;> (try (conv => whnf)) <;> (try simp only [SV.real, SV.r2, SV.r1])), rfl⟩
  rintro - ⟨hla, hlb⟩
  obtain ⟨M, hMe⟩ : ∃ M, M = p :: cutQ 58 (last - p) (s.data.toList.drop p) p := ⟨_, rfl⟩
  have hIncM := cutQ_inc 58 _ (s.data.toList.drop p) (Nat.le_refl _) (last - p) p
  rw [show p + (last - p) = last by omega] at hIncM
  have hMat : ∀ (i q : Nat), M[i]? = some q → p + i ≤ q ∧ q ≤ last ∧ ∀ q', M[i + 1]? = some q' → q < q' := by
    rw [hMe]
    exact fun i q h => hIncM.at_ i q h
  have hMlen : M.length ≤ 100001 := by
    have := cutQ_len 58 _ (s.data.toList.drop p) (Nat.le_refl _) (last - p) p
    rw [List.length_drop] at this
    rw [hMe, List.length_cons]
    omega
  repeat' ((conv => whnf); first | refine walk (Tryd.ok ..) ?_ | (refine Cnd.mk (fun h => ?_) (fun h => ?_) <;> (first | exact cndT h (by (try dsimp only); omega) | exact cndF h (by (try dsimp only); omega) | (exfalso; simp at h; omega) | simp at h | skip)) | refine kp ?_ ?_ | refine tw ?_ ?_ | refine appnil rfl ?_ | refine rawnil rfl ?_ | exact trivial | refine side2 ?_ | refine sideL2 ?_ | refine Or.inr ?_ | refine sat_drawH (Tryd.ok ..) (by kernel_rfl) ?_ | refine xi _ (And.intro rfl rfl) ?_ | refine xi _ (fun _ => And.intro rfl rfl) ?_ | refine xi _ rfl ?_ | refine xi _ (fun _ => (iv_at hp)) ?_ | refine xi _ (iv_at hp) ?_)
  (conv => whnf)
  refine called_row 57 (e := 3) (size := 1) (m := M.length) (xs := iv M) id (fun A cap => .o 57 A M.length cap) (fun _ _ => rfl) (fun w' hh => by rw [hMe]; exact cut_any s p last 58 (by omega) hla hs w') ?_
  intro A57 c57
  repeat' ((conv => whnf); first | refine walk (Tryd.ok ..) ?_ | (refine Cnd.mk (fun h => ?_) (fun h => ?_) <;> (first | exact cndT h (by (try dsimp only); omega) | exact cndF h (by (try dsimp only); omega) | (exfalso; simp at h; omega) | simp at h | skip)) | refine kp ?_ ?_ | refine tw ?_ ?_ | refine appnil rfl ?_ | refine rawnil rfl ?_ | exact trivial | refine side2 ?_ | refine sideL2 ?_ | refine Or.inr ?_ | refine sat_drawH (Tryd.ok ..) (by kernel_rfl) ?_ | refine xi _ (And.intro rfl rfl) ?_ | refine xi _ (fun _ => And.intro rfl rfl) ?_ | refine xi _ rfl ?_)
  refine sat_loop (Tryd.ok ..) (α := Nat × Elem × Flt × Option (Nat × Nat) × Nat) (fun t => ([(0, .yes, .v (.string s)), (2, .yes, .v (.int .i64 te)), (7, .yes, .p 7 g7 0 0), (8, .yes, .o 106 A8 sg.length c8), (9, .yes, .p 9 g9 0 0), (10, .yes, .o 22 A22 L.length c22), (11, .yes, .v (.int .i64 i)), (12, .yes, .v (.int .i64 last)), (13, .yes, .o 102 t.2.2.2.1 t.2.1.length t.2.2.2.2), (14, .yes, .o 57 A57 M.length c57), (15, .yes, .v (.int .i64 t.1))], [(7, .blk g7 64 (fC flt0)), (9, .blk g9 64 (fC t.2.2.1)), (22, .row A22 3 1 L.length c22 (iv L)), (57, .row A57 3 1 M.length c57 (iv M)), (102, .row t.2.2.2.1 9 1 t.2.1.length t.2.2.2.2 (t.2.1.map Value.string)), (106, .row A8 25 1 sg.length c8 xs8), (77, .own gs (Frz w1 gs))]))
    (fun t => t.1 ≤ M.length ∧ t.2.1.length = t.1 ∧ partsQ s.data.toList last (M.drop t.1) t.1 t.2.1 t.2.2.1 = elemQ s.data.toList p last f1) (fun t => M.length - t.1) (fun _ => rfl) ?_ ?_
  · refine ⟨(0, [], f1, none, 0), ⟨Nat.zero_le _, rfl, by unfold elemQ; rw [← hMe]; rfl⟩, ?_, ?_, rfl⟩
    all_goals ((repeat' (first | exact trivial | exact rfl | refine And.intro ?_ ?_)) <;> (try (conv => whnf)) <;> (try simp only [SV.real, SV.r2, SV.r1]))
  rintro ⟨k, el, f2, A13, c13⟩ ⟨hk, hel, hpr⟩
  dsimp only at hk hel hpr ⊢
  by_cases hk1 : k < M.length
  case neg =>
    rw [partsQ_end _ _ _ (by omega)] at hpr
    rw [← hpr] at hrun
    repeat' ((conv => whnf); first | refine walk (Tryd.ok ..) ?_ | (refine Cnd.mk (fun h => ?_) (fun h => ?_) <;> (first | exact cndT h (by (try dsimp only); omega) | exact cndF h (by (try dsimp only); omega) | (exfalso; simp at h; omega) | simp at h | skip)) | refine kp ?_ ?_ | refine tw ?_ ?_ | refine appnil rfl ?_ | refine rawnil rfl ?_ | exact trivial | refine side2 ?_ | refine sideL2 ?_ | refine Or.inr ?_ | refine sat_drawH (Tryd.ok ..) (by kernel_rfl) ?_ | refine xi _ (And.intro rfl rfl) ?_ | refine xi _ (fun _ => And.intro rfl rfl) ?_ | refine xi _ rfl ?_)
    (conv => whnf)
    intro g105 hg105
    repeat' ((conv => whnf); first | refine walk (Tryd.ok ..) ?_ | (refine Cnd.mk (fun h => ?_) (fun h => ?_) <;> (first | exact cndT h (by (try dsimp only); omega) | exact cndF h (by (try dsimp only); omega) | (exfalso; simp at h; omega) | simp at h | skip)) | refine kp ?_ ?_ | refine tw ?_ ?_ | refine appnil rfl ?_ | refine rawnil rfl ?_ | exact trivial | refine side2 ?_ | refine sideL2 ?_ | refine Or.inr ?_ | refine sat_drawH (Tryd.ok ..) (by kernel_rfl) ?_ | refine xi _ (And.intro rfl rfl) ?_ | refine xi _ (fun _ => And.intro rfl rfl) ?_ | refine xi _ rfl ?_)
    (conv => whnf)
    intro A106 c106
    repeat' ((conv => whnf); first | refine walk (Tryd.ok ..) ?_ | (refine Cnd.mk (fun h => ?_) (fun h => ?_) <;> (first | exact cndT h (by (try dsimp only); omega) | exact cndF h (by (try dsimp only); omega) | (exfalso; simp at h; omega) | simp at h | skip)) | refine kp ?_ ?_ | refine tw ?_ ?_ | refine appnil rfl ?_ | refine rawnil rfl ?_ | exact trivial | refine side2 ?_ | refine sideL2 ?_ | refine Or.inr ?_ | refine sat_drawH (Tryd.ok ..) (by kernel_rfl) ?_ | refine xi _ (And.intro rfl rfl) ?_ | refine xi _ (fun _ => And.intro rfl rfl) ?_ | refine xi _ rfl ?_)
    refine sat_fuse 77 [77, 102] rfl fun w4 hw4 => ?_
    have hgot' := (hgot.fuse ne_stays [77, 102] 77 hw4 rfl rfl).ext (by rw [hxl, hsl]) (nest_fuse [77, 102] 102 hw4 rfl rfl (got_strs el))
    refine sat_ops (Tryd.ok ..) ?_
    repeat' ((conv => whnf); first | refine walk (Tryd.ok ..) ?_ | (refine Cnd.mk (fun h => ?_) (fun h => ?_) <;> (first | exact cndT h (by (try dsimp only); omega) | exact cndF h (by (try dsimp only); omega) | (exfalso; simp at h; omega) | simp at h | skip)) | refine kp ?_ ?_ | refine tw ?_ ?_ | refine appnil rfl ?_ | refine rawnil rfl ?_ | exact trivial | refine side2 ?_ | refine sideL2 ?_ | refine Or.inr ?_ | refine sat_drawH (Tryd.ok ..) (by kernel_rfl) ?_ | refine xi _ (And.intro rfl rfl) ?_ | refine xi _ (fun _ => And.intro rfl rfl) ?_ | refine xi _ rfl ?_)
    refine ⟨(i + 1, sg ++ [el], f2, A106, c106, _, w4, _), ⟨⟨hi1, by rw [List.length_append, hsl]; rfl, ?_, hgot', hrun⟩, by show L.length - (i + 1) < L.length - i; omega⟩, ?_, ?_, rfl⟩
    · show (xs8 ++ [_]).length = i + 1
      rw [List.length_append, hxl]
      rfl
    · ((repeat' (first | exact trivial | exact rfl | refine And.intro ?_ ?_)) <;> (try (conv => whnf)) <;> (try simp only [SV.real, SV.r2, SV.r1]))
      exact congrArg (fun n => Value.slice (adr A106) n c106) (by rw [List.length_append]; rfl)
    · ((repeat' (first | exact trivial | exact rfl | refine And.intro ?_ ?_)) <;> (try (conv => whnf)) <;> (try simp only [SV.real, SV.r2, SV.r1]))
      rw [List.length_append]
      rfl
  obtain ⟨m, hm⟩ : ∃ m, M[k]? = some m := ⟨_, List.getElem?_eq_getElem hk1⟩
  obtain ⟨hm1, hm2, hm3⟩ := hMat k m hm
  rw [partsQ_step hm] at hpr
  obtain ⟨f3, hf3⟩ : ∃ f3, f3 = if k = 10 then worseF f2 ⟨(m : Int) - 1, 1, 5⟩ else f2 := ⟨_, rfl⟩
  rw [← hf3] at hpr
  repeat' ((conv => whnf); first | refine walk (Tryd.ok ..) ?_ | (refine Cnd.mk (fun h => ?_) (fun h => ?_) <;> (first | exact cndT h (by (try dsimp only); omega) | exact cndF h (by (try dsimp only); omega) | (exfalso; simp at h; omega) | simp at h | skip)) | refine kp ?_ ?_ | refine tw ?_ ?_ | refine appnil rfl ?_ | refine rawnil rfl ?_ | exact trivial | refine side2 ?_ | refine sideL2 ?_ | refine Or.inr ?_ | refine sat_drawH (Tryd.ok ..) (by kernel_rfl) ?_ | refine xi _ (And.intro rfl rfl) ?_ | refine xi _ (fun _ => And.intro rfl rfl) ?_ | refine xi _ rfl ?_)
  refine sat_join0 (fun (_ : Unit) => ([(0, .yes, .v (.string s)), (2, .yes, .v (.int .i64 te)), (7, .yes, .p 7 g7 0 0), (8, .yes, .o 106 A8 sg.length c8), (9, .yes, .p 9 g9 0 0), (10, .yes, .o 22 A22 L.length c22), (11, .yes, .v (.int .i64 i)), (12, .yes, .v (.int .i64 last)), (13, .yes, .o 102 A13 el.length c13), (14, .yes, .o 57 A57 M.length c57), (15, .yes, .v (.int .i64 k))], [(7, .blk g7 64 (fC flt0)), (9, .blk g9 64 (fC f3)), (22, .row A22 3 1 L.length c22 (iv L)), (57, .row A57 3 1 M.length c57 (iv M)), (102, .row A13 9 1 el.length c13 (el.map Value.string)), (106, .row A8 25 1 sg.length c8 xs8), (77, .own gs (Frz w1 gs))])) (fun _ => True) (fun _ => rfl) ?_ ?_
  · by_cases h10 : k = 10
    · rw [if_pos h10] at hf3
      refine sat_cnd true (congrArg (fun b => SV.v (Value.bool b)) (show ((k : Int) == 10) = true by rw [h10]; rfl)) ⟨fun _ => ?_, fun h => (by cases h)⟩
      subst hf3
      repeat' ((conv => whnf); first | refine walk (Tryd.ok ..) ?_ | (refine Cnd.mk (fun h => ?_) (fun h => ?_) <;> (first | exact cndT h (by (try dsimp only); omega) | exact cndF h (by (try dsimp only); omega) | (exfalso; simp at h; omega) | simp at h | skip)) | refine kp ?_ ?_ | refine tw ?_ ?_ | refine appnil rfl ?_ | refine rawnil rfl ?_ | exact trivial | refine side2 ?_ | refine sideL2 ?_ | refine Or.inr ?_ | refine xi _ (And.intro rfl rfl) ?_ | refine xi _ (fun _ => And.intro rfl rfl) ?_ | refine xi _ rfl ?_ | refine xi _ (fun _ => (iv_at hm)) ?_ | refine xi _ (iv_at hm) ?_)
      refine sat_draw (Tryd.ok ..) [0] [(57, .row A57 3 1 M.length c57 (iv M))] (by kernel_rfl) (fun w hw => hw.sub ?_) ?_
      · ((repeat' (first | exact trivial | exact rfl | refine And.intro ?_ ?_)) <;> (try (conv => whnf)) <;> (try simp only [SV.real, SV.r2, SV.r1]))
      repeat' ((conv => whnf); first | refine walk (Tryd.ok ..) ?_ | (refine Cnd.mk (fun h => ?_) (fun h => ?_) <;> (first | exact cndT h (by (try dsimp only); omega) | exact cndF h (by (try dsimp only); omega) | (exfalso; simp at h; omega) | simp at h | skip)) | refine kp ?_ ?_ | refine tw ?_ ?_ | refine appnil rfl ?_ | refine rawnil rfl ?_ | exact trivial | refine side2 ?_ | refine sideL2 ?_ | refine Or.inr ?_ | refine xi _ (And.intro rfl rfl) ?_ | refine xi _ (fun _ => And.intro rfl rfl) ?_ | refine xi _ rfl ?_ | refine xi _ (fun _ => (iv_at hm)) ?_ | refine xi _ (iv_at hm) ?_)
      (conv => whnf)
      refine called_pure (.a (fC (worseF f2 ⟨(m : Int) - 1, 1, 5⟩))) rfl (fun w' => worse_any f2 ⟨(m : Int) - 1, 1, 5⟩ w') ?_
      repeat' ((conv => whnf); first | refine walk (Tryd.ok ..) ?_ | (refine Cnd.mk (fun h => ?_) (fun h => ?_) <;> (first | exact cndT h (by (try dsimp only); omega) | exact cndF h (by (try dsimp only); omega) | (exfalso; simp at h; omega) | simp at h | skip)) | refine kp ?_ ?_ | refine tw ?_ ?_ | refine appnil rfl ?_ | refine rawnil rfl ?_ | exact trivial | refine side2 ?_ | refine sideL2 ?_ | refine Or.inr ?_ | refine sat_drawH (Tryd.ok ..) (by kernel_rfl) ?_ | refine xi _ (And.intro rfl rfl) ?_ | refine xi _ (fun _ => And.intro rfl rfl) ?_ | refine xi _ rfl ?_)
      exact ⟨(), trivial, by ((repeat' (first | exact trivial | exact rfl | refine And.intro ?_ ?_)) <;> (try (conv => whnf)) <;> (try simp only [SV.real, SV.r2, SV.r1])), by ((repeat' (first | exact trivial | exact rfl | refine And.intro ?_ ?_)) <;> (try (conv => whnf)) <;> (try simp only [SV.real, SV.r2, SV.r1])), rfl⟩
    · rw [if_neg h10] at hf3
      subst hf3
      refine sat_cnd false (congrArg (fun b => SV.v (Value.bool b)) (show ((k : Int) == 10) = false from beq_false_of_ne (by omega))) ⟨fun h => (by cases h), fun _ => ?_⟩
      repeat' ((conv => whnf); first | refine walk (Tryd.ok ..) ?_ | (refine Cnd.mk (fun h => ?_) (fun h => ?_) <;> (first | exact cndT h (by (try dsimp only); omega) | exact cndF h (by (try dsimp only); omega) | (exfalso; simp at h; omega) | simp at h | skip)) | refine kp ?_ ?_ | refine tw ?_ ?_ | refine appnil rfl ?_ | refine rawnil rfl ?_ | exact trivial | refine side2 ?_ | refine sideL2 ?_ | refine Or.inr ?_ | refine sat_drawH (Tryd.ok ..) (by kernel_rfl) ?_ | refine xi _ (And.intro rfl rfl) ?_ | refine xi _ (fun _ => And.intro rfl rfl) ?_ | refine xi _ rfl ?_)
      exact ⟨(), trivial, by ((repeat' (first | exact trivial | exact rfl | refine And.intro ?_ ?_)) <;> (try (conv => whnf)) <;> (try simp only [SV.real, SV.r2, SV.r1])), by ((repeat' (first | exact trivial | exact rfl | refine And.intro ?_ ?_)) <;> (try (conv => whnf)) <;> (try simp only [SV.real, SV.r2, SV.r1])), rfl⟩
  rintro - -
  repeat' ((conv => whnf); first | refine walk (Tryd.ok ..) ?_ | (refine Cnd.mk (fun h => ?_) (fun h => ?_) <;> (first | exact cndT h (by (try dsimp only); omega) | exact cndF h (by (try dsimp only); omega) | (exfalso; simp at h; omega) | simp at h | skip)) | refine kp ?_ ?_ | refine tw ?_ ?_ | refine appnil rfl ?_ | refine rawnil rfl ?_ | exact trivial | refine side2 ?_ | refine sideL2 ?_ | refine Or.inr ?_ | refine sat_drawH (Tryd.ok ..) (by kernel_rfl) ?_ | refine xi _ (And.intro rfl rfl) ?_ | refine xi _ (fun _ => And.intro rfl rfl) ?_ | refine xi _ rfl ?_)
  obtain ⟨be, hbe⟩ : ∃ x, x = lastOf M k last := ⟨_, rfl⟩
  rw [← hbe] at hpr
  refine sat_join0 (fun (_ : Unit) => ([(0, .yes, .v (.string s)), (2, .yes, .v (.int .i64 te)), (7, .yes, .p 7 g7 0 0), (8, .yes, .o 106 A8 sg.length c8), (9, .yes, .p 9 g9 0 0), (10, .yes, .o 22 A22 L.length c22), (11, .yes, .v (.int .i64 i)), (12, .yes, .v (.int .i64 last)), (13, .yes, .o 102 A13 el.length c13), (14, .yes, .o 57 A57 M.length c57), (15, .yes, .v (.int .i64 k)), (16, .yes, .v (.int .i64 be))], [(7, .blk g7 64 (fC flt0)), (9, .blk g9 64 (fC f3)), (22, .row A22 3 1 L.length c22 (iv L)), (57, .row A57 3 1 M.length c57 (iv M)), (102, .row A13 9 1 el.length c13 (el.map Value.string)), (106, .row A8 25 1 sg.length c8 xs8), (77, .own gs (Frz w1 gs))])) (fun _ => m ≤ be ∧ be ≤ last) (fun _ => rfl) ?_ ?_
  · by_cases hn : k + 1 < M.length
    · obtain ⟨q, hq⟩ : ∃ q, M[k + 1]? = some q := ⟨_, List.getElem?_eq_getElem hn⟩
      obtain ⟨hq1, hq2, -⟩ := hMat (k + 1) q hq
      have hpq := hm3 q hq
      rw [last_some hq] at hbe
      subst hbe
      have hcast : ((q - 1 : Nat) : Int) = (q : Int) - 1 := by omega
      have hiv : (iv M)[mulS ((k : Int) + 1).toNat 1]? = some (.int .i64 (q : Int)) := by rw [show (k : Int) + 1 = ((k + 1 : Nat) : Int) from rfl]; exact iv_at hq
      rw [hcast]
      refine sat_cnd true (congrArg (fun b => SV.v (Value.bool b)) (decide_eq_true (by omega))) ⟨fun _ => ?_, fun h => (by cases h)⟩
      repeat' ((conv => whnf); first | refine walk (Tryd.ok ..) ?_ | (refine Cnd.mk (fun h => ?_) (fun h => ?_) <;> (first | exact cndT h (by (try dsimp only); omega) | exact cndF h (by (try dsimp only); omega) | (exfalso; simp at h; omega) | simp at h | skip)) | refine kp ?_ ?_ | refine tw ?_ ?_ | refine appnil rfl ?_ | refine rawnil rfl ?_ | exact trivial | refine side2 ?_ | refine sideL2 ?_ | refine Or.inr ?_ | refine sat_drawH (Tryd.ok ..) (by kernel_rfl) ?_ | refine xi _ (And.intro rfl rfl) ?_ | refine xi _ (fun _ => And.intro rfl rfl) ?_ | refine xi _ rfl ?_ | refine xi _ (fun _ => hiv) ?_ | refine xi _ hiv ?_)
      exact ⟨(), ⟨by omega, by omega⟩, by ((repeat' (first | exact trivial | exact rfl | refine And.intro ?_ ?_)) <;> (try (conv => whnf)) <;> (try simp only [SV.real, SV.r2, SV.r1])), by ((repeat' (first | exact trivial | exact rfl | refine And.intro ?_ ?_)) <;> (try (conv => whnf)) <;> (try simp only [SV.real, SV.r2, SV.r1])), rfl⟩
    · rw [last_none (by omega)] at hbe
      subst hbe
      refine sat_cnd false (congrArg (fun b => SV.v (Value.bool b)) (decide_eq_false (by omega))) ⟨fun h => (by cases h), fun _ => ?_⟩
      repeat' ((conv => whnf); first | refine walk (Tryd.ok ..) ?_ | (refine Cnd.mk (fun h => ?_) (fun h => ?_) <;> (first | exact cndT h (by (try dsimp only); omega) | exact cndF h (by (try dsimp only); omega) | (exfalso; simp at h; omega) | simp at h | skip)) | refine kp ?_ ?_ | refine tw ?_ ?_ | refine appnil rfl ?_ | refine rawnil rfl ?_ | exact trivial | refine side2 ?_ | refine sideL2 ?_ | refine Or.inr ?_ | refine sat_drawH (Tryd.ok ..) (by kernel_rfl) ?_ | refine xi _ (And.intro rfl rfl) ?_ | refine xi _ (fun _ => And.intro rfl rfl) ?_ | refine xi _ rfl ?_)
      exact ⟨(), ⟨by omega, Nat.le_refl _⟩, by ((repeat' (first | exact trivial | exact rfl | refine And.intro ?_ ?_)) <;> (try (conv => whnf)) <;> (try simp only [SV.real, SV.r2, SV.r1])), by ((repeat' (first | exact trivial | exact rfl | refine And.intro ?_ ?_)) <;> (try (conv => whnf)) <;> (try simp only [SV.real, SV.r2, SV.r1])), rfl⟩
  rintro - ⟨hba, hbb⟩
  obtain ⟨C, hC⟩ : ∃ C, C = compQ (be - m) (s.data.toList.drop m) m [] flt0 := ⟨_, rfl⟩
  rw [← hC] at hpr
  repeat' ((conv => whnf); first | refine walk (Tryd.ok ..) ?_ | (refine Cnd.mk (fun h => ?_) (fun h => ?_) <;> (first | exact cndT h (by (try dsimp only); omega) | exact cndF h (by (try dsimp only); omega) | (exfalso; simp at h; omega) | simp at h | skip)) | refine kp ?_ ?_ | refine tw ?_ ?_ | refine appnil rfl ?_ | refine rawnil rfl ?_ | exact trivial | refine side2 ?_ | refine sideL2 ?_ | refine Or.inr ?_ | refine sat_drawH (Tryd.ok ..) (by kernel_rfl) ?_ | refine xi _ (And.intro rfl rfl) ?_ | refine xi _ (fun _ => And.intro rfl rfl) ?_ | refine xi _ rfl ?_ | refine xi _ (fun _ => (iv_at hm)) ?_ | refine xi _ (iv_at hm) ?_)
  (conv => whnf)
  refine called_pure (.t [.v (.string (ba C.1)), .a (fC C.2)]) rfl (fun w' => by rw [hC]; exact component_any s m be (by omega) hba hs w') ?_
  repeat' ((conv => whnf); first | refine walk (Tryd.ok ..) ?_ | (refine Cnd.mk (fun h => ?_) (fun h => ?_) <;> (first | exact cndT h (by (try dsimp only); omega) | exact cndF h (by (try dsimp only); omega) | (exfalso; simp at h; omega) | simp at h | skip)) | refine kp ?_ ?_ | refine tw ?_ ?_ | refine appnil rfl ?_ | refine rawnil rfl ?_ | exact trivial | refine side2 ?_ | refine sideL2 ?_ | refine Or.inr ?_ | refine sat_drawH (Tryd.ok ..) (by kernel_rfl) ?_ | refine xi _ (And.intro rfl rfl) ?_ | refine xi _ (fun _ => And.intro rfl rfl) ?_ | refine xi _ rfl ?_)
  (conv => whnf)
  intro g18 hg18
  repeat' ((conv => whnf); first | refine walk (Tryd.ok ..) ?_ | (refine Cnd.mk (fun h => ?_) (fun h => ?_) <;> (first | exact cndT h (by (try dsimp only); omega) | exact cndF h (by (try dsimp only); omega) | (exfalso; simp at h; omega) | simp at h | skip)) | refine kp ?_ ?_ | refine tw ?_ ?_ | refine appnil rfl ?_ | refine rawnil rfl ?_ | exact trivial | refine side2 ?_ | refine sideL2 ?_ | refine Or.inr ?_ | refine sat_drawH (Tryd.ok ..) (by kernel_rfl) ?_ | refine xi _ (And.intro rfl rfl) ?_ | refine xi _ (fun _ => And.intro rfl rfl) ?_ | refine xi _ rfl ?_)
  (conv => whnf)
  refine called_pure (.a (fC (worseF f3 C.2))) rfl (fun w' => worse_any f3 C.2 w') ?_
  repeat' ((conv => whnf); first | refine walk (Tryd.ok ..) ?_ | (refine Cnd.mk (fun h => ?_) (fun h => ?_) <;> (first | exact cndT h (by (try dsimp only); omega) | exact cndF h (by (try dsimp only); omega) | (exfalso; simp at h; omega) | simp at h | skip)) | refine kp ?_ ?_ | refine tw ?_ ?_ | refine appnil rfl ?_ | refine rawnil rfl ?_ | exact trivial | refine side2 ?_ | refine sideL2 ?_ | refine Or.inr ?_ | refine sat_drawH (Tryd.ok ..) (by kernel_rfl) ?_ | refine xi _ (And.intro rfl rfl) ?_ | refine xi _ (fun _ => And.intro rfl rfl) ?_ | refine xi _ rfl ?_)
  (conv => whnf)
  intro g101 hg101
  repeat' ((conv => whnf); first | refine walk (Tryd.ok ..) ?_ | (refine Cnd.mk (fun h => ?_) (fun h => ?_) <;> (first | exact cndT h (by (try dsimp only); omega) | exact cndF h (by (try dsimp only); omega) | (exfalso; simp at h; omega) | simp at h | skip)) | refine kp ?_ ?_ | refine tw ?_ ?_ | refine appnil rfl ?_ | refine rawnil rfl ?_ | exact trivial | refine side2 ?_ | refine sideL2 ?_ | refine Or.inr ?_ | refine sat_drawH (Tryd.ok ..) (by kernel_rfl) ?_ | refine xi _ (And.intro rfl rfl) ?_ | refine xi _ (fun _ => And.intro rfl rfl) ?_ | refine xi _ rfl ?_)
  (conv => whnf)
  intro A102 c102
  repeat' ((conv => whnf); first | refine walk (Tryd.ok ..) ?_ | (refine Cnd.mk (fun h => ?_) (fun h => ?_) <;> (first | exact cndT h (by (try dsimp only); omega) | exact cndF h (by (try dsimp only); omega) | (exfalso; simp at h; omega) | simp at h | skip)) | refine kp ?_ ?_ | refine tw ?_ ?_ | refine appnil rfl ?_ | refine rawnil rfl ?_ | exact trivial | refine side2 ?_ | refine sideL2 ?_ | refine Or.inr ?_ | refine sat_drawH (Tryd.ok ..) (by kernel_rfl) ?_ | refine xi _ (And.intro rfl rfl) ?_ | refine xi _ (fun _ => And.intro rfl rfl) ?_ | refine xi _ rfl ?_)
  refine ⟨(k + 1, el ++ [ba C.1], worseF f3 C.2, A102, c102), ⟨⟨hk1, by rw [List.length_append, hel]; rfl, hpr⟩, by omega⟩, ?_, ?_, rfl⟩
  all_goals ((repeat' (first | exact trivial | exact rfl | refine And.intro ?_ ?_)) <;> (try (conv => whnf)) <;> (try simp only [SV.real, SV.r2, SV.r1]))
  · exact congrArg (fun n => Value.slice (adr A102) n c102) (by rw [List.length_append]; rfl)
  · rw [List.length_append]
    rfl
  · rw [List.map_append]
    rfl
end Go.Proofs.YtdejcgmaphmjbaaDoor
