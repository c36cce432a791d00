/-
  The walk of the comparison of messages. Messages in memory of one's own, whose data can be changed: rows of segments apart from their data. The walk of the law's copy of messages.
-/
import Derived.Test.YtdohcglpcgahaaaGreatDoorTRX
import Derived.Test.YtdohcglpcgahaaaGreatDoorSG1
import Derived.Test.YtdohcglpcgahaaaGreatDoorSMX
import Derived.Test.YtdohcglpcgahaaaGreatDoorTP
import Derived.Test.YtdohcglpcgahaaaGreatDoorPX
set_option linter.unusedSimpArgs false
set_option linter.unusedVariables false
namespace Go.Proofs.YtdohcglpcgahaaaGreatDoor
section
open Go Sat Go.RowKit Go.PlainAid
/-- one cell of an element of what is lent -/
theorem ro_cellz {cx : Cx} {A : Option (Nat × Nat)} {n z : Nat} {xs : List Value} {k i j : Nat} {cs : List Value} {u : Value} (hM : cx.M = []) (hn : cx.n0 = cx.W.heap.size) (h : Ro cx.W A n z xs) (hc : cut1 xs z i = cs) (hl : cs.length = z) (hu : cs[j]? = some u) (hk : k = i * z) (hi : i < n) : ∀ {H : Heap} (w : World), Holds cx H w → w.cell? ((adAt (adr A) k).add j) = some u := fun w hw => (ro_aggz hM hn h hc hl hk hi).2 w hw j u hu
theorem kz (i z : Nat) : mulS (i : Int).toNat z = i * z := by rw [mulS_eq, Int.toNat_natCast]
theorem msg_ne1 {a b : Msg} (h : a.kind ≠ b.kind ∨ a.ref ≠ b.ref ∨ a.segs.length ≠ b.segs.length) : a ≠ b := fun e => by
  subst e
  rcases h with h | h | h <;> exact h rfl
set_option maxRecDepth 100000 in
set_option maxHeartbeats 16000000 in
theorem sameG_any (a b : List Msg) (va vb : Value) (w : World) (hA : NMsgs NSA w (fun _ => True) va a) (hB : NMsgs NSA w (fun _ => True) vb b) :
    Calls Tryz.prog 12 #[va, vb] w fun e w' => e = .returned (.bool (decide (a = b))) ∧ Below w.heap.size w w' := by
  obtain ⟨A', A, cA, xs, rfl, aA, hcA, hrA, -, hxA⟩ := hA
  obtain ⟨B', B, cB, ys, rfl, aB, hcB, hrB, -, hxB⟩ := hB
  refine calls_sat (cx := Tryz.cx 110 [11] [] [] w) (Tryz.ok ..) Tryz.func12 rfl [.v (.slice A' a.length cA), .v (.slice B' b.length cB)] rfl (by show 2 ≤ 110; omega) [] (holds_nil (Nat.le_refl _)) ?_
  by_cases hl : a.length = b.length
  case neg =>
    rw [decide_eq_false (fun h => hl (by rw [h]))]
    repeat' ((conv => whnf); first | refine walk (Tryz.ok ..) ?_ | (refine Cnd.mk (fun h => ?_) (fun h => ?_) <;> (first | exact cndT h (by (try dsimp only); omega) | exact cndF h (by (try dsimp only); omega) | (exfalso; simp at h; omega) | simp at h | skip)) | fail)
    all_goals first | exact done_pure rfl rfl rfl | omega
  rw [← hl] at aB hcB hrB ⊢
  have hmax : a.length ≤ 9223372036854775807 := Nat.le_trans (Nat.le_trans hcA.1 hcA.2) (by decide)
  repeat' ((conv => whnf); first | refine walk (Tryz.ok ..) ?_ | (refine Cnd.mk (fun h => ?_) (fun h => ?_) <;> (first | exact cndT h (by (try dsimp only); omega) | exact cndF h (by (try dsimp only); omega) | (exfalso; simp at h; omega) | simp at h | skip)) | fail)
  refine sat_loop (Tryz.ok ..) (α := Nat) (fun i => ([(0, .yes, .v (.slice A' a.length cA)), (1, .yes, .v (.slice B' a.length cB)), (5, .yes, .v (.int .i64 i))], []))
    (fun k => k ≤ a.length ∧ a.take k = b.take k) (fun k => a.length - k) (fun _ => rfl) ?_ ?_
  · refine ⟨0, ⟨Nat.zero_le _, by simp⟩, ?_, ?_, rfl⟩
    all_goals ((repeat' (first | exact trivial | exact rfl | refine And.intro ?_ ?_)) <;> (try (conv => whnf)) <;> (try simp only [SV.real, SV.r2, SV.r1]))
  rintro i ⟨hi, he⟩
  by_cases hi1 : i < a.length
  case neg =>
    obtain rfl : i = a.length := by omega
    rw [List.take_length, hl, List.take_length] at he
    rw [decide_eq_true he]
    repeat' ((conv => whnf); first | refine walk (Tryz.ok ..) ?_ | (refine Cnd.mk (fun h => ?_) (fun h => ?_) <;> (first | exact cndT h (by (try dsimp only); omega) | exact cndF h (by (try dsimp only); omega) | (exfalso; simp at h; omega) | simp at h | skip)) | fail)
    exact done_pure rfl rfl rfl
  obtain ⟨m, hm⟩ : ∃ s, a[i]? = some s := ⟨_, List.getElem?_eq_getElem hi1⟩
  obtain ⟨n, hn⟩ : ∃ s, b[i]? = some s := ⟨_, List.getElem?_eq_getElem (hl ▸ hi1)⟩
  obtain ⟨vm, hcm, hvm⟩ := hxA i m hm
  obtain ⟨vn, hcn, hvn⟩ := hxB i n hn
  obtain ⟨p, rfl, rfl⟩ := some_ofz aA hrA (by omega)
  obtain ⟨q, rfl, rfl⟩ := some_ofz aB hrB (by omega)
  obtain ⟨am, Am, cm, xm, rfl, aAm, hcmm, hrm, -, hxm⟩ := hvm
  obtain ⟨an, An, cn, xn, rfl, aAn, hcnn, hrn, -, hxn⟩ := hvn
  repeat' ((conv => whnf); first | refine walk (Tryz.ok ..) ?_ | (refine Cnd.mk (fun h => ?_) (fun h => ?_) <;> (first | exact cndT h (by (try dsimp only); omega) | exact cndF h (by (try dsimp only); omega) | (exfalso; simp at h; omega) | simp at h | skip)) | refine side2 ?_ | refine sideL2 ?_ | refine xi _ (ro_cellz (j := 0) rfl rfl hrA hcm rfl rfl (kz i 3) hi1) ?_ | refine xi _ (ro_cellz (j := 0) rfl rfl hrB hcn rfl rfl (kz i 3) hi1) ?_ | refine xi _ (fun _ => (ro_cellz (j := 1) rfl rfl hrA hcm rfl rfl (kz i 3) hi1)) ?_ | refine xi _ (fun _ => (ro_cellz (j := 1) rfl rfl hrB hcn rfl rfl (kz i 3) hi1)) ?_ | refine xi _ (fun _ => (ro_cellz (j := 2) rfl rfl hrA hcm rfl rfl (kz i 3) hi1)) ?_ | refine xi _ (fun _ => (ro_cellz (j := 2) rfl rfl hrB hcn rfl rfl (kz i 3) hi1)) ?_ | fail)
  · rw [decide_eq_false (eq_no hm hn (msg_ne1 (by
      rcases h with (h | h) | h
      · exact .inl h
      · exact .inr (.inl h)
      · exact .inr (.inr (by omega)))))]
    exact done_pure rfl rfl rfl
  obtain ⟨⟨hk1, hk2⟩, hk3⟩ := h
  have hsl : m.segs.length = n.segs.length := by omega
  rw [← hsl] at aAn hcnn hrn hcn
  have hmaxm : m.segs.length ≤ 9223372036854775807 := Nat.le_trans (Nat.le_trans hcmm.1 hcmm.2) (by decide)
  refine sat_loop (Tryz.ok ..) (α := Nat) (fun k => ([(0, .yes, .v (.slice (adr (some p)) a.length cA)), (1, .yes, .v (.slice (adr (some q)) a.length cB)), (5, .yes, .v (.int .i64 i)), (6, .yes, .v (.int .i64 k))], []))
    (fun k => k ≤ m.segs.length ∧ m.segs.take k = n.segs.take k) (fun k => m.segs.length - k) (fun _ => rfl) ?_ ?_
  · refine ⟨0, ⟨Nat.zero_le _, by simp⟩, ?_, ?_, rfl⟩
    all_goals ((repeat' (first | exact trivial | exact rfl | refine And.intro ?_ ?_)) <;> (try (conv => whnf)) <;> (try simp only [SV.real, SV.r2, SV.r1]))
  rintro k ⟨hk, hek⟩
  by_cases hks : k < m.segs.length
  case neg =>
    obtain rfl : k = m.segs.length := by omega
    rw [List.take_length, hsl, List.take_length] at hek
    have hmn : m = n := by
      obtain ⟨m1, m2, m3⟩ := m
      obtain ⟨n1, n2, n3⟩ := n
      dsimp only at hk1 hk2 hek
      rw [hk1, hk2, hek]
    repeat' ((conv => whnf); first | refine walk (Tryz.ok ..) ?_ | (refine Cnd.mk (fun h => ?_) (fun h => ?_) <;> (first | exact cndT h (by (try dsimp only); omega) | exact cndF h (by (try dsimp only); omega) | (exfalso; simp at h; omega) | simp at h | skip)) | refine side2 ?_ | refine sideL2 ?_ | refine xi _ (ro_cellz (j := 2) rfl rfl hrA hcm rfl rfl (kz i 3) hi1) ?_ | fail)
    refine ⟨i + 1, ⟨⟨hi1, eq_step he hm hn hmn⟩, by omega⟩, ?_, ?_, rfl⟩
    all_goals ((repeat' (first | exact trivial | exact rfl | refine And.intro ?_ ?_)) <;> (try (conv => whnf)) <;> (try simp only [SV.real, SV.r2, SV.r1]))
  obtain ⟨s, hs⟩ : ∃ s, m.segs[k]? = some s := ⟨_, List.getElem?_eq_getElem hks⟩
  obtain ⟨u, hu⟩ : ∃ s, n.segs[k]? = some s := ⟨_, List.getElem?_eq_getElem (hsl ▸ hks)⟩
  obtain ⟨vs, hcs, hvs⟩ := hxm k s hs
  obtain ⟨vu, hcu, hvu⟩ := hxn k u hu
  obtain ⟨ps, rfl, rfl⟩ := some_ofz aAm hrm (by omega)
  obtain ⟨pn, rfl, rfl⟩ := some_ofz aAn hrn (by omega)
  obtain ⟨as', ns', cs', rfl⟩ := nsa_sl _ _ _ _ hvs
  obtain ⟨au, nu, cu, rfl⟩ := nsa_sl _ _ _ _ hvu
  repeat' ((conv => whnf); first | refine walk (Tryz.ok ..) ?_ | (refine Cnd.mk (fun h => ?_) (fun h => ?_) <;> (first | exact cndT h (by (try dsimp only); omega) | exact cndF h (by (try dsimp only); omega) | (exfalso; simp at h; omega) | simp at h | skip)) | refine side2 ?_ | refine xi _ (ro_cellz (j := 2) rfl rfl hrA hcm rfl rfl (kz i 3) hi1) ?_ | fail)
  refine sat_draw (Tryz.ok ..) [] [] (by kernel_rfl) (fun w hw => hw.sub trivial) ?_
  by_cases hst : s.1 = u.1
  · have hbt : (s.1 == u.1) = true := (MapKept.bytes_beq _ _).2 hst
    have hG' : (!!(s.1 == u.1)) = true := by rw [hbt]; rfl
    repeat' ((conv => whnf); first | ((with_reducible refine Or.inr (Cnd.mk (fun _ => ?_) (fun h => absurd h (by rw [hbt]; simp))))) | refine side2 ?_ | refine xi _ (fun _ => (ro_cellz (j := 2) rfl rfl hrA hcm rfl rfl (kz i 3) hi1)) ?_ | refine xi _ (ro_cellz (j := 2) rfl rfl hrA hcm rfl rfl (kz i 3) hi1) ?_ | refine xi _ (fun _ => (ro_cellz (j := 2) rfl rfl hrB hcn rfl rfl (kz i 3) hi1)) ?_ | refine xi _ (ro_cellz (j := 2) rfl rfl hrB hcn rfl rfl (kz i 3) hi1) ?_ | refine xi _ (ro_cellz (j := 0) rfl rfl hrm hcs rfl rfl (kz k 2) hks) ?_ | refine xi _ (ro_cellz (j := 0) rfl rfl hrn hcu rfl rfl (kz k 2) hks) ?_ | refine xi _ (fun _ => (ro_cellz (j := 1) rfl rfl hrm hcs rfl rfl (kz k 2) hks)) ?_ | refine xi _ (fun _ => (ro_cellz (j := 1) rfl rfl hrn hcu rfl rfl (kz k 2) hks)) ?_ | fail)
    · (conv => whnf)
      refine called_nestK 905 (mk := id) (Q := fun w' B v => Nest NSA w' (fun g => B g ∨ g < w.heap.size) v [s.2]) (fun v => .v v) (fun _ => rfl) (fun w' hh => by exact lists_any nsa_stays nsa_sl s.2 _ w' _ (lent_low nsa_stays nsa_narrow rfl rfl hvs hh)) ?_
      intro w5 gs5 v5 h5 hw5
      repeat' ((conv => whnf); first | ((with_reducible refine Or.inr (Cnd.mk (fun _ => ?_) (fun h => absurd h (by rw [hbt]; simp))))) | refine kp ?_ ?_ | exact trivial | refine side2 ?_ | fail)
      (conv => whnf)
      refine called_nestK 906 (mk := id) (Q := fun w' B v => Nest NSA w' (fun g => B g ∨ g < w.heap.size) v [u.2]) (fun v => .v v) (fun _ => rfl) (fun w' hh => by exact lists_any nsa_stays nsa_sl u.2 _ w' _ (lent_low nsa_stays nsa_narrow rfl rfl hvu hh)) ?_
      intro w6 gs6 v6 h6 hw6
      repeat' ((conv => whnf); first | ((with_reducible refine Or.inr (Cnd.mk (fun _ => ?_) (fun h => absurd h (by rw [hbt]; simp))))) | refine kp ?_ ?_ | exact trivial | fail)
      (conv => whnf)
      refine called_at (.v (.bool (decide ([s.2] = [u.2])))) rfl (fun w' hh => by exact same_any [s.2] [u.2] v5 v6 w' (nest_to (mix_nest (nest_stays nsa_stays) rfl h5 hw5 (d := 905) rfl hh _ (fun _ _ => trivial))) (nest_to (mix_nest (nest_stays nsa_stays) rfl h6 hw6 (d := 906) rfl hh _ (fun _ _ => trivial)))) ?_
      by_cases hdd : s.2 = u.2
      · rw [show decide ([s.2] = [u.2]) = true from decide_eq_true (by rw [hdd])]
        repeat' ((conv => whnf); first | refine walk (Tryz.ok ..) ?_ | (refine Cnd.mk (fun h => ?_) (fun h => ?_) <;> (first | exact cndT h (by (try dsimp only); omega) | exact cndF h (by (try dsimp only); omega) | (exfalso; simp at h; omega) | simp at h | skip)) | refine kp ?_ ?_ | exact trivial | refine side2 ?_ | refine sideL2 ?_ | fail)
        · exact absurd hst (by assumption)
        refine ⟨k + 1, ⟨⟨hks, eq_step hek hs hu (Prod.ext hst hdd)⟩, by omega⟩, ?_, ?_, rfl⟩
        all_goals ((repeat' (first | exact trivial | exact rfl | refine And.intro ?_ ?_)) <;> (try (conv => whnf)) <;> (try simp only [SV.real, SV.r2, SV.r1]))
      · rw [show decide ([s.2] = [u.2]) = false from decide_eq_false (fun e => hdd (List.cons.inj e).1)]
        rw [decide_eq_false (eq_no hm hn (fun e => eq_no hs hu (fun e2 => hdd (by rw [e2])) (congrArg Msg.segs e)))]
        repeat' ((conv => whnf); first | refine walk (Tryz.ok ..) ?_ | (refine Cnd.mk (fun h => ?_) (fun h => ?_) <;> (first | exact cndT h (by (try dsimp only); omega) | exact cndF h (by (try dsimp only); omega) | (exfalso; simp at h; omega) | simp at h | skip)) | refine kp ?_ ?_ | exact trivial | refine side2 ?_ | fail)
        all_goals exact done_pure rfl rfl rfl
  · have hbt : (s.1 == u.1) = false := by
      cases h0 : (s.1 == u.1) with
      | false => rfl
      | true => exact absurd ((MapKept.bytes_beq _ _).1 h0) hst
    rw [decide_eq_false (eq_no hm hn (fun e => eq_no hs hu (fun e2 => hst (by rw [e2])) (congrArg Msg.segs e)))]
    repeat' ((conv => whnf); first | refine side2 ?_ | refine sideL2 ?_ | refine xi _ (fun _ => (ro_cellz (j := 2) rfl rfl hrA hcm rfl rfl (kz i 3) hi1)) ?_ | refine xi _ (ro_cellz (j := 2) rfl rfl hrA hcm rfl rfl (kz i 3) hi1) ?_ | refine xi _ (fun _ => (ro_cellz (j := 2) rfl rfl hrB hcn rfl rfl (kz i 3) hi1)) ?_ | refine xi _ (ro_cellz (j := 2) rfl rfl hrB hcn rfl rfl (kz i 3) hi1) ?_ | refine xi _ (ro_cellz (j := 0) rfl rfl hrm hcs rfl rfl (kz k 2) hks) ?_ | refine xi _ (ro_cellz (j := 0) rfl rfl hrn hcu rfl rfl (kz k 2) hks) ?_ | refine xi _ (fun _ => (ro_cellz (j := 1) rfl rfl hrm hcs rfl rfl (kz k 2) hks)) ?_ | refine xi _ (fun _ => (ro_cellz (j := 1) rfl rfl hrn hcu rfl rfl (kz k 2) hks)) ?_ | fail)
    (conv => whnf)
    refine calledQ_at (.v (.slice none 0 0)) rfl (fun h _ _ => absurd h (by simp [Grd.holds, hbt])) ?_
    repeat' ((conv => whnf); first | refine kp ?_ ?_ | exact trivial | refine sideL2 ?_ | fail)
    (conv => whnf)
    refine calledQ_at (.v (.slice none 0 0)) rfl (fun h _ _ => absurd h (by simp [Grd.holds, hbt])) ?_
    repeat' ((conv => whnf); first | refine kp ?_ ?_ | exact trivial | refine side2 ?_ | refine sideL2 ?_ | fail)
    (conv => whnf)
    refine calledQ_at (.v (.bool false)) rfl (fun h _ _ => absurd h (by simp [Grd.holds, hbt])) ?_
    repeat' ((conv => whnf); first | refine walk (Tryz.ok ..) ?_ | (refine Cnd.mk (fun h => ?_) (fun h => ?_) <;> (first | exact cndT h (by (try dsimp only); omega) | exact cndF h (by (try dsimp only); omega) | (exfalso; simp at h; omega) | simp at h | skip)) | refine kp ?_ ?_ | exact trivial | refine side2 ?_ | fail)
    all_goals first | exact done_pure rfl rfl rfl | omega
end
section
open Go Sat Go.RowKit Go.PlainAid
/-- data that lie in blocks of D in the world wD -/
def RW (wD : World) (D : List Nat) : Lies Dat := fun _ _ v d => NS wD (fun g => g ∈ D) v d
theorem rw_stays (wD : World) (D : List Nat) : Stays (RW wD D) := fun _ _ _ _ _ _ h _ _ => h
theorem RW.mono {wD wD' : World} {D D' : List Nat} (hk : ∀ g, g ∈ D → wD'.heap[g]? = wD.heap[g]?) (hs : ∀ g, g ∈ D → g ∈ D') {w : World} {B : Nat → Prop} {v : Value} {d : Dat} (h : RW wD D w B v d) : RW wD' D' w B v d := ns_stays _ _ _ _ _ _ h (fun g hg _ => hk g hg) hs
theorem segr_mono {wD wD' : World} {D D' : List Nat} (hk : ∀ g, g ∈ D → wD'.heap[g]? = wD.heap[g]?) (hs : ∀ g, g ∈ D → g ∈ D') {w : World} {B : Nat → Prop} {cs : List Value} {s : Sg} (h : SegR (RW wD D) w B cs s) : SegR (RW wD' D') w B cs s := segr_imp (fun _ _ _ _ h => RW.mono hk hs h) h
theorem msgr_mono {wD wD' : World} {D D' : List Nat} (hk : ∀ g, g ∈ D → wD'.heap[g]? = wD.heap[g]?) (hs : ∀ g, g ∈ D → g ∈ D') {w : World} {B : Nat → Prop} {cs : List Value} {m : Msg} (h : MsgR (RW wD D) w B cs m) : MsgR (RW wD' D') w B cs m := msgr_imp (fun _ _ _ _ h => RW.mono hk hs h) h
/-- messages that have been made so far: rows of segments in blocks of S, data in blocks of D -/
structure GotM (wS wD : World) (S D : List Nat) (n : Nat) (xs : List Value) (l : List Msg) : Prop where
  len : xs.length = n * 3
  at_ : ∀ (i : Nat) (m : Msg), i < n → l[i]? = some m → MsgR (RW wD D) wS (fun g => g ∈ S) (cut1 xs 3 i) m
  cells : ∀ g, g ∈ S → Cells0 wS g
def GivesM (T : Nat) (l : List Msg) (w : World) : Ending → World → Prop := fun e w' =>
  ∃ (A : Option (Nat × Nat)) (cap : Nat) (xs : List Value) (S D : List Nat), e = .returned (.slice (adr A) l.length cap) ∧ w'.ownsRow w.heap.size T 3 (.slice (adr A) l.length cap) l.length xs ∧ (∀ g, g ∈ S → w.heap.size ≤ g ∧ g < w'.heap.size) ∧ (∀ g, g ∈ D → w.heap.size ≤ g ∧ g < w'.heap.size) ∧ (∀ g, g ∈ S → g ∉ D) ∧ (∀ p, A = some p → p.1 ∉ S ∧ p.1 ∉ D) ∧ GotM w' w' S D l.length xs l ∧ Below w.heap.size w w'
theorem row_gsz {A : Option (Nat × Nat)} {T z n cap : Nat} {xs : List Value} {g : Nat} (h : g ∈ (HB.row A T z n cap xs).gs) : ∃ p, A = some p ∧ p.1 = g := by
  simp only [HB.gs, Option.mem_toList, Option.map_eq_some_iff] at h
  exact h
theorem GotM.mono {wS wS' wD wD' : World} {S S' D D' : List Nat} {n : Nat} {xs : List Value} {l : List Msg} (h : GotM wS wD S D n xs l) (hS : ∀ g, g ∈ S → wS'.heap[g]? = wS.heap[g]?) (hs : ∀ g, g ∈ S → g ∈ S') (hc : ∀ g, g ∈ S' → Cells0 wS' g) (hD : ∀ g, g ∈ D → wD'.heap[g]? = wD.heap[g]?) (hd : ∀ g, g ∈ D → g ∈ D') : GotM wS' wD' S' D' n xs l :=
  ⟨h.len, fun i m hi hm => msgr_mono hD hd (msgr_stays (rw_stays wD D) _ _ _ _ _ _ (h.at_ i m hi hm) (fun g hg _ => hS g hg) hs), hc⟩
theorem cells0_at {w w' : World} {g : Nat} (h : Cells0 w g) (hk : w'.heap[g]? = w.heap[g]?) : Cells0 w' g := by
  obtain ⟨cur, ty, h⟩ := h
  exact ⟨cur, ty, hk.trans h⟩
theorem done_M {cx : Cx} {T : Nat} {l : List Msg} {sv : SV} {H : Heap} (hn : cx.n0 = cx.W.heap.size) (hM : cx.M = []) (d1 d2 d3 : Nat) (h12 : d1 ≠ d2) (h13 : d1 ≠ d3) (h23 : d2 ≠ d3) {wS wD : World} {A : Option (Nat × Nat)} {n cap : Nat} {xs : List Value} {S D : List Nat}
    (hf1 : hfind H d1 = some (.row A T 3 n cap xs)) (hf2 : hfind H d2 = some (.own S (Frz wS S))) (hf3 : hfind H d3 = some (.own D (Frz wD D))) (hl : n = l.length) (hg : GotM wS wD S D n xs l) (hv : sv.real = .slice (adr A) n cap) :
    Done cx (GivesM T l cx.W) sv H := by
  subst hl
  refine ⟨fun w hw => ?_⟩
  have ho2 : (HB.own S (Frz wS S)).holds cx w := hw.at_ hf2
  have ho3 : (HB.own D (Frz wD D)).holds cx w := hw.at_ hf3
  have hr : w.ownsRow cx.n0 T 3 (.slice (adr A) l.length cap) l.length xs := hw.at_ hf1
  exact ⟨A, cap, xs, S, D, by rw [hv], by rw [← hn]; exact hr, fun g hg => ⟨by rw [← hn]; exact (ho2.1 g hg).1, (ho2.1 g hg).2⟩, fun g hg => ⟨by rw [← hn]; exact (ho3.1 g hg).1, (ho3.1 g hg).2⟩,
    fun g h1 h2 => hw.sep d2 _ d3 _ (hfind_mem hf2) (hfind_mem hf3) h23 g h1 h2,
    fun p hp => ⟨fun hm => hw.sep d1 _ d2 _ (hfind_mem hf1) (hfind_mem hf2) h12 p.1 (by rw [hp]; exact List.mem_singleton_self _) hm, fun hm => hw.sep d1 _ d3 _ (hfind_mem hf1) (hfind_mem hf3) h13 p.1 (by rw [hp]; exact List.mem_singleton_self _) hm⟩,
    hg.mono (frz_of hf2 hw) (fun _ h => h) (fun g h => cells0_at (hg.cells g h) (frz_of hf2 hw g h)) (frz_of hf3 hw) (fun _ h => h), below_of hn hM hw⟩
theorem nestz_in {α : Type} {z : Nat} {R R' : LiesC α} {w : World} {B B' : Nat → Prop} {v : Value} {l : List α} (hB : ∀ g, B g → B' g) (h : ∀ (cs : List Value) (a : α), R w B cs a → R' w B' cs a) : NestZ z R w B v l → NestZ z R' w B' v l := by
  rintro ⟨a, A, cap, xs, hv, ha, hc, hro, hb, hx⟩
  exact ⟨a, A, cap, xs, hv, ha, hc, hro, fun p hp hn => hB _ (hb p hp hn), fun i a h1 => h _ _ (hx i a h1)⟩
/-- at one world rows and data are a nest -/
theorem msgr_all {w : World} {S D : List Nat} {B : Nat → Prop} (hS : ∀ g, g ∈ S → B g) (hD : ∀ g, g ∈ D → B g) {cs : List Value} {m : Msg} (h : MsgR (RW w D) w (fun g => g ∈ S) cs m) : MsgR NS w B cs m := by
  obtain ⟨x, hx, h1⟩ := h
  refine ⟨x, hx, nestz_in hS (fun cs a h2 => ?_) h1⟩
  obtain ⟨y, hy, h3⟩ := h2
  exact ⟨y, hy, ns_stays _ _ _ _ _ _ h3 (fun _ _ _ => rfl) hD⟩
theorem ro_of_ownz {w : World} {B T z n cap : Nat} {A : Option (Nat × Nat)} {xs : List Value} (hr : w.ownsRow B T z (.slice (adr A) n cap) n xs) : Ro w A n z xs := by
  refine ⟨hr.1, fun hn => ?_⟩
  cases A with
  | none =>
    rcases hr.2 with ⟨hv, h0⟩ | ⟨g, cap', cur, hv, _⟩
    · omega
    · cases hv
  | some p =>
    refine ⟨p, rfl, (hr.lt p.1 rfl).2, fun j u hu => ?_⟩
    have := row_cell hr hu
    rw [Option.getD_some, Nat.add_comm] at this
    exact this
theorem gives_of_M {T : Nat} {l : List Msg} {w : World} {e : Ending} {w' : World} (h : GivesM T l w e w') : Gives id (fun w B v => NMsgs NS w B v l) w e w' := by
  obtain ⟨A, cap, xs, S, D, he, hrow, hS, hD, hSD, hA, hgot, hb⟩ := h
  have hcap : l.length ≤ cap ∧ cap ≤ maxLen := by
    rcases hrow.2 with ⟨hv, hn⟩ | ⟨g, cap', cur, hv, _, _, h1, h2, _⟩
    · injection hv with _ _ hc
      exact ⟨by omega, by rw [hc]; exact Nat.zero_le _⟩
    · injection hv with _ _ hc
      subst hc
      exact ⟨h1, h2⟩
  refine ⟨_, (A.map Prod.fst).toList ++ (S ++ D), he, fun g hg => ?_, ⟨adr A, A, cap, xs, rfl, AtN.refl _ _, hcap, ro_of_ownz hrow, fun p hp hn => by rw [hp]; exact List.mem_append_left _ (by simp), fun i a ha => msgr_all (fun g h => List.mem_append_right _ (List.mem_append_left _ h)) (fun g h => List.mem_append_right _ (List.mem_append_right _ h)) (hgot.at_ i a (List.getElem?_eq_some_iff.1 ha).1 ha)⟩, hb⟩
  rcases List.mem_append.1 hg with hg | hg
  · simp only [Option.mem_toList, Option.map_eq_some_iff] at hg
    obtain ⟨p, rfl, rfl⟩ := hg
    exact hrow.lt p.1 rfl
  · rcases List.mem_append.1 hg with hg | hg
    · exact hS g hg
    · exact hD g hg
end
section
open Go Sat Go.RowKit Go.PlainAid
theorem cells_fuse {cx : Cx} {H : Heap} {w wS : World} {S : List Nat} {d id : Nat} {A : Option (Nat × Nat)} {T z n cap : Nat} {xs : List Value} (hw : Holds cx H w) (hd : hfind H d = some (.own S (Frz wS S))) (hi : hfind H id = some (.row A T z n cap xs)) (hc : ∀ g, g ∈ S → Cells0 wS g) : ∀ g, g ∈ gsOf H [d, id] → Cells0 w g := by
  intro g hg
  obtain ⟨i, b, hi', hb, hgb⟩ := mem_gsOf hg
  rcases List.mem_cons.1 hi' with rfl | hi'
  · rw [hd] at hb
    cases hb
    exact cells0_at (hc g hgb) (frz_of hd hw g hgb)
  · rw [List.mem_singleton] at hi'
    subst hi'
    rw [hi] at hb
    cases hb
    obtain ⟨p, rfl, rfl⟩ := row_gsz hgb
    exact own_cellsz (hw.at_ hi)
theorem segs_row {R : Lies Dat} {cx : Cx} {H : Heap} {w w0 : World} {B0 : Nat → Prop} (hR : ∀ w w' B B' v d, R w B v d → R w' B' v d) (L : List Nat) (id : Nat) {A : Option (Nat × Nat)} {T n cap : Nat} {xs : List Value} {l : List Sg} (hw : Holds cx H w) (hf : hfind H id = some (.row A T 2 n cap xs)) (hi : memN L id = true) (hn : n = l.length) (h : ∀ (j : Nat) (s : Sg), j < n → l[j]? = some s → SegR R w0 B0 (cut1 xs 2 j) s) : NSegs R w (fun g => g ∈ gsOf H L) (.slice (adr A) n cap) l := by
  subst hn
  refine ⟨adr A, A, cap, xs, rfl, AtN.refl _ _, row_caps hw hf, ro_of_row hw hf, fun p hp _ => gs_sub hi hf (by rw [hp]; simp [HB.gs]), fun i a ha => ?_⟩
  obtain ⟨y, hy, h1⟩ := h i a (List.getElem?_eq_some_iff.1 ha).1 ha
  exact ⟨y, hy, hR _ _ _ _ _ _ h1⟩
theorem GotM.snoc {wS wD : World} {S D : List Nat} {n : Nat} {xs : List Value} {l : List Msg} {m : Msg} {v : Value} (h : GotM wS wD S D n xs l) (hm : l[n]? = some m) (hv : NSegs (RW wD D) wS (fun g => g ∈ S) v m.segs) : GotM wS wD S D (n + 1) (xs ++ [.string m.kind, .string m.ref, v]) l := by
  refine ⟨by rw [List.length_append, h.len]; simp; omega, fun i a hi ha => ?_, h.cells⟩
  rcases Nat.lt_or_ge i n with h1 | h1
  · rw [cut1_old h.len h1]
    exact h.at_ i a h1 ha
  · obtain rfl : i = n := by omega
    rw [hm] at ha
    cases ha
    rw [cut1_new h.len rfl]
    exact ⟨v, rfl, hv⟩
theorem segs_snoc {R : Lies Dat} {w : World} {B : Nat → Prop} {n : Nat} {xs : List Value} {l : List Sg} {s : Sg} {v : Value} (hl : xs.length = n * 2) (h : ∀ (j : Nat) (s : Sg), j < n → l[j]? = some s → SegR R w B (cut1 xs 2 j) s) (hs : l[n]? = some s) (hv : R w B v s.2) : ∀ (j : Nat) (t : Sg), j < n + 1 → l[j]? = some t → SegR R w B (cut1 (xs ++ [.string s.1, v]) 2 j) t := by
  intro j t hj ht
  rcases Nat.lt_or_ge j n with h1 | h1
  · rw [cut1_old hl h1]
    exact h j t h1 ht
  · obtain rfl : j = n := by omega
    rw [hs] at ht
    cases ht
    rw [cut1_new hl rfl]
    exact ⟨v, rfl, hv⟩
theorem own_sub {cx : Cx} {H : Heap} {w w0 : World} (hw : Holds cx H w) (L : List Nat) (i : Nat) {D : List Nat} (hi : memN L i = true) (hf : hfind H i = some (.own D (Frz w0 D))) : ∀ g, g ∈ D → g ∈ gsOf H L := fun _ h => gs_sub hi hf h
/-- bounds for messages that are copied -/
structure FewO (l : List Msg) : Prop where
  top : l.length ≤ 1000000
  seg : ∀ m ∈ l, m.segs.length ≤ 1000000 ∧ ∀ s ∈ m.segs, FewS s.2
set_option maxRecDepth 100000 in
set_option maxHeartbeats 16000000 in
theorem ownM_row (l : List Msg) (v : Value) (w : World) (hA : NMsgs NSA w (fun _ => True) v l) (hf : FewO l) :
    Calls Tryz.prog 13 #[v] w (GivesM 28 l w) := by
  obtain ⟨A', A, cA, xs, rfl, aA, hcA, hrA, -, hxA⟩ := hA
  refine calls_sat (cx := Tryz.cx 43 [2, 9, 10, 13] [] [] w) (Tryz.ok ..) Tryz.func13 rfl [.v (.slice A' l.length cA)] rfl (by show 1 ≤ 43; omega) [] (holds_nil (Nat.le_refl _)) ?_
  have hmax : l.length ≤ 9223372036854775807 := Nat.le_trans (Nat.le_trans hcA.1 hcA.2) (by decide)
  have htop := hf.top
  repeat' ((conv => whnf); first | refine walk (Tryz.ok ..) ?_ | (refine Cnd.mk (fun h => ?_) (fun h => ?_) <;> (first | exact cndT h (by (try dsimp only); omega) | exact cndF h (by (try dsimp only); omega) | (exfalso; simp at h; omega) | simp at h | skip)) | refine kp ?_ ?_ | refine tw ?_ ?_ | refine appnil rfl ?_ | refine rawnil rfl ?_ | exact trivial | refine side2 ?_ | refine sideL2 ?_ | refine Or.inr ?_ | refine sat_drawH (Tryz.ok ..) (by kernel_rfl) ?_ | refine xi _ (And.intro rfl rfl) ?_ | refine xi _ (fun _ => And.intro rfl rfl) ?_ | refine xi _ rfl ?_)
  refine sat_fuse 977 [] rfl fun w0 hw0 => ?_
  refine sat_fuse 979 [] rfl fun w0' hw0' => ?_
  refine sat_ops (Tryz.ok ..) ?_
  repeat' ((conv => whnf); first | refine walk (Tryz.ok ..) ?_ | (refine Cnd.mk (fun h => ?_) (fun h => ?_) <;> (first | exact cndT h (by (try dsimp only); omega) | exact cndF h (by (try dsimp only); omega) | (exfalso; simp at h; omega) | simp at h | skip)) | refine kp ?_ ?_ | refine tw ?_ ?_ | refine appnil rfl ?_ | refine rawnil rfl ?_ | exact trivial | refine side2 ?_ | refine sideL2 ?_ | refine Or.inr ?_ | refine sat_drawH (Tryz.ok ..) (by kernel_rfl) ?_ | refine xi _ (And.intro rfl rfl) ?_ | refine xi _ (fun _ => And.intro rfl rfl) ?_ | refine xi _ rfl ?_)
  refine sat_loop (Tryz.ok ..) (α := Nat × Option (Nat × Nat) × Nat × List Value × World × List Nat × World × List Nat) (fun t => ([(3, .yes, .o 80 t.2.1 t.1 t.2.2.1), (9, .yes, .v (.slice A' l.length cA)), (10, .yes, .v (.int .i64 l.length)), (11, .yes, .v (.int .i64 t.1))], [(80, .row t.2.1 28 3 t.1 t.2.2.1 t.2.2.2.1), (977, .own t.2.2.2.2.2.1 (Frz t.2.2.2.2.1 t.2.2.2.2.2.1)), (979, .own t.2.2.2.2.2.2.2 (Frz t.2.2.2.2.2.2.1 t.2.2.2.2.2.2.2))]))
    (fun t => t.1 ≤ l.length ∧ GotM t.2.2.2.2.1 t.2.2.2.2.2.2.1 t.2.2.2.2.2.1 t.2.2.2.2.2.2.2 t.1 t.2.2.2.1 l) (fun t => l.length - t.1) (fun _ => rfl) ?_ ?_
  · refine ⟨(0, none, 0, [], w0, [], w0', []), ⟨Nat.zero_le _, rfl, fun i m h => by omega, fun g h => by cases h⟩, ?_, ?_, rfl⟩
    all_goals ((repeat' (first | exact trivial | exact rfl | refine And.intro ?_ ?_)) <;> (try (conv => whnf)) <;> (try simp only [SV.real, SV.r2, SV.r1]))
  rintro ⟨k, A3, cap3, xs3, wS, S, wD, D⟩ ⟨hk, hg⟩
  dsimp only at hk hg ⊢
  by_cases hk1 : k < l.length
  case neg =>
    obtain rfl : k = l.length := by omega
    repeat' ((conv => whnf); first | refine walk (Tryz.ok ..) ?_ | (refine Cnd.mk (fun h => ?_) (fun h => ?_) <;> (first | exact cndT h (by (try dsimp only); omega) | exact cndF h (by (try dsimp only); omega) | (exfalso; simp at h; omega) | simp at h | skip)) | refine kp ?_ ?_ | refine tw ?_ ?_ | refine appnil rfl ?_ | refine rawnil rfl ?_ | exact trivial | refine side2 ?_ | refine sideL2 ?_ | refine Or.inr ?_ | refine sat_drawH (Tryz.ok ..) (by kernel_rfl) ?_ | refine xi _ (And.intro rfl rfl) ?_ | refine xi _ (fun _ => And.intro rfl rfl) ?_ | refine xi _ rfl ?_)
    exact done_M rfl rfl 80 977 979 (by decide) (by decide) (by decide) (A := A3) (cap := cap3) (xs := xs3) (S := S) (D := D) (wS := wS) (wD := wD) rfl rfl rfl rfl hg rfl
  obtain ⟨m, hm⟩ : ∃ s, l[k]? = some s := ⟨_, List.getElem?_eq_getElem hk1⟩
  obtain ⟨vm, hcm, hvm⟩ := hxA k m hm
  obtain ⟨am, Am, cm, xm, rfl, aAm, hcmm, hrm, -, hxm⟩ := hvm
  obtain ⟨p, rfl, rfl⟩ := some_ofz aA hrA (by omega)
  have hmaxm : m.segs.length ≤ 9223372036854775807 := Nat.le_trans (Nat.le_trans hcmm.1 hcmm.2) (by decide)
  obtain ⟨htopm, hfm⟩ := hf.seg m (List.mem_of_getElem? hm)
  repeat' ((conv => whnf); first | refine walk (Tryz.ok ..) ?_ | (refine Cnd.mk (fun h => ?_) (fun h => ?_) <;> (first | exact cndT h (by (try dsimp only); omega) | exact cndF h (by (try dsimp only); omega) | (exfalso; simp at h; omega) | simp at h | skip)) | refine kp ?_ ?_ | refine tw ?_ ?_ | refine appnil rfl ?_ | refine rawnil rfl ?_ | exact trivial | refine side2 ?_ | refine sideL2 ?_ | refine Or.inr ?_ | refine sat_drawH (Tryz.ok ..) (by kernel_rfl) ?_ | refine xi _ (And.intro rfl rfl) ?_ | refine xi _ (fun _ => And.intro rfl rfl) ?_ | refine xi _ rfl ?_ | refine xi _ (fun _ => (ro_aggz rfl rfl hrA hcm rfl (kz k 3) hk1)) ?_ | refine xi _ (ro_aggz rfl rfl hrA hcm rfl (kz k 3) hk1) ?_)
  (conv => whnf)
  intro g5 hg5
  repeat' ((conv => whnf); first | refine walk (Tryz.ok ..) ?_ | (refine Cnd.mk (fun h => ?_) (fun h => ?_) <;> (first | exact cndT h (by (try dsimp only); omega) | exact cndF h (by (try dsimp only); omega) | (exfalso; simp at h; omega) | simp at h | skip)) | refine kp ?_ ?_ | refine tw ?_ ?_ | refine appnil rfl ?_ | refine rawnil rfl ?_ | exact trivial | refine side2 ?_ | refine sideL2 ?_ | refine Or.inr ?_ | refine sat_drawH (Tryz.ok ..) (by kernel_rfl) ?_ | refine xi _ (And.intro rfl rfl) ?_ | refine xi _ (fun _ => And.intro rfl rfl) ?_ | refine xi _ rfl ?_)
  refine sat_loop (Tryz.ok ..) (α := Nat × Option (Nat × Nat) × Nat × List Value × World × List Nat) (fun t => ([(3, .yes, .o 80 A3 k cap3), (5, .yes, .p 5 g5 0 0), (6, .yes, .o 81 t.2.1 t.1 t.2.2.1), (9, .yes, .v (.slice (adr (some p)) l.length cA)), (10, .yes, .v (.int .i64 l.length)), (11, .yes, .v (.int .i64 k)), (16, .yes, .v (.slice am m.segs.length cm)), (17, .yes, .v (.int .i64 m.segs.length)), (18, .yes, .v (.int .i64 t.1))], [(5, .blk g5 28 [.v (.string m.kind), .v (.string m.ref), .v (.slice am m.segs.length cm)]), (81, .row t.2.1 32 2 t.1 t.2.2.1 t.2.2.2.1), (80, .row A3 28 3 k cap3 xs3), (977, .own S (Frz wS S)), (979, .own t.2.2.2.2.2 (Frz t.2.2.2.2.1 t.2.2.2.2.2))]))
    (fun t => t.1 ≤ m.segs.length ∧ t.2.2.2.1.length = t.1 * 2 ∧ (∀ (j : Nat) (s : Sg), j < t.1 → m.segs[j]? = some s → SegR (RW t.2.2.2.2.1 t.2.2.2.2.2) wS (fun g => g ∈ S) (cut1 t.2.2.2.1 2 j) s) ∧ GotM wS t.2.2.2.2.1 S t.2.2.2.2.2 k xs3 l) (fun t => m.segs.length - t.1) (fun _ => rfl) ?_ ?_
  · refine ⟨(0, none, 0, [], wD, D), ⟨Nat.zero_le _, rfl, fun j s h => by omega, hg⟩, ?_, ?_, rfl⟩
    all_goals ((repeat' (first | exact trivial | exact rfl | refine And.intro ?_ ?_)) <;> (try (conv => whnf)) <;> (try simp only [SV.real, SV.r2, SV.r1]))
  clear hg
  rintro ⟨j, A6, cap6, xs6, wD1, D1⟩ ⟨hj, hl6, h6, hg⟩
  dsimp only at hj hl6 h6 hg ⊢
  by_cases hj1 : j < m.segs.length
  case neg =>
    obtain rfl : j = m.segs.length := by omega
    repeat' ((conv => whnf); first | refine walk (Tryz.ok ..) ?_ | (refine Cnd.mk (fun h => ?_) (fun h => ?_) <;> (first | exact cndT h (by (try dsimp only); omega) | exact cndF h (by (try dsimp only); omega) | (exfalso; simp at h; omega) | simp at h | skip)) | refine kp ?_ ?_ | refine tw ?_ ?_ | refine appnil rfl ?_ | refine rawnil rfl ?_ | exact trivial | refine side2 ?_ | refine sideL2 ?_ | refine Or.inr ?_ | refine sat_drawH (Tryz.ok ..) (by kernel_rfl) ?_ | refine xi _ (And.intro rfl rfl) ?_ | refine xi _ (fun _ => And.intro rfl rfl) ?_ | refine xi _ rfl ?_)
    (conv => whnf)
    intro g39 hg39
    repeat' ((conv => whnf); first | refine walk (Tryz.ok ..) ?_ | (refine Cnd.mk (fun h => ?_) (fun h => ?_) <;> (first | exact cndT h (by (try dsimp only); omega) | exact cndF h (by (try dsimp only); omega) | (exfalso; simp at h; omega) | simp at h | skip)) | refine kp ?_ ?_ | refine tw ?_ ?_ | refine appnil rfl ?_ | refine rawnil rfl ?_ | exact trivial | refine side2 ?_ | refine sideL2 ?_ | refine Or.inr ?_ | refine sat_drawH (Tryz.ok ..) (by kernel_rfl) ?_ | refine xi _ (And.intro rfl rfl) ?_ | refine xi _ (fun _ => And.intro rfl rfl) ?_ | refine xi _ rfl ?_)
    (conv => whnf)
    intro A40 cap40
    repeat' ((conv => whnf); first | refine walk (Tryz.ok ..) ?_ | (refine Cnd.mk (fun h => ?_) (fun h => ?_) <;> (first | exact cndT h (by (try dsimp only); omega) | exact cndF h (by (try dsimp only); omega) | (exfalso; simp at h; omega) | simp at h | skip)) | refine kp ?_ ?_ | refine tw ?_ ?_ | refine appnil rfl ?_ | refine rawnil rfl ?_ | exact trivial | refine side2 ?_ | refine sideL2 ?_ | refine Or.inr ?_ | refine sat_drawH (Tryz.ok ..) (by kernel_rfl) ?_ | refine xi _ (And.intro rfl rfl) ?_ | refine xi _ (fun _ => And.intro rfl rfl) ?_ | refine xi _ rfl ?_)
    refine sat_fuse 977 [977, 81] rfl fun w4 hw4 => ?_
    have hS' := segs_row (R := RW wD1 D1) (fun _ _ _ _ _ _ h => h) [977, 81] 81 hw4 rfl rfl rfl h6
    have hg2 := hg.mono (frz_of (d := 977) rfl hw4) (own_sub hw4 [977, 81] 977 (D := S) (w0 := wS) rfl rfl) (cells_fuse (d := 977) (id := 81) hw4 rfl rfl hg.cells) (fun _ _ => rfl) (fun _ h => h)
    refine sat_ops (Tryz.ok ..) ?_
    repeat' ((conv => whnf); first | refine walk (Tryz.ok ..) ?_ | (refine Cnd.mk (fun h => ?_) (fun h => ?_) <;> (first | exact cndT h (by (try dsimp only); omega) | exact cndF h (by (try dsimp only); omega) | (exfalso; simp at h; omega) | simp at h | skip)) | refine kp ?_ ?_ | refine tw ?_ ?_ | refine appnil rfl ?_ | refine rawnil rfl ?_ | exact trivial | refine side2 ?_ | refine sideL2 ?_ | refine Or.inr ?_ | refine sat_drawH (Tryz.ok ..) (by kernel_rfl) ?_ | refine xi _ (And.intro rfl rfl) ?_ | refine xi _ (fun _ => And.intro rfl rfl) ?_ | refine xi _ rfl ?_)
    refine ⟨(k + 1, A40, cap40, _, w4, _, wD1, D1), ⟨⟨hk1, hg2.snoc hm hS'⟩, by show l.length - (k + 1) < l.length - k; omega⟩, ?_, ?_, rfl⟩
    all_goals ((repeat' (first | exact trivial | exact rfl | refine And.intro ?_ ?_)) <;> (try (conv => whnf)) <;> (try simp only [SV.real, SV.r2, SV.r1]))
  obtain ⟨s, hs⟩ : ∃ s, m.segs[j]? = some s := ⟨_, List.getElem?_eq_getElem hj1⟩
  obtain ⟨vd, hcd, hvd⟩ := hxm j s hs
  obtain ⟨q, rfl, rfl⟩ := some_ofz aAm hrm (by omega)
  have hfs := hfm s (List.mem_of_getElem? hs)
  obtain ⟨ad, nd, cd2, rfl⟩ := nsa_sl _ _ _ _ hvd
  repeat' ((conv => whnf); first | refine walk (Tryz.ok ..) ?_ | (refine Cnd.mk (fun h => ?_) (fun h => ?_) <;> (first | exact cndT h (by (try dsimp only); omega) | exact cndF h (by (try dsimp only); omega) | (exfalso; simp at h; omega) | simp at h | skip)) | refine kp ?_ ?_ | refine tw ?_ ?_ | refine appnil rfl ?_ | refine rawnil rfl ?_ | exact trivial | refine side2 ?_ | refine sideL2 ?_ | refine Or.inr ?_ | refine sat_drawH (Tryz.ok ..) (by kernel_rfl) ?_ | refine xi _ (And.intro rfl rfl) ?_ | refine xi _ (fun _ => And.intro rfl rfl) ?_ | refine xi _ rfl ?_ | refine xi _ (fun _ => (ro_aggz rfl rfl hrm hcd rfl (kz j 2) hj1)) ?_ | refine xi _ (ro_aggz rfl rfl hrm hcd rfl (kz j 2) hj1) ?_)
  (conv => whnf)
  intro g8 hg8
  repeat' ((conv => whnf); first | refine walk (Tryz.ok ..) ?_ | (refine Cnd.mk (fun h => ?_) (fun h => ?_) <;> (first | exact cndT h (by (try dsimp only); omega) | exact cndF h (by (try dsimp only); omega) | (exfalso; simp at h; omega) | simp at h | skip)) | refine kp ?_ ?_ | refine tw ?_ ?_ | refine appnil rfl ?_ | refine rawnil rfl ?_ | exact trivial | refine side2 ?_ | refine sideL2 ?_ | refine Or.inr ?_ | refine xi _ (And.intro rfl rfl) ?_ | refine xi _ (fun _ => And.intro rfl rfl) ?_ | refine xi _ rfl ?_)
  refine sat_draw (Tryz.ok ..) [8] [(8, .blk g8 32 [.v (.string s.1), .v (.slice ad nd cd2)])] (by kernel_rfl) (fun w hw => hw.sub ?_) ?_
  · exact hsub_of rfl
  repeat' ((conv => whnf); first | refine walk (Tryz.ok ..) ?_ | (refine Cnd.mk (fun h => ?_) (fun h => ?_) <;> (first | exact cndT h (by (try dsimp only); omega) | exact cndF h (by (try dsimp only); omega) | (exfalso; simp at h; omega) | simp at h | skip)) | refine kp ?_ ?_ | refine tw ?_ ?_ | refine appnil rfl ?_ | refine rawnil rfl ?_ | exact trivial | refine side2 ?_ | refine sideL2 ?_ | refine Or.inr ?_ | refine xi _ (And.intro rfl rfl) ?_ | refine xi _ (fun _ => And.intro rfl rfl) ?_ | refine xi _ rfl ?_)
  (conv => whnf)
  refine called_nestK 900 (mk := id) (Q := fun w' B v => Nest NSA w' (fun g => B g ∨ g < w.heap.size) v [s.2]) (fun v => .v v) (fun _ => rfl) (fun w' hh => by exact lists_any nsa_stays nsa_sl s.2 _ w' _ (lent_low nsa_stays nsa_narrow rfl rfl hvd hh)) ?_
  intro w5 gs5 v5 h5 hw5
  repeat' ((conv => whnf); first | refine walk (Tryz.ok ..) ?_ | (refine Cnd.mk (fun h => ?_) (fun h => ?_) <;> (first | exact cndT h (by (try dsimp only); omega) | exact cndF h (by (try dsimp only); omega) | (exfalso; simp at h; omega) | simp at h | skip)) | refine kp ?_ ?_ | refine tw ?_ ?_ | refine appnil rfl ?_ | refine rawnil rfl ?_ | exact trivial | refine side2 ?_ | refine sideL2 ?_ | refine Or.inr ?_ | refine xi _ (And.intro rfl rfl) ?_ | refine xi _ (fun _ => And.intro rfl rfl) ?_ | refine xi _ rfl ?_)
  (conv => whnf)
  refine called_nest 901 (mk := id) (Q := fun w B v => NL w B v [s.2]) (fun v => .v v) (fun _ => rfl) (fun w' hh => by exact own_any [s.2] v5 w' (nest_to (mix_nest (nest_stays nsa_stays) rfl h5 hw5 (d := 900) rfl hh _ (fun _ _ => trivial))) (fewL_one hfs)) ?_
  intro w6 gs6 v6 h6'
  obtain ⟨A2, c2, xs2, rfl, hc2, hr2, hB2, hx2⟩ := h6'
  obtain ⟨x2, hx20, hown⟩ := nest_at hx2 hr2.1 (i := 0) (a := s.2) rfl
  obtain ⟨p2, rfl, _⟩ := hr2.some_ (by simp)
  obtain ⟨ax, nx, cx', rfl⟩ := ns_sl _ _ _ _ hown
  rw [show [s.2].length = 1 from rfl] at hc2 hr2 hB2 ⊢
  repeat' ((conv => whnf); first | refine walk (Tryz.ok ..) ?_ | (refine Cnd.mk (fun h => ?_) (fun h => ?_) <;> (first | exact cndT h (by (try dsimp only); omega) | exact cndF h (by (try dsimp only); omega) | (exfalso; simp at h; omega) | simp at h | skip)) | refine kp ?_ ?_ | refine tw ?_ ?_ | refine appnil rfl ?_ | refine rawnil rfl ?_ | exact trivial | refine side2 ?_ | refine sideL2 ?_ | refine Or.inr ?_ | refine xi _ (And.intro rfl rfl) ?_ | refine xi _ (fun _ => And.intro rfl rfl) ?_ | refine xi _ rfl ?_ | refine xi _ (fun _ => (frz_at (d := 901) hr2 hB2 hx20 rfl rfl)) ?_ | refine xi _ (frz_at (d := 901) hr2 hB2 hx20 rfl rfl) ?_)
  (conv => whnf)
  intro g32 hg32
  repeat' ((conv => whnf); first | refine walk (Tryz.ok ..) ?_ | (refine Cnd.mk (fun h => ?_) (fun h => ?_) <;> (first | exact cndT h (by (try dsimp only); omega) | exact cndF h (by (try dsimp only); omega) | (exfalso; simp at h; omega) | simp at h | skip)) | refine kp ?_ ?_ | refine tw ?_ ?_ | refine appnil rfl ?_ | refine rawnil rfl ?_ | exact trivial | refine side2 ?_ | refine sideL2 ?_ | refine Or.inr ?_ | refine xi _ (And.intro rfl rfl) ?_ | refine xi _ (fun _ => And.intro rfl rfl) ?_ | refine xi _ rfl ?_)
  (conv => whnf)
  intro A33 cap33
  repeat' ((conv => whnf); first | refine walk (Tryz.ok ..) ?_ | (refine Cnd.mk (fun h => ?_) (fun h => ?_) <;> (first | exact cndT h (by (try dsimp only); omega) | exact cndF h (by (try dsimp only); omega) | (exfalso; simp at h; omega) | simp at h | skip)) | refine kp ?_ ?_ | refine tw ?_ ?_ | refine appnil rfl ?_ | refine rawnil rfl ?_ | exact trivial | refine side2 ?_ | refine sideL2 ?_ | refine Or.inr ?_ | refine sat_drawH (Tryz.ok ..) (by kernel_rfl) ?_ | refine xi _ (And.intro rfl rfl) ?_ | refine xi _ (fun _ => And.intro rfl rfl) ?_ | refine xi _ rfl ?_)
  refine sat_fuse 979 [979, 901] rfl fun w4 hw4 => ?_
  have hDs := own_sub hw4 [979, 901] 979 (D := D1) (w0 := wD1) rfl rfl
  have hDk := frz_of (d := 979) (gs := D1) rfl hw4
  have hg2 := hg.mono (fun _ _ => rfl) (fun _ h => h) hg.cells hDk hDs
  have hn2 := frz_nest' ns_stays hown (d := 901) rfl hw4 (own_sub hw4 [979, 901] 901 (D := gs6) (w0 := w6) rfl rfl)
  refine sat_ops (Tryz.ok ..) ?_
  repeat' ((conv => whnf); first | refine walk (Tryz.ok ..) ?_ | (refine Cnd.mk (fun h => ?_) (fun h => ?_) <;> (first | exact cndT h (by (try dsimp only); omega) | exact cndF h (by (try dsimp only); omega) | (exfalso; simp at h; omega) | simp at h | skip)) | refine kp ?_ ?_ | refine tw ?_ ?_ | refine appnil rfl ?_ | refine rawnil rfl ?_ | exact trivial | refine side2 ?_ | refine sideL2 ?_ | refine Or.inr ?_ | refine sat_drawH (Tryz.ok ..) (by kernel_rfl) ?_ | refine xi _ (And.intro rfl rfl) ?_ | refine xi _ (fun _ => And.intro rfl rfl) ?_ | refine xi _ rfl ?_)
  refine ⟨(j + 1, A33, cap33, _, w4, _), ⟨⟨hj1, by rw [List.length_append, hl6]; simp; omega, segs_snoc hl6 (fun j s hj hs => segr_mono hDk hDs (h6 j s hj hs)) hs hn2, hg2⟩, by show m.segs.length - (j + 1) < m.segs.length - j; omega⟩, ?_, ?_, rfl⟩
  all_goals ((repeat' (first | exact trivial | exact rfl | refine And.intro ?_ ?_)) <;> (try (conv => whnf)) <;> (try simp only [SV.real, SV.r2, SV.r1]))
end
end Go.Proofs.YtdohcglpcgahaaaGreatDoor
