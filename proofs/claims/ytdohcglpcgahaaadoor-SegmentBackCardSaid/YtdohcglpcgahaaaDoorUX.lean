/-
  The walk of the comparison of messages. Messages in memory of one's own, whose data can be changed: rows of segments apart from their data. The walk of the law's copy of messages. Data written over in messages of one's own. The walk of the law's trimmed messages. The walk of the law's question whether messages are right.
-/
import Derived.Test.YtdohcglpcgahaaaDoorTRX
import Derived.Test.YtdohcglpcgahaaaDoorSG1
import Derived.Test.YtdohcglpcgahaaaDoorSMX
import Derived.Test.YtdohcglpcgahaaaDoorTP
import Derived.Test.YtdohcglpcgahaaaDoorPX
import Derived.Test.YtdohcglpcgahaaaDoorNX
import Derived.Test.YtdohcglpcgahaaaDoorSWX
set_option linter.unusedSimpArgs false
set_option linter.unusedVariables false
namespace Go.Proofs.YtdohcglpcgahaaaDoor
section
open Go Sat Go.RowKit Go.PlainAid
/-- one cell of an element of what is lent -/
theorem ro_cellz {cx : Cx} {A : Option (Nat × Nat)} {n z : Nat} {xs : List Value} {k i j : Nat} {cs : List Value} {u : Value} (hM : cx.M = []) (hn : cx.n0 = cx.W.heap.size) (h : Ro cx.W A n z xs) (hc : cut1 xs z i = cs) (hl : cs.length = z) (hu : cs[j]? = some u) (hk : k = i * z) (hi : i < n) : ∀ {H : Heap} (w : World), Holds cx H w → w.cell? ((adAt (adr A) k).add j) = some u := fun w hw => (ro_aggz hM hn h hc hl hk hi).2 w hw j u hu
theorem kz (i z : Nat) : mulS (i : Int).toNat z = i * z := by rw [mulS_eq, Int.toNat_natCast]
theorem msg_ne1 {a b : Msg} (h : a.kind ≠ b.kind ∨ a.ref ≠ b.ref ∨ a.segs.length ≠ b.segs.length) : a ≠ b := fun e => by
  subst e
  rcases h with h | h | h <;> exact h rfl
set_option maxRecDepth 100000 in
set_option maxHeartbeats 16000000 in
theorem sameG_any (a b : List Msg) (va vb : Value) (w : World) (hA : NMsgs NSA w (fun _ => True) va a) (hB : NMsgs NSA w (fun _ => True) vb b) :
    Calls Tryd.prog 20 #[va, vb] w fun e w' => e = .returned (.bool (decide (a = b))) ∧ Below w.heap.size w w' := by
  obtain ⟨A', A, cA, xs, rfl, aA, hcA, hrA, -, hxA⟩ := hA
  obtain ⟨B', B, cB, ys, rfl, aB, hcB, hrB, -, hxB⟩ := hB
  refine calls_sat (cx := Tryd.cx 110 [11] [] [] w) (Tryd.ok ..) Tryd.func20 rfl [.v (.slice A' a.length cA), .v (.slice B' b.length cB)] rfl (by show 2 ≤ 110; omega) [] (holds_nil (Nat.le_refl _)) ?_
  by_cases hl : a.length = b.length
  case neg =>
    rw [decide_eq_false (fun h => hl (by rw [h]))]
    repeat' ((conv => whnf); first | refine walk (Tryd.ok ..) ?_ | (refine Cnd.mk (fun h => ?_) (fun h => ?_) <;> (first | exact cndT h (by (try dsimp only); omega) | exact cndF h (by (try dsimp only); omega) | (exfalso; simp at h; omega) | simp at h | skip)) | refine kp ?_ ?_ | refine tw ?_ ?_ | refine appnil rfl ?_ | refine rawnil rfl ?_ | exact trivial | refine side2 ?_ | refine sideL2 ?_ | refine Or.inr ?_ | refine sat_drawH (Tryd.ok ..) (by kernel_rfl) ?_ | refine xi _ (And.intro rfl rfl) ?_ | refine xi _ (fun _ => And.intro rfl rfl) ?_ | refine xi _ rfl ?_)
    all_goals first | exact done_pure rfl rfl rfl | omega
  rw [← hl] at aB hcB hrB ⊢
  have hmax : a.length ≤ 9223372036854775807 := Nat.le_trans (Nat.le_trans hcA.1 hcA.2) (by decide)
  repeat' ((conv => whnf); first | refine walk (Tryd.ok ..) ?_ | (refine Cnd.mk (fun h => ?_) (fun h => ?_) <;> (first | exact cndT h (by (try dsimp only); omega) | exact cndF h (by (try dsimp only); omega) | (exfalso; simp at h; omega) | simp at h | skip)) | refine kp ?_ ?_ | refine tw ?_ ?_ | refine appnil rfl ?_ | refine rawnil rfl ?_ | exact trivial | refine side2 ?_ | refine sideL2 ?_ | refine Or.inr ?_ | refine sat_drawH (Tryd.ok ..) (by kernel_rfl) ?_ | refine xi _ (And.intro rfl rfl) ?_ | refine xi _ (fun _ => And.intro rfl rfl) ?_ | refine xi _ rfl ?_)
  refine sat_loop (Tryd.ok ..) (α := Nat) (fun i => ([(0, .yes, .v (.slice A' a.length cA)), (1, .yes, .v (.slice B' a.length cB)), (5, .yes, .v (.int .i64 i))], []))
    (fun k => k ≤ a.length ∧ a.take k = b.take k) (fun k => a.length - k) (fun _ => rfl) ?_ ?_
  · refine ⟨0, ⟨Nat.zero_le _, by simp⟩, ?_, ?_, rfl⟩
    all_goals ((repeat' (first | exact trivial | exact rfl | refine And.intro ?_ ?_)) <;> (try (conv => whnf)) <;> (try simp only [SV.real, SV.r2, SV.r1]))
  rintro i ⟨hi, he⟩
  by_cases hi1 : i < a.length
  case neg =>
    obtain rfl : i = a.length := by omega
    rw [List.take_length, hl, List.take_length] at he
    rw [decide_eq_true he]
    repeat' ((conv => whnf); first | refine walk (Tryd.ok ..) ?_ | (refine Cnd.mk (fun h => ?_) (fun h => ?_) <;> (first | exact cndT h (by (try dsimp only); omega) | exact cndF h (by (try dsimp only); omega) | (exfalso; simp at h; omega) | simp at h | skip)) | refine kp ?_ ?_ | refine tw ?_ ?_ | refine appnil rfl ?_ | refine rawnil rfl ?_ | exact trivial | refine side2 ?_ | refine sideL2 ?_ | refine Or.inr ?_ | refine sat_drawH (Tryd.ok ..) (by kernel_rfl) ?_ | refine xi _ (And.intro rfl rfl) ?_ | refine xi _ (fun _ => And.intro rfl rfl) ?_ | refine xi _ rfl ?_)
    exact done_pure rfl rfl rfl
  obtain ⟨m, hm⟩ : ∃ s, a[i]? = some s := ⟨_, List.getElem?_eq_getElem hi1⟩
  obtain ⟨n, hn⟩ : ∃ s, b[i]? = some s := ⟨_, List.getElem?_eq_getElem (hl ▸ hi1)⟩
  obtain ⟨vm, hcm, hvm⟩ := hxA i m hm
  obtain ⟨vn, hcn, hvn⟩ := hxB i n hn
  obtain ⟨p, rfl, rfl⟩ := some_ofz aA hrA (by omega)
  obtain ⟨q, rfl, rfl⟩ := some_ofz aB hrB (by omega)
  obtain ⟨am, Am, cm, xm, rfl, aAm, hcmm, hrm, -, hxm⟩ := hvm
  obtain ⟨an, An, cn, xn, rfl, aAn, hcnn, hrn, -, hxn⟩ := hvn
  repeat' ((conv => whnf); first | refine walk (Tryd.ok ..) ?_ | (refine Cnd.mk (fun h => ?_) (fun h => ?_) <;> (first | exact cndT h (by (try dsimp only); omega) | exact cndF h (by (try dsimp only); omega) | (exfalso; simp at h; omega) | simp at h | skip)) | refine kp ?_ ?_ | refine tw ?_ ?_ | refine appnil rfl ?_ | refine rawnil rfl ?_ | exact trivial | refine side2 ?_ | refine sideL2 ?_ | refine Or.inr ?_ | refine sat_drawH (Tryd.ok ..) (by kernel_rfl) ?_ | refine xi _ (And.intro rfl rfl) ?_ | refine xi _ (fun _ => And.intro rfl rfl) ?_ | refine xi _ rfl ?_ | refine xi _ (fun _ => (ro_cellz (j := 0) rfl rfl hrA hcm rfl rfl (kz i 3) hi1)) ?_ | refine xi _ (ro_cellz (j := 0) rfl rfl hrA hcm rfl rfl (kz i 3) hi1) ?_ | refine xi _ (fun _ => (ro_cellz (j := 0) rfl rfl hrB hcn rfl rfl (kz i 3) hi1)) ?_ | refine xi _ (ro_cellz (j := 0) rfl rfl hrB hcn rfl rfl (kz i 3) hi1) ?_ | refine xi _ (fun _ => (ro_cellz (j := 1) rfl rfl hrA hcm rfl rfl (kz i 3) hi1)) ?_ | refine xi _ (ro_cellz (j := 1) rfl rfl hrA hcm rfl rfl (kz i 3) hi1) ?_ | refine xi _ (fun _ => (ro_cellz (j := 1) rfl rfl hrB hcn rfl rfl (kz i 3) hi1)) ?_ | refine xi _ (ro_cellz (j := 1) rfl rfl hrB hcn rfl rfl (kz i 3) hi1) ?_ | refine xi _ (fun _ => (ro_cellz (j := 2) rfl rfl hrA hcm rfl rfl (kz i 3) hi1)) ?_ | refine xi _ (ro_cellz (j := 2) rfl rfl hrA hcm rfl rfl (kz i 3) hi1) ?_ | refine xi _ (fun _ => (ro_cellz (j := 2) rfl rfl hrB hcn rfl rfl (kz i 3) hi1)) ?_ | refine xi _ (ro_cellz (j := 2) rfl rfl hrB hcn rfl rfl (kz i 3) hi1) ?_)
  · rw [decide_eq_false (eq_no hm hn (msg_ne1 (by
      rcases h with (h | h) | h
      · exact .inl h
      · exact .inr (.inl h)
      · exact .inr (.inr (by omega)))))]
    exact done_pure rfl rfl rfl
  obtain ⟨⟨hk1, hk2⟩, hk3⟩ := h
  have hsl : m.segs.length = n.segs.length := by omega
  rw [← hsl] at aAn hcnn hrn hcn
  have hmaxm : m.segs.length ≤ 9223372036854775807 := Nat.le_trans (Nat.le_trans hcmm.1 hcmm.2) (by decide)
  refine sat_loop (Tryd.ok ..) (α := Nat) (fun k => ([(0, .yes, .v (.slice (adr (some p)) a.length cA)), (1, .yes, .v (.slice (adr (some q)) a.length cB)), (5, .yes, .v (.int .i64 i)), (6, .yes, .v (.int .i64 k))], []))
    (fun k => k ≤ m.segs.length ∧ m.segs.take k = n.segs.take k) (fun k => m.segs.length - k) (fun _ => rfl) ?_ ?_
  · refine ⟨0, ⟨Nat.zero_le _, by simp⟩, ?_, ?_, rfl⟩
    all_goals ((repeat' (first | exact trivial | exact rfl | refine And.intro ?_ ?_)) <;> (try (conv => whnf)) <;> (try simp only [SV.real, SV.r2, SV.r1]))
  rintro k ⟨hk, hek⟩
  by_cases hks : k < m.segs.length
  case neg =>
    obtain rfl : k = m.segs.length := by omega
    rw [List.take_length, hsl, List.take_length] at hek
    have hmn : m = n := by
      obtain ⟨m1, m2, m3⟩ := m
      obtain ⟨n1, n2, n3⟩ := n
      dsimp only at hk1 hk2 hek
      rw [hk1, hk2, hek]
    repeat' ((conv => whnf); first | refine walk (Tryd.ok ..) ?_ | (refine Cnd.mk (fun h => ?_) (fun h => ?_) <;> (first | exact cndT h (by (try dsimp only); omega) | exact cndF h (by (try dsimp only); omega) | (exfalso; simp at h; omega) | simp at h | skip)) | refine kp ?_ ?_ | refine tw ?_ ?_ | refine appnil rfl ?_ | refine rawnil rfl ?_ | exact trivial | refine side2 ?_ | refine sideL2 ?_ | refine Or.inr ?_ | refine sat_drawH (Tryd.ok ..) (by kernel_rfl) ?_ | refine xi _ (And.intro rfl rfl) ?_ | refine xi _ (fun _ => And.intro rfl rfl) ?_ | refine xi _ rfl ?_ | refine xi _ (fun _ => (ro_cellz (j := 2) rfl rfl hrA hcm rfl rfl (kz i 3) hi1)) ?_ | refine xi _ (ro_cellz (j := 2) rfl rfl hrA hcm rfl rfl (kz i 3) hi1) ?_ | refine xi _ (fun _ => (ro_cellz (j := 2) rfl rfl hrB hcn rfl rfl (kz i 3) hi1)) ?_ | refine xi _ (ro_cellz (j := 2) rfl rfl hrB hcn rfl rfl (kz i 3) hi1) ?_)
    refine ⟨i + 1, ⟨⟨hi1, eq_step he hm hn hmn⟩, by omega⟩, ?_, ?_, rfl⟩
    all_goals ((repeat' (first | exact trivial | exact rfl | refine And.intro ?_ ?_)) <;> (try (conv => whnf)) <;> (try simp only [SV.real, SV.r2, SV.r1]))
  obtain ⟨s, hs⟩ : ∃ s, m.segs[k]? = some s := ⟨_, List.getElem?_eq_getElem hks⟩
  obtain ⟨u, hu⟩ : ∃ s, n.segs[k]? = some s := ⟨_, List.getElem?_eq_getElem (hsl ▸ hks)⟩
  obtain ⟨vs, hcs, hvs⟩ := hxm k s hs
  obtain ⟨vu, hcu, hvu⟩ := hxn k u hu
  obtain ⟨ps, rfl, rfl⟩ := some_ofz aAm hrm (by omega)
  obtain ⟨pn, rfl, rfl⟩ := some_ofz aAn hrn (by omega)
  obtain ⟨as', ns', cs', rfl⟩ := nsa_sl _ _ _ _ hvs
  obtain ⟨au, nu, cu, rfl⟩ := nsa_sl _ _ _ _ hvu
  repeat' ((conv => whnf); first | refine walk (Tryd.ok ..) ?_ | (refine Cnd.mk (fun h => ?_) (fun h => ?_) <;> (first | exact cndT h (by (try dsimp only); omega) | exact cndF h (by (try dsimp only); omega) | (exfalso; simp at h; omega) | simp at h | skip)) | refine kp ?_ ?_ | refine tw ?_ ?_ | refine appnil rfl ?_ | refine rawnil rfl ?_ | exact trivial | refine side2 ?_ | refine sideL2 ?_ | refine Or.inr ?_ | refine xi _ (And.intro rfl rfl) ?_ | refine xi _ (fun _ => And.intro rfl rfl) ?_ | refine xi _ rfl ?_ | refine xi _ (fun _ => (ro_cellz (j := 2) rfl rfl hrA hcm rfl rfl (kz i 3) hi1)) ?_ | refine xi _ (ro_cellz (j := 2) rfl rfl hrA hcm rfl rfl (kz i 3) hi1) ?_ | refine xi _ (fun _ => (ro_cellz (j := 2) rfl rfl hrB hcn rfl rfl (kz i 3) hi1)) ?_ | refine xi _ (ro_cellz (j := 2) rfl rfl hrB hcn rfl rfl (kz i 3) hi1) ?_)
  refine sat_draw (Tryd.ok ..) [] [] (by kernel_rfl) (fun w hw => hw.sub trivial) ?_
  by_cases hst : s.1 = u.1
  · have hbt : (s.1 == u.1) = true := (MapKept.bytes_beq _ _).2 hst
    have hG' : (!!(s.1 == u.1)) = true := by rw [hbt]; rfl
    repeat' ((conv => whnf); first | ((with_reducible refine Or.inr (Cnd.mk (fun _ => ?_) (fun h => absurd h (by rw [hbt]; simp))))) | refine walk (Tryd.ok ..) ?_ | (refine Cnd.mk (fun h => ?_) (fun h => ?_) <;> (first | exact cndT h (by (try dsimp only); omega) | exact cndF h (by (try dsimp only); omega) | (exfalso; simp at h; omega) | simp at h | skip)) | refine kp ?_ ?_ | refine tw ?_ ?_ | refine appnil rfl ?_ | refine rawnil rfl ?_ | exact trivial | refine side2 ?_ | refine sideL2 ?_ | refine Or.inr ?_ | refine xi _ (And.intro rfl rfl) ?_ | refine xi _ (fun _ => And.intro rfl rfl) ?_ | refine xi _ rfl ?_ | refine xi _ (fun _ => (ro_cellz (j := 2) rfl rfl hrA hcm rfl rfl (kz i 3) hi1)) ?_ | refine xi _ (ro_cellz (j := 2) rfl rfl hrA hcm rfl rfl (kz i 3) hi1) ?_ | refine xi _ (fun _ => (ro_cellz (j := 2) rfl rfl hrB hcn rfl rfl (kz i 3) hi1)) ?_ | refine xi _ (ro_cellz (j := 2) rfl rfl hrB hcn rfl rfl (kz i 3) hi1) ?_ | refine xi _ (fun _ => (ro_cellz (j := 0) rfl rfl hrm hcs rfl rfl (kz k 2) hks)) ?_ | refine xi _ (ro_cellz (j := 0) rfl rfl hrm hcs rfl rfl (kz k 2) hks) ?_ | refine xi _ (fun _ => (ro_cellz (j := 0) rfl rfl hrn hcu rfl rfl (kz k 2) hks)) ?_ | refine xi _ (ro_cellz (j := 0) rfl rfl hrn hcu rfl rfl (kz k 2) hks) ?_ | refine xi _ (fun _ => (ro_cellz (j := 1) rfl rfl hrm hcs rfl rfl (kz k 2) hks)) ?_ | refine xi _ (ro_cellz (j := 1) rfl rfl hrm hcs rfl rfl (kz k 2) hks) ?_ | refine xi _ (fun _ => (ro_cellz (j := 1) rfl rfl hrn hcu rfl rfl (kz k 2) hks)) ?_ | refine xi _ (ro_cellz (j := 1) rfl rfl hrn hcu rfl rfl (kz k 2) hks) ?_)
    · (conv => whnf)
      refine called_nestK 905 (mk := id) (Q := fun w' B v => Nest NSA w' (fun g => B g ∨ g < w.heap.size) v [s.2]) (fun v => .v v) (fun _ => rfl) (fun w' hh => by exact lists_any nsa_stays nsa_sl s.2 _ w' _ (lent_low nsa_stays nsa_narrow rfl rfl hvs hh)) ?_
      intro w5 gs5 v5 h5 hw5
      repeat' ((conv => whnf); first | ((with_reducible refine Or.inr (Cnd.mk (fun _ => ?_) (fun h => absurd h (by rw [hbt]; simp))))) | refine walk (Tryd.ok ..) ?_ | (refine Cnd.mk (fun h => ?_) (fun h => ?_) <;> (first | exact cndT h (by (try dsimp only); omega) | exact cndF h (by (try dsimp only); omega) | (exfalso; simp at h; omega) | simp at h | skip)) | refine kp ?_ ?_ | refine tw ?_ ?_ | refine appnil rfl ?_ | refine rawnil rfl ?_ | exact trivial | refine side2 ?_ | refine sideL2 ?_ | refine Or.inr ?_ | refine xi _ (And.intro rfl rfl) ?_ | refine xi _ (fun _ => And.intro rfl rfl) ?_ | refine xi _ rfl ?_)
      (conv => whnf)
      refine called_nestK 906 (mk := id) (Q := fun w' B v => Nest NSA w' (fun g => B g ∨ g < w.heap.size) v [u.2]) (fun v => .v v) (fun _ => rfl) (fun w' hh => by exact lists_any nsa_stays nsa_sl u.2 _ w' _ (lent_low nsa_stays nsa_narrow rfl rfl hvu hh)) ?_
      intro w6 gs6 v6 h6 hw6
      repeat' ((conv => whnf); first | ((with_reducible refine Or.inr (Cnd.mk (fun _ => ?_) (fun h => absurd h (by rw [hbt]; simp))))) | refine walk (Tryd.ok ..) ?_ | (refine Cnd.mk (fun h => ?_) (fun h => ?_) <;> (first | exact cndT h (by (try dsimp only); omega) | exact cndF h (by (try dsimp only); omega) | (exfalso; simp at h; omega) | simp at h | skip)) | refine kp ?_ ?_ | refine tw ?_ ?_ | refine appnil rfl ?_ | refine rawnil rfl ?_ | exact trivial | refine side2 ?_ | refine sideL2 ?_ | refine Or.inr ?_ | refine xi _ (And.intro rfl rfl) ?_ | refine xi _ (fun _ => And.intro rfl rfl) ?_ | refine xi _ rfl ?_)
      (conv => whnf)
      refine called_at (.v (.bool (decide ([s.2] = [u.2])))) rfl (fun w' hh => by exact same_any [s.2] [u.2] v5 v6 w' (nest_to (mix_nest (nest_stays nsa_stays) rfl h5 hw5 (d := 905) rfl hh _ (fun _ _ => trivial))) (nest_to (mix_nest (nest_stays nsa_stays) rfl h6 hw6 (d := 906) rfl hh _ (fun _ _ => trivial)))) ?_
      by_cases hdd : s.2 = u.2
      · rw [show decide ([s.2] = [u.2]) = true from decide_eq_true (by rw [hdd])]
        repeat' ((conv => whnf); first | refine walk (Tryd.ok ..) ?_ | (refine Cnd.mk (fun h => ?_) (fun h => ?_) <;> (first | exact cndT h (by (try dsimp only); omega) | exact cndF h (by (try dsimp only); omega) | (exfalso; simp at h; omega) | simp at h | skip)) | refine kp ?_ ?_ | refine tw ?_ ?_ | refine appnil rfl ?_ | refine rawnil rfl ?_ | exact trivial | refine side2 ?_ | refine sideL2 ?_ | refine Or.inr ?_ | refine sat_drawH (Tryd.ok ..) (by kernel_rfl) ?_ | refine xi _ (And.intro rfl rfl) ?_ | refine xi _ (fun _ => And.intro rfl rfl) ?_ | refine xi _ rfl ?_)
        · exact absurd hst (by assumption)
        refine ⟨k + 1, ⟨⟨hks, eq_step hek hs hu (Prod.ext hst hdd)⟩, by omega⟩, ?_, ?_, rfl⟩
        all_goals ((repeat' (first | exact trivial | exact rfl | refine And.intro ?_ ?_)) <;> (try (conv => whnf)) <;> (try simp only [SV.real, SV.r2, SV.r1]))
      · rw [show decide ([s.2] = [u.2]) = false from decide_eq_false (fun e => hdd (List.cons.inj e).1)]
        rw [decide_eq_false (eq_no hm hn (fun e => eq_no hs hu (fun e2 => hdd (by rw [e2])) (congrArg Msg.segs e)))]
        repeat' ((conv => whnf); first | refine walk (Tryd.ok ..) ?_ | (refine Cnd.mk (fun h => ?_) (fun h => ?_) <;> (first | exact cndT h (by (try dsimp only); omega) | exact cndF h (by (try dsimp only); omega) | (exfalso; simp at h; omega) | simp at h | skip)) | refine kp ?_ ?_ | refine tw ?_ ?_ | refine appnil rfl ?_ | refine rawnil rfl ?_ | exact trivial | refine side2 ?_ | refine sideL2 ?_ | refine Or.inr ?_ | refine sat_drawH (Tryd.ok ..) (by kernel_rfl) ?_ | refine xi _ (And.intro rfl rfl) ?_ | refine xi _ (fun _ => And.intro rfl rfl) ?_ | refine xi _ rfl ?_)
        all_goals exact done_pure rfl rfl rfl
  · have hbt : (s.1 == u.1) = false := by
      cases h0 : (s.1 == u.1) with
      | false => rfl
      | true => exact absurd ((MapKept.bytes_beq _ _).1 h0) hst
    rw [decide_eq_false (eq_no hm hn (fun e => eq_no hs hu (fun e2 => hst (by rw [e2])) (congrArg Msg.segs e)))]
    repeat' ((conv => whnf); first | refine walk (Tryd.ok ..) ?_ | (refine Cnd.mk (fun h => ?_) (fun h => ?_) <;> (first | exact cndT h (by (try dsimp only); omega) | exact cndF h (by (try dsimp only); omega) | (exfalso; simp at h; omega) | simp at h | skip)) | refine kp ?_ ?_ | refine tw ?_ ?_ | refine appnil rfl ?_ | refine rawnil rfl ?_ | exact trivial | refine side2 ?_ | refine sideL2 ?_ | refine Or.inr ?_ | refine xi _ (And.intro rfl rfl) ?_ | refine xi _ (fun _ => And.intro rfl rfl) ?_ | refine xi _ rfl ?_ | refine xi _ (fun _ => (ro_cellz (j := 2) rfl rfl hrA hcm rfl rfl (kz i 3) hi1)) ?_ | refine xi _ (ro_cellz (j := 2) rfl rfl hrA hcm rfl rfl (kz i 3) hi1) ?_ | refine xi _ (fun _ => (ro_cellz (j := 2) rfl rfl hrB hcn rfl rfl (kz i 3) hi1)) ?_ | refine xi _ (ro_cellz (j := 2) rfl rfl hrB hcn rfl rfl (kz i 3) hi1) ?_ | refine xi _ (fun _ => (ro_cellz (j := 0) rfl rfl hrm hcs rfl rfl (kz k 2) hks)) ?_ | refine xi _ (ro_cellz (j := 0) rfl rfl hrm hcs rfl rfl (kz k 2) hks) ?_ | refine xi _ (fun _ => (ro_cellz (j := 0) rfl rfl hrn hcu rfl rfl (kz k 2) hks)) ?_ | refine xi _ (ro_cellz (j := 0) rfl rfl hrn hcu rfl rfl (kz k 2) hks) ?_ | refine xi _ (fun _ => (ro_cellz (j := 1) rfl rfl hrm hcs rfl rfl (kz k 2) hks)) ?_ | refine xi _ (ro_cellz (j := 1) rfl rfl hrm hcs rfl rfl (kz k 2) hks) ?_ | refine xi _ (fun _ => (ro_cellz (j := 1) rfl rfl hrn hcu rfl rfl (kz k 2) hks)) ?_ | refine xi _ (ro_cellz (j := 1) rfl rfl hrn hcu rfl rfl (kz k 2) hks) ?_)
    (conv => whnf)
    refine calledQ_at (.v (.slice none 0 0)) rfl (fun h _ _ => absurd h (by simp [Grd.holds, hbt])) ?_
    repeat' ((conv => whnf); first | refine walk (Tryd.ok ..) ?_ | (refine Cnd.mk (fun h => ?_) (fun h => ?_) <;> (first | exact cndT h (by (try dsimp only); omega) | exact cndF h (by (try dsimp only); omega) | (exfalso; simp at h; omega) | simp at h | skip)) | refine kp ?_ ?_ | refine tw ?_ ?_ | refine appnil rfl ?_ | refine rawnil rfl ?_ | exact trivial | refine side2 ?_ | refine sideL2 ?_ | refine Or.inr ?_ | refine xi _ (And.intro rfl rfl) ?_ | refine xi _ (fun _ => And.intro rfl rfl) ?_ | refine xi _ rfl ?_)
    (conv => whnf)
    refine calledQ_at (.v (.slice none 0 0)) rfl (fun h _ _ => absurd h (by simp [Grd.holds, hbt])) ?_
    repeat' ((conv => whnf); first | refine walk (Tryd.ok ..) ?_ | (refine Cnd.mk (fun h => ?_) (fun h => ?_) <;> (first | exact cndT h (by (try dsimp only); omega) | exact cndF h (by (try dsimp only); omega) | (exfalso; simp at h; omega) | simp at h | skip)) | refine kp ?_ ?_ | refine tw ?_ ?_ | refine appnil rfl ?_ | refine rawnil rfl ?_ | exact trivial | refine side2 ?_ | refine sideL2 ?_ | refine Or.inr ?_ | refine xi _ (And.intro rfl rfl) ?_ | refine xi _ (fun _ => And.intro rfl rfl) ?_ | refine xi _ rfl ?_)
    (conv => whnf)
    refine calledQ_at (.v (.bool false)) rfl (fun h _ _ => absurd h (by simp [Grd.holds, hbt])) ?_
    repeat' ((conv => whnf); first | refine walk (Tryd.ok ..) ?_ | (refine Cnd.mk (fun h => ?_) (fun h => ?_) <;> (first | exact cndT h (by (try dsimp only); omega) | exact cndF h (by (try dsimp only); omega) | (exfalso; simp at h; omega) | simp at h | skip)) | refine kp ?_ ?_ | refine tw ?_ ?_ | refine appnil rfl ?_ | refine rawnil rfl ?_ | exact trivial | refine side2 ?_ | refine sideL2 ?_ | refine Or.inr ?_ | refine sat_drawH (Tryd.ok ..) (by kernel_rfl) ?_ | refine xi _ (And.intro rfl rfl) ?_ | refine xi _ (fun _ => And.intro rfl rfl) ?_ | refine xi _ rfl ?_)
    all_goals first | exact done_pure rfl rfl rfl | omega
end
section
open Go Sat Go.RowKit Go.PlainAid
/-- data that lie in blocks of D in the world wD -/
def RW (wD : World) (D : List Nat) : Lies Dat := fun _ _ v d => NS wD (fun g => g ∈ D) v d
theorem rw_stays (wD : World) (D : List Nat) : Stays (RW wD D) := fun _ _ _ _ _ _ h _ _ => h
theorem RW.mono {wD wD' : World} {D D' : List Nat} (hk : ∀ g, g ∈ D → wD'.heap[g]? = wD.heap[g]?) (hs : ∀ g, g ∈ D → g ∈ D') {w : World} {B : Nat → Prop} {v : Value} {d : Dat} (h : RW wD D w B v d) : RW wD' D' w B v d := ns_stays _ _ _ _ _ _ h (fun g hg _ => hk g hg) hs
theorem segr_mono {wD wD' : World} {D D' : List Nat} (hk : ∀ g, g ∈ D → wD'.heap[g]? = wD.heap[g]?) (hs : ∀ g, g ∈ D → g ∈ D') {w : World} {B : Nat → Prop} {cs : List Value} {s : Sg} (h : SegR (RW wD D) w B cs s) : SegR (RW wD' D') w B cs s := segr_imp (fun _ _ _ _ h => RW.mono hk hs h) h
theorem msgr_mono {wD wD' : World} {D D' : List Nat} (hk : ∀ g, g ∈ D → wD'.heap[g]? = wD.heap[g]?) (hs : ∀ g, g ∈ D → g ∈ D') {w : World} {B : Nat → Prop} {cs : List Value} {m : Msg} (h : MsgR (RW wD D) w B cs m) : MsgR (RW wD' D') w B cs m := msgr_imp (fun _ _ _ _ h => RW.mono hk hs h) h
/-- messages that have been made so far: rows of segments in blocks of S, data in blocks of D -/
structure GotM (wS wD : World) (S D : List Nat) (n : Nat) (xs : List Value) (l : List Msg) : Prop where
  len : xs.length = n * 3
  at_ : ∀ (i : Nat) (m : Msg), i < n → l[i]? = some m → MsgR (RW wD D) wS (fun g => g ∈ S) (cut1 xs 3 i) m
  cells : ∀ g, g ∈ S → Cells0 wS g
def GivesM (T : Nat) (l : List Msg) (w : World) : Ending → World → Prop := fun e w' =>
  ∃ (A : Option (Nat × Nat)) (cap : Nat) (xs : List Value) (S D : List Nat), e = .returned (.slice (adr A) l.length cap) ∧ w'.ownsRow w.heap.size T 3 (.slice (adr A) l.length cap) l.length xs ∧ (∀ g, g ∈ S → w.heap.size ≤ g ∧ g < w'.heap.size) ∧ (∀ g, g ∈ D → w.heap.size ≤ g ∧ g < w'.heap.size) ∧ (∀ g, g ∈ S → g ∉ D) ∧ (∀ p, A = some p → p.1 ∉ S ∧ p.1 ∉ D) ∧ GotM w' w' S D l.length xs l ∧ Below w.heap.size w w'
theorem row_gsz {A : Option (Nat × Nat)} {T z n cap : Nat} {xs : List Value} {g : Nat} (h : g ∈ (HB.row A T z n cap xs).gs) : ∃ p, A = some p ∧ p.1 = g := by
  simp only [HB.gs, Option.mem_toList, Option.map_eq_some_iff] at h
  exact h
theorem called_M {cx : Cx} {n : Nat} {args : List SV} {H : Heap} {K : SV → Heap → Prop} (d1 d2 d3 : Nat) {T : Nat} {l : List Msg} (r : Option (Nat × Nat) → Nat → SV) (hr : ∀ A cap, (r A cap).real = .slice (adr A) l.length cap)
    (h : ∀ w, Holds cx H w → Calls cx.P n (args.map SV.real).toArray w (GivesM T l w))
    (hk : ∀ (w0 : World) (A : Option (Nat × Nat)) (cap : Nat) (xs : List Value) (S D : List Nat), GotM w0 w0 S D l.length xs l → (0 < l.length → ∃ p, A = some p) → K (r A cap) ((d1, .row A T 3 l.length cap xs) :: hdel ((d2, .own S (Frz w0 S)) :: hdel ((d3, .own D (Frz w0 D)) :: hdel H d3) d2) d1)) : Called cx n args H K := by
  refine ⟨fun w hw => (h w hw).mono fun e w' hp => ?_⟩
  obtain ⟨A, cap, xs, S, D, he, hrow, hS, hD, hSD, hA, hgot, hb⟩ := hp
  have hn : cx.n0 ≤ w.heap.size := Nat.le_trans hw.n0 hw.keep.size
  have h1 := (hw.below hb).turn d3 (.own D (Frz w' D)) (Keep.refl _ _ _) ⟨fun g hg => ⟨Nat.le_trans hn (hD g hg).1, (hD g hg).2⟩, fun _ _ => rfl, fun w2 hw2 => hw2⟩ fun x hx g hgx => ⟨rfl, fun hm => by
    have := HB.lt (hw.ent x (hdel_mem hx).1) hgx
    have := (hD g hm).1
    omega⟩
  have h2 := h1.turn d2 (.own S (Frz w' S)) (Keep.refl _ _ _) ⟨fun g hg => ⟨Nat.le_trans hn (hS g hg).1, (hS g hg).2⟩, fun _ _ => rfl, fun w2 hw2 => hw2⟩ fun x hx g hgx => ⟨rfl, fun hm => by
    obtain ⟨hx1, hx2⟩ := hdel_mem hx
    rcases List.mem_cons.1 hx1 with rfl | hx1
    · exact hSD g hm hgx
    · have := HB.lt (hw.ent x (hdel_mem hx1).1) hgx
      have := (hS g hm).1
      omega⟩
  refine ⟨r A cap, _, by rw [hr]; exact he, h2.turn d1 (.row A T 3 l.length cap xs) (Keep.refl _ _ _) (ownsRow_base hrow hn) fun x hx g hgx => ⟨rfl, fun hm => ?_⟩, hk w' A cap xs S D hgot (fun h0 => ?_)⟩
  rotate_left
  · cases A with
    | none =>
      rcases hrow.2 with ⟨hv, hn⟩ | ⟨g, cap', cur, hv, _⟩
      · omega
      · cases hv
    | some p => exact ⟨p, rfl⟩
  obtain ⟨p, rfl, rfl⟩ := row_gsz hm
  obtain ⟨hx1, hx2⟩ := hdel_mem hx
  rcases List.mem_cons.1 hx1 with rfl | hx1
  · exact (hA p rfl).1 hgx
  · obtain ⟨hx3, hx4⟩ := hdel_mem hx1
    rcases List.mem_cons.1 hx3 with rfl | hx3
    · exact (hA p rfl).2 hgx
    · have h2 := HB.lt (hw.ent x (hdel_mem hx3).1) hgx
      have h3 := (hrow.lt p.1 rfl).1
      omega
theorem GotM.mono {wS wS' wD wD' : World} {S S' D D' : List Nat} {n : Nat} {xs : List Value} {l : List Msg} (h : GotM wS wD S D n xs l) (hS : ∀ g, g ∈ S → wS'.heap[g]? = wS.heap[g]?) (hs : ∀ g, g ∈ S → g ∈ S') (hc : ∀ g, g ∈ S' → Cells0 wS' g) (hD : ∀ g, g ∈ D → wD'.heap[g]? = wD.heap[g]?) (hd : ∀ g, g ∈ D → g ∈ D') : GotM wS' wD' S' D' n xs l :=
  ⟨h.len, fun i m hi hm => msgr_mono hD hd (msgr_stays (rw_stays wD D) _ _ _ _ _ _ (h.at_ i m hi hm) (fun g hg _ => hS g hg) hs), hc⟩
theorem cells0_at {w w' : World} {g : Nat} (h : Cells0 w g) (hk : w'.heap[g]? = w.heap[g]?) : Cells0 w' g := by
  obtain ⟨cur, ty, h⟩ := h
  exact ⟨cur, ty, hk.trans h⟩
theorem done_M {cx : Cx} {T : Nat} {l : List Msg} {sv : SV} {H : Heap} (hn : cx.n0 = cx.W.heap.size) (hM : cx.M = []) (d1 d2 d3 : Nat) (h12 : d1 ≠ d2) (h13 : d1 ≠ d3) (h23 : d2 ≠ d3) {wS wD : World} {A : Option (Nat × Nat)} {n cap : Nat} {xs : List Value} {S D : List Nat}
    (hf1 : hfind H d1 = some (.row A T 3 n cap xs)) (hf2 : hfind H d2 = some (.own S (Frz wS S))) (hf3 : hfind H d3 = some (.own D (Frz wD D))) (hl : n = l.length) (hg : GotM wS wD S D n xs l) (hv : sv.real = .slice (adr A) n cap) :
    Done cx (GivesM T l cx.W) sv H := by
  subst hl
  refine ⟨fun w hw => ?_⟩
  have ho2 : (HB.own S (Frz wS S)).holds cx w := hw.at_ hf2
  have ho3 : (HB.own D (Frz wD D)).holds cx w := hw.at_ hf3
  have hr : w.ownsRow cx.n0 T 3 (.slice (adr A) l.length cap) l.length xs := hw.at_ hf1
  exact ⟨A, cap, xs, S, D, by rw [hv], by rw [← hn]; exact hr, fun g hg => ⟨by rw [← hn]; exact (ho2.1 g hg).1, (ho2.1 g hg).2⟩, fun g hg => ⟨by rw [← hn]; exact (ho3.1 g hg).1, (ho3.1 g hg).2⟩,
    fun g h1 h2 => hw.sep d2 _ d3 _ (hfind_mem hf2) (hfind_mem hf3) h23 g h1 h2,
    fun p hp => ⟨fun hm => hw.sep d1 _ d2 _ (hfind_mem hf1) (hfind_mem hf2) h12 p.1 (by rw [hp]; exact List.mem_singleton_self _) hm, fun hm => hw.sep d1 _ d3 _ (hfind_mem hf1) (hfind_mem hf3) h13 p.1 (by rw [hp]; exact List.mem_singleton_self _) hm⟩,
    hg.mono (frz_of hf2 hw) (fun _ h => h) (fun g h => cells0_at (hg.cells g h) (frz_of hf2 hw g h)) (frz_of hf3 hw) (fun _ h => h), below_of hn hM hw⟩
theorem nestz_in {α : Type} {z : Nat} {R R' : LiesC α} {w : World} {B B' : Nat → Prop} {v : Value} {l : List α} (hB : ∀ g, B g → B' g) (h : ∀ (cs : List Value) (a : α), R w B cs a → R' w B' cs a) : NestZ z R w B v l → NestZ z R' w B' v l := by
  rintro ⟨a, A, cap, xs, hv, ha, hc, hro, hb, hx⟩
  exact ⟨a, A, cap, xs, hv, ha, hc, hro, fun p hp hn => hB _ (hb p hp hn), fun i a h1 => h _ _ (hx i a h1)⟩
/-- at one world rows and data are a nest -/
theorem msgr_all {w : World} {S D : List Nat} {B : Nat → Prop} (hS : ∀ g, g ∈ S → B g) (hD : ∀ g, g ∈ D → B g) {cs : List Value} {m : Msg} (h : MsgR (RW w D) w (fun g => g ∈ S) cs m) : MsgR NS w B cs m := by
  obtain ⟨x, hx, h1⟩ := h
  refine ⟨x, hx, nestz_in hS (fun cs a h2 => ?_) h1⟩
  obtain ⟨y, hy, h3⟩ := h2
  exact ⟨y, hy, ns_stays _ _ _ _ _ _ h3 (fun _ _ _ => rfl) hD⟩
theorem ro_of_ownz {w : World} {B T z n cap : Nat} {A : Option (Nat × Nat)} {xs : List Value} (hr : w.ownsRow B T z (.slice (adr A) n cap) n xs) : Ro w A n z xs := by
  refine ⟨hr.1, fun hn => ?_⟩
  cases A with
  | none =>
    rcases hr.2 with ⟨hv, h0⟩ | ⟨g, cap', cur, hv, _⟩
    · omega
    · cases hv
  | some p =>
    refine ⟨p, rfl, (hr.lt p.1 rfl).2, fun j u hu => ?_⟩
    have := row_cell hr hu
    rw [Option.getD_some, Nat.add_comm] at this
    exact this
theorem gives_of_M {T : Nat} {l : List Msg} {w : World} {e : Ending} {w' : World} (h : GivesM T l w e w') : Gives id (fun w B v => NMsgs NS w B v l) w e w' := by
  obtain ⟨A, cap, xs, S, D, he, hrow, hS, hD, hSD, hA, hgot, hb⟩ := h
  have hcap : l.length ≤ cap ∧ cap ≤ maxLen := by
    rcases hrow.2 with ⟨hv, hn⟩ | ⟨g, cap', cur, hv, _, _, h1, h2, _⟩
    · injection hv with _ _ hc
      exact ⟨by omega, by rw [hc]; exact Nat.zero_le _⟩
    · injection hv with _ _ hc
      subst hc
      exact ⟨h1, h2⟩
  refine ⟨_, (A.map Prod.fst).toList ++ (S ++ D), he, fun g hg => ?_, ⟨adr A, A, cap, xs, rfl, AtN.refl _ _, hcap, ro_of_ownz hrow, fun p hp hn => by rw [hp]; exact List.mem_append_left _ (by simp), fun i a ha => msgr_all (fun g h => List.mem_append_right _ (List.mem_append_left _ h)) (fun g h => List.mem_append_right _ (List.mem_append_right _ h)) (hgot.at_ i a (List.getElem?_eq_some_iff.1 ha).1 ha)⟩, hb⟩
  rcases List.mem_append.1 hg with hg | hg
  · simp only [Option.mem_toList, Option.map_eq_some_iff] at hg
    obtain ⟨p, rfl, rfl⟩ := hg
    exact hrow.lt p.1 rfl
  · rcases List.mem_append.1 hg with hg | hg
    · exact hS g hg
    · exact hD g hg
/-- one cell of an element of what is one's own -/
theorem frz_cz {cx : Cx} {A : Option (Nat × Nat)} {n z d : Nat} {w0 : World} {gs : List Nat} {xs : List Value} {k i j : Nat} {cs : List Value} {u : Value} (h : Ro w0 A n z xs) (hB : ∀ p, A = some p → 0 < n → p.1 ∈ gs) (hc : cut1 xs z i = cs) (hl : cs.length = z) (hu : cs[j]? = some u) (hk : k = i * z) (hi : i < n) {H : Heap} (hf : hfind H d = some (.own gs (Frz w0 gs))) : ∀ w, Holds cx H w → w.cell? ((adAt (adr A) k).add j) = some u := by
  intro w hw
  have hj : j < z := by rw [← hl]; exact (List.getElem?_eq_some_iff.1 hu).1
  have hx : xs[k + j]? = some u := by rw [hk, cut1_at hc (by omega), hu]
  obtain ⟨p, rfl, hlt, hcell⟩ := h.2 (by omega)
  rw [← hcell (k + j) u hx, ad_some, add_mk]
  rw [Nat.add_assoc]
  exact World.cell?_of_block (frz_of hf hw p.1 (hB p rfl (by omega)))
end
section
open Go Sat Go.RowKit Go.PlainAid
theorem own_cellsz {w : World} {B T sz n cap : Nat} {p : Nat × Nat} {xs : List Value} (hr : w.ownsRow B T sz (.slice (adr (some p)) n cap) n xs) : Cells0 w p.1 := by
  rcases hr.2 with ⟨hv, h0⟩ | ⟨g, cap', cur, hv, _, h1, _⟩
  · cases hv
  · simp only [adr, Option.map_some, Value.slice.injEq, Option.some.injEq, Addr.mk.injEq] at hv
    rw [← hv.1.1] at h1
    exact ⟨cur, T, h1⟩
theorem cells_fuse {cx : Cx} {H : Heap} {w wS : World} {S : List Nat} {d id : Nat} {A : Option (Nat × Nat)} {T z n cap : Nat} {xs : List Value} (hw : Holds cx H w) (hd : hfind H d = some (.own S (Frz wS S))) (hi : hfind H id = some (.row A T z n cap xs)) (hc : ∀ g, g ∈ S → Cells0 wS g) : ∀ g, g ∈ gsOf H [d, id] → Cells0 w g := by
  intro g hg
  obtain ⟨i, b, hi', hb, hgb⟩ := mem_gsOf hg
  rcases List.mem_cons.1 hi' with rfl | hi'
  · rw [hd] at hb
    cases hb
    exact cells0_at (hc g hgb) (frz_of hd hw g hgb)
  · rw [List.mem_singleton] at hi'
    subst hi'
    rw [hi] at hb
    cases hb
    obtain ⟨p, rfl, rfl⟩ := row_gsz hgb
    exact own_cellsz (hw.at_ hi)
theorem segs_row {R : Lies Dat} {cx : Cx} {H : Heap} {w w0 : World} {B0 : Nat → Prop} (hR : ∀ w w' B B' v d, R w B v d → R w' B' v d) (L : List Nat) (id : Nat) {A : Option (Nat × Nat)} {T n cap : Nat} {xs : List Value} {l : List Sg} (hw : Holds cx H w) (hf : hfind H id = some (.row A T 2 n cap xs)) (hi : memN L id = true) (hn : n = l.length) (h : ∀ (j : Nat) (s : Sg), j < n → l[j]? = some s → SegR R w0 B0 (cut1 xs 2 j) s) : NSegs R w (fun g => g ∈ gsOf H L) (.slice (adr A) n cap) l := by
  subst hn
  refine ⟨adr A, A, cap, xs, rfl, AtN.refl _ _, row_caps hw hf, ro_of_row hw hf, fun p hp _ => gs_sub hi hf (by rw [hp]; simp [HB.gs]), fun i a ha => ?_⟩
  obtain ⟨y, hy, h1⟩ := h i a (List.getElem?_eq_some_iff.1 ha).1 ha
  exact ⟨y, hy, hR _ _ _ _ _ _ h1⟩
theorem GotM.snoc {wS wD : World} {S D : List Nat} {n : Nat} {xs : List Value} {l : List Msg} {m : Msg} {v : Value} (h : GotM wS wD S D n xs l) (hm : l[n]? = some m) (hv : NSegs (RW wD D) wS (fun g => g ∈ S) v m.segs) : GotM wS wD S D (n + 1) (xs ++ [.string m.kind, .string m.ref, v]) l := by
  refine ⟨by rw [List.length_append, h.len]; simp; omega, fun i a hi ha => ?_, h.cells⟩
  rcases Nat.lt_or_ge i n with h1 | h1
  · rw [cut1_old h.len h1]
    exact h.at_ i a h1 ha
  · obtain rfl : i = n := by omega
    rw [hm] at ha
    cases ha
    rw [cut1_new h.len rfl]
    exact ⟨v, rfl, hv⟩
theorem segs_snoc {R : Lies Dat} {w : World} {B : Nat → Prop} {n : Nat} {xs : List Value} {l : List Sg} {s : Sg} {v : Value} (hl : xs.length = n * 2) (h : ∀ (j : Nat) (s : Sg), j < n → l[j]? = some s → SegR R w B (cut1 xs 2 j) s) (hs : l[n]? = some s) (hv : R w B v s.2) : ∀ (j : Nat) (t : Sg), j < n + 1 → l[j]? = some t → SegR R w B (cut1 (xs ++ [.string s.1, v]) 2 j) t := by
  intro j t hj ht
  rcases Nat.lt_or_ge j n with h1 | h1
  · rw [cut1_old hl h1]
    exact h j t h1 ht
  · obtain rfl : j = n := by omega
    rw [hs] at ht
    cases ht
    rw [cut1_new hl rfl]
    exact ⟨v, rfl, hv⟩
theorem own_sub {cx : Cx} {H : Heap} {w w0 : World} (hw : Holds cx H w) (L : List Nat) (i : Nat) {D : List Nat} (hi : memN L i = true) (hf : hfind H i = some (.own D (Frz w0 D))) : ∀ g, g ∈ D → g ∈ gsOf H L := fun _ h => gs_sub hi hf h
/-- bounds for messages that are copied -/
structure FewO (l : List Msg) : Prop where
  top : l.length ≤ 1000000
  seg : ∀ m ∈ l, m.segs.length ≤ 1000000 ∧ ∀ s ∈ m.segs, FewS s.2
set_option maxRecDepth 100000 in
set_option maxHeartbeats 16000000 in
theorem ownM_row (l : List Msg) (v : Value) (w : World) (hA : NMsgs NSA w (fun _ => True) v l) (hf : FewO l) :
    Calls Tryd.prog 32 #[v] w (GivesM 50 l w) := by
  obtain ⟨A', A, cA, xs, rfl, aA, hcA, hrA, -, hxA⟩ := hA
  refine calls_sat (cx := Tryd.cx 43 [2, 9, 10, 13] [] [] w) (Tryd.ok ..) Tryd.func32 rfl [.v (.slice A' l.length cA)] rfl (by show 1 ≤ 43; omega) [] (holds_nil (Nat.le_refl _)) ?_
  have hmax : l.length ≤ 9223372036854775807 := Nat.le_trans (Nat.le_trans hcA.1 hcA.2) (by decide)
  have htop := hf.top
  repeat' ((conv => whnf); first | refine walk (Tryd.ok ..) ?_ | (refine Cnd.mk (fun h => ?_) (fun h => ?_) <;> (first | exact cndT h (by (try dsimp only); omega) | exact cndF h (by (try dsimp only); omega) | (exfalso; simp at h; omega) | simp at h | skip)) | refine kp ?_ ?_ | refine tw ?_ ?_ | refine appnil rfl ?_ | refine rawnil rfl ?_ | exact trivial | refine side2 ?_ | refine sideL2 ?_ | refine Or.inr ?_ | refine sat_drawH (Tryd.ok ..) (by kernel_rfl) ?_ | refine xi _ (And.intro rfl rfl) ?_ | refine xi _ (fun _ => And.intro rfl rfl) ?_ | refine xi _ rfl ?_)
  refine sat_fuse 977 [] rfl fun w0 hw0 => ?_
  refine sat_fuse 979 [] rfl fun w0' hw0' => ?_
  refine sat_ops (Tryd.ok ..) ?_
  repeat' ((conv => whnf); first | refine walk (Tryd.ok ..) ?_ | (refine Cnd.mk (fun h => ?_) (fun h => ?_) <;> (first | exact cndT h (by (try dsimp only); omega) | exact cndF h (by (try dsimp only); omega) | (exfalso; simp at h; omega) | simp at h | skip)) | refine kp ?_ ?_ | refine tw ?_ ?_ | refine appnil rfl ?_ | refine rawnil rfl ?_ | exact trivial | refine side2 ?_ | refine sideL2 ?_ | refine Or.inr ?_ | refine sat_drawH (Tryd.ok ..) (by kernel_rfl) ?_ | refine xi _ (And.intro rfl rfl) ?_ | refine xi _ (fun _ => And.intro rfl rfl) ?_ | refine xi _ rfl ?_)
  refine sat_loop (Tryd.ok ..) (α := Nat × Option (Nat × Nat) × Nat × List Value × World × List Nat × World × List Nat) (fun t => ([(3, .yes, .o 80 t.2.1 t.1 t.2.2.1), (9, .yes, .v (.slice A' l.length cA)), (10, .yes, .v (.int .i64 l.length)), (11, .yes, .v (.int .i64 t.1))], [(80, .row t.2.1 50 3 t.1 t.2.2.1 t.2.2.2.1), (977, .own t.2.2.2.2.2.1 (Frz t.2.2.2.2.1 t.2.2.2.2.2.1)), (979, .own t.2.2.2.2.2.2.2 (Frz t.2.2.2.2.2.2.1 t.2.2.2.2.2.2.2))]))
    (fun t => t.1 ≤ l.length ∧ GotM t.2.2.2.2.1 t.2.2.2.2.2.2.1 t.2.2.2.2.2.1 t.2.2.2.2.2.2.2 t.1 t.2.2.2.1 l) (fun t => l.length - t.1) (fun _ => rfl) ?_ ?_
  · refine ⟨(0, none, 0, [], w0, [], w0', []), ⟨Nat.zero_le _, rfl, fun i m h => by omega, fun g h => by cases h⟩, ?_, ?_, rfl⟩
    all_goals ((repeat' (first | exact trivial | exact rfl | refine And.intro ?_ ?_)) <;> (try (conv => whnf)) <;> (try simp only [SV.real, SV.r2, SV.r1]))
  rintro ⟨k, A3, cap3, xs3, wS, S, wD, D⟩ ⟨hk, hg⟩
  dsimp only at hk hg ⊢
  by_cases hk1 : k < l.length
  case neg =>
    obtain rfl : k = l.length := by omega
    repeat' ((conv => whnf); first | refine walk (Tryd.ok ..) ?_ | (refine Cnd.mk (fun h => ?_) (fun h => ?_) <;> (first | exact cndT h (by (try dsimp only); omega) | exact cndF h (by (try dsimp only); omega) | (exfalso; simp at h; omega) | simp at h | skip)) | refine kp ?_ ?_ | refine tw ?_ ?_ | refine appnil rfl ?_ | refine rawnil rfl ?_ | exact trivial | refine side2 ?_ | refine sideL2 ?_ | refine Or.inr ?_ | refine sat_drawH (Tryd.ok ..) (by kernel_rfl) ?_ | refine xi _ (And.intro rfl rfl) ?_ | refine xi _ (fun _ => And.intro rfl rfl) ?_ | refine xi _ rfl ?_)
    exact done_M rfl rfl 80 977 979 (by decide) (by decide) (by decide) (A := A3) (cap := cap3) (xs := xs3) (S := S) (D := D) (wS := wS) (wD := wD) rfl rfl rfl rfl hg rfl
  obtain ⟨m, hm⟩ : ∃ s, l[k]? = some s := ⟨_, List.getElem?_eq_getElem hk1⟩
  obtain ⟨vm, hcm, hvm⟩ := hxA k m hm
  obtain ⟨am, Am, cm, xm, rfl, aAm, hcmm, hrm, -, hxm⟩ := hvm
  obtain ⟨p, rfl, rfl⟩ := some_ofz aA hrA (by omega)
  have hmaxm : m.segs.length ≤ 9223372036854775807 := Nat.le_trans (Nat.le_trans hcmm.1 hcmm.2) (by decide)
  obtain ⟨htopm, hfm⟩ := hf.seg m (List.mem_of_getElem? hm)
  repeat' ((conv => whnf); first | refine walk (Tryd.ok ..) ?_ | (refine Cnd.mk (fun h => ?_) (fun h => ?_) <;> (first | exact cndT h (by (try dsimp only); omega) | exact cndF h (by (try dsimp only); omega) | (exfalso; simp at h; omega) | simp at h | skip)) | refine kp ?_ ?_ | refine tw ?_ ?_ | refine appnil rfl ?_ | refine rawnil rfl ?_ | exact trivial | refine side2 ?_ | refine sideL2 ?_ | refine Or.inr ?_ | refine sat_drawH (Tryd.ok ..) (by kernel_rfl) ?_ | refine xi _ (And.intro rfl rfl) ?_ | refine xi _ (fun _ => And.intro rfl rfl) ?_ | refine xi _ rfl ?_ | refine xi _ (fun _ => (ro_aggz rfl rfl hrA hcm rfl (kz k 3) hk1)) ?_ | refine xi _ (ro_aggz rfl rfl hrA hcm rfl (kz k 3) hk1) ?_)
  (conv => whnf)
  intro g5 hg5
  repeat' ((conv => whnf); first | refine walk (Tryd.ok ..) ?_ | (refine Cnd.mk (fun h => ?_) (fun h => ?_) <;> (first | exact cndT h (by (try dsimp only); omega) | exact cndF h (by (try dsimp only); omega) | (exfalso; simp at h; omega) | simp at h | skip)) | refine kp ?_ ?_ | refine tw ?_ ?_ | refine appnil rfl ?_ | refine rawnil rfl ?_ | exact trivial | refine side2 ?_ | refine sideL2 ?_ | refine Or.inr ?_ | refine sat_drawH (Tryd.ok ..) (by kernel_rfl) ?_ | refine xi _ (And.intro rfl rfl) ?_ | refine xi _ (fun _ => And.intro rfl rfl) ?_ | refine xi _ rfl ?_)
  refine sat_loop (Tryd.ok ..) (α := Nat × Option (Nat × Nat) × Nat × List Value × World × List Nat) (fun t => ([(3, .yes, .o 80 A3 k cap3), (5, .yes, .p 5 g5 0 0), (6, .yes, .o 81 t.2.1 t.1 t.2.2.1), (9, .yes, .v (.slice (adr (some p)) l.length cA)), (10, .yes, .v (.int .i64 l.length)), (11, .yes, .v (.int .i64 k)), (16, .yes, .v (.slice am m.segs.length cm)), (17, .yes, .v (.int .i64 m.segs.length)), (18, .yes, .v (.int .i64 t.1))], [(5, .blk g5 50 [.v (.string m.kind), .v (.string m.ref), .v (.slice am m.segs.length cm)]), (81, .row t.2.1 47 2 t.1 t.2.2.1 t.2.2.2.1), (80, .row A3 50 3 k cap3 xs3), (977, .own S (Frz wS S)), (979, .own t.2.2.2.2.2 (Frz t.2.2.2.2.1 t.2.2.2.2.2))]))
    (fun t => t.1 ≤ m.segs.length ∧ t.2.2.2.1.length = t.1 * 2 ∧ (∀ (j : Nat) (s : Sg), j < t.1 → m.segs[j]? = some s → SegR (RW t.2.2.2.2.1 t.2.2.2.2.2) wS (fun g => g ∈ S) (cut1 t.2.2.2.1 2 j) s) ∧ GotM wS t.2.2.2.2.1 S t.2.2.2.2.2 k xs3 l) (fun t => m.segs.length - t.1) (fun _ => rfl) ?_ ?_
  · refine ⟨(0, none, 0, [], wD, D), ⟨Nat.zero_le _, rfl, fun j s h => by omega, hg⟩, ?_, ?_, rfl⟩
    all_goals ((repeat' (first | exact trivial | exact rfl | refine And.intro ?_ ?_)) <;> (try (conv => whnf)) <;> (try simp only [SV.real, SV.r2, SV.r1]))
  clear hg
  rintro ⟨j, A6, cap6, xs6, wD1, D1⟩ ⟨hj, hl6, h6, hg⟩
  dsimp only at hj hl6 h6 hg ⊢
  by_cases hj1 : j < m.segs.length
  case neg =>
    obtain rfl : j = m.segs.length := by omega
    repeat' ((conv => whnf); first | refine walk (Tryd.ok ..) ?_ | (refine Cnd.mk (fun h => ?_) (fun h => ?_) <;> (first | exact cndT h (by (try dsimp only); omega) | exact cndF h (by (try dsimp only); omega) | (exfalso; simp at h; omega) | simp at h | skip)) | refine kp ?_ ?_ | refine tw ?_ ?_ | refine appnil rfl ?_ | refine rawnil rfl ?_ | exact trivial | refine side2 ?_ | refine sideL2 ?_ | refine Or.inr ?_ | refine sat_drawH (Tryd.ok ..) (by kernel_rfl) ?_ | refine xi _ (And.intro rfl rfl) ?_ | refine xi _ (fun _ => And.intro rfl rfl) ?_ | refine xi _ rfl ?_)
    (conv => whnf)
    intro g39 hg39
    repeat' ((conv => whnf); first | refine walk (Tryd.ok ..) ?_ | (refine Cnd.mk (fun h => ?_) (fun h => ?_) <;> (first | exact cndT h (by (try dsimp only); omega) | exact cndF h (by (try dsimp only); omega) | (exfalso; simp at h; omega) | simp at h | skip)) | refine kp ?_ ?_ | refine tw ?_ ?_ | refine appnil rfl ?_ | refine rawnil rfl ?_ | exact trivial | refine side2 ?_ | refine sideL2 ?_ | refine Or.inr ?_ | refine sat_drawH (Tryd.ok ..) (by kernel_rfl) ?_ | refine xi _ (And.intro rfl rfl) ?_ | refine xi _ (fun _ => And.intro rfl rfl) ?_ | refine xi _ rfl ?_)
    (conv => whnf)
    intro A40 cap40
    repeat' ((conv => whnf); first | refine walk (Tryd.ok ..) ?_ | (refine Cnd.mk (fun h => ?_) (fun h => ?_) <;> (first | exact cndT h (by (try dsimp only); omega) | exact cndF h (by (try dsimp only); omega) | (exfalso; simp at h; omega) | simp at h | skip)) | refine kp ?_ ?_ | refine tw ?_ ?_ | refine appnil rfl ?_ | refine rawnil rfl ?_ | exact trivial | refine side2 ?_ | refine sideL2 ?_ | refine Or.inr ?_ | refine sat_drawH (Tryd.ok ..) (by kernel_rfl) ?_ | refine xi _ (And.intro rfl rfl) ?_ | refine xi _ (fun _ => And.intro rfl rfl) ?_ | refine xi _ rfl ?_)
    refine sat_fuse 977 [977, 81] rfl fun w4 hw4 => ?_
    have hS' := segs_row (R := RW wD1 D1) (fun _ _ _ _ _ _ h => h) [977, 81] 81 hw4 rfl rfl rfl h6
    have hg2 := hg.mono (frz_of (d := 977) rfl hw4) (own_sub hw4 [977, 81] 977 (D := S) (w0 := wS) rfl rfl) (cells_fuse (d := 977) (id := 81) hw4 rfl rfl hg.cells) (fun _ _ => rfl) (fun _ h => h)
    refine sat_ops (Tryd.ok ..) ?_
    repeat' ((conv => whnf); first | refine walk (Tryd.ok ..) ?_ | (refine Cnd.mk (fun h => ?_) (fun h => ?_) <;> (first | exact cndT h (by (try dsimp only); omega) | exact cndF h (by (try dsimp only); omega) | (exfalso; simp at h; omega) | simp at h | skip)) | refine kp ?_ ?_ | refine tw ?_ ?_ | refine appnil rfl ?_ | refine rawnil rfl ?_ | exact trivial | refine side2 ?_ | refine sideL2 ?_ | refine Or.inr ?_ | refine sat_drawH (Tryd.ok ..) (by kernel_rfl) ?_ | refine xi _ (And.intro rfl rfl) ?_ | refine xi _ (fun _ => And.intro rfl rfl) ?_ | refine xi _ rfl ?_)
    refine ⟨(k + 1, A40, cap40, _, w4, _, wD1, D1), ⟨⟨hk1, hg2.snoc hm hS'⟩, by show l.length - (k + 1) < l.length - k; omega⟩, ?_, ?_, rfl⟩
    all_goals ((repeat' (first | exact trivial | exact rfl | refine And.intro ?_ ?_)) <;> (try (conv => whnf)) <;> (try simp only [SV.real, SV.r2, SV.r1]))
  obtain ⟨s, hs⟩ : ∃ s, m.segs[j]? = some s := ⟨_, List.getElem?_eq_getElem hj1⟩
  obtain ⟨vd, hcd, hvd⟩ := hxm j s hs
  obtain ⟨q, rfl, rfl⟩ := some_ofz aAm hrm (by omega)
  have hfs := hfm s (List.mem_of_getElem? hs)
  obtain ⟨ad, nd, cd2, rfl⟩ := nsa_sl _ _ _ _ hvd
  repeat' ((conv => whnf); first | refine walk (Tryd.ok ..) ?_ | (refine Cnd.mk (fun h => ?_) (fun h => ?_) <;> (first | exact cndT h (by (try dsimp only); omega) | exact cndF h (by (try dsimp only); omega) | (exfalso; simp at h; omega) | simp at h | skip)) | refine kp ?_ ?_ | refine tw ?_ ?_ | refine appnil rfl ?_ | refine rawnil rfl ?_ | exact trivial | refine side2 ?_ | refine sideL2 ?_ | refine Or.inr ?_ | refine sat_drawH (Tryd.ok ..) (by kernel_rfl) ?_ | refine xi _ (And.intro rfl rfl) ?_ | refine xi _ (fun _ => And.intro rfl rfl) ?_ | refine xi _ rfl ?_ | refine xi _ (fun _ => (ro_aggz rfl rfl hrm hcd rfl (kz j 2) hj1)) ?_ | refine xi _ (ro_aggz rfl rfl hrm hcd rfl (kz j 2) hj1) ?_)
  (conv => whnf)
  intro g8 hg8
  repeat' ((conv => whnf); first | refine walk (Tryd.ok ..) ?_ | (refine Cnd.mk (fun h => ?_) (fun h => ?_) <;> (first | exact cndT h (by (try dsimp only); omega) | exact cndF h (by (try dsimp only); omega) | (exfalso; simp at h; omega) | simp at h | skip)) | refine kp ?_ ?_ | refine tw ?_ ?_ | refine appnil rfl ?_ | refine rawnil rfl ?_ | exact trivial | refine side2 ?_ | refine sideL2 ?_ | refine Or.inr ?_ | refine xi _ (And.intro rfl rfl) ?_ | refine xi _ (fun _ => And.intro rfl rfl) ?_ | refine xi _ rfl ?_)
  refine sat_draw (Tryd.ok ..) [8] [(8, .blk g8 47 [.v (.string s.1), .v (.slice ad nd cd2)])] (by kernel_rfl) (fun w hw => hw.sub ?_) ?_
  · exact hsub_of rfl
  repeat' ((conv => whnf); first | refine walk (Tryd.ok ..) ?_ | (refine Cnd.mk (fun h => ?_) (fun h => ?_) <;> (first | exact cndT h (by (try dsimp only); omega) | exact cndF h (by (try dsimp only); omega) | (exfalso; simp at h; omega) | simp at h | skip)) | refine kp ?_ ?_ | refine tw ?_ ?_ | refine appnil rfl ?_ | refine rawnil rfl ?_ | exact trivial | refine side2 ?_ | refine sideL2 ?_ | refine Or.inr ?_ | refine xi _ (And.intro rfl rfl) ?_ | refine xi _ (fun _ => And.intro rfl rfl) ?_ | refine xi _ rfl ?_)
  (conv => whnf)
  refine called_nestK 900 (mk := id) (Q := fun w' B v => Nest NSA w' (fun g => B g ∨ g < w.heap.size) v [s.2]) (fun v => .v v) (fun _ => rfl) (fun w' hh => by exact lists_any nsa_stays nsa_sl s.2 _ w' _ (lent_low nsa_stays nsa_narrow rfl rfl hvd hh)) ?_
  intro w5 gs5 v5 h5 hw5
  repeat' ((conv => whnf); first | refine walk (Tryd.ok ..) ?_ | (refine Cnd.mk (fun h => ?_) (fun h => ?_) <;> (first | exact cndT h (by (try dsimp only); omega) | exact cndF h (by (try dsimp only); omega) | (exfalso; simp at h; omega) | simp at h | skip)) | refine kp ?_ ?_ | refine tw ?_ ?_ | refine appnil rfl ?_ | refine rawnil rfl ?_ | exact trivial | refine side2 ?_ | refine sideL2 ?_ | refine Or.inr ?_ | refine xi _ (And.intro rfl rfl) ?_ | refine xi _ (fun _ => And.intro rfl rfl) ?_ | refine xi _ rfl ?_)
  (conv => whnf)
  refine called_nest 901 (mk := id) (Q := fun w B v => NL w B v [s.2]) (fun v => .v v) (fun _ => rfl) (fun w' hh => by exact own_any [s.2] v5 w' (nest_to (mix_nest (nest_stays nsa_stays) rfl h5 hw5 (d := 900) rfl hh _ (fun _ _ => trivial))) (fewL_one hfs)) ?_
  intro w6 gs6 v6 h6'
  obtain ⟨A2, c2, xs2, rfl, hc2, hr2, hB2, hx2⟩ := h6'
  obtain ⟨x2, hx20, hown⟩ := nest_at hx2 hr2.1 (i := 0) (a := s.2) rfl
  obtain ⟨p2, rfl, _⟩ := hr2.some_ (by simp)
  obtain ⟨ax, nx, cx', rfl⟩ := ns_sl _ _ _ _ hown
  rw [show [s.2].length = 1 from rfl] at hc2 hr2 hB2 ⊢
  repeat' ((conv => whnf); first | refine walk (Tryd.ok ..) ?_ | (refine Cnd.mk (fun h => ?_) (fun h => ?_) <;> (first | exact cndT h (by (try dsimp only); omega) | exact cndF h (by (try dsimp only); omega) | (exfalso; simp at h; omega) | simp at h | skip)) | refine kp ?_ ?_ | refine tw ?_ ?_ | refine appnil rfl ?_ | refine rawnil rfl ?_ | exact trivial | refine side2 ?_ | refine sideL2 ?_ | refine Or.inr ?_ | refine xi _ (And.intro rfl rfl) ?_ | refine xi _ (fun _ => And.intro rfl rfl) ?_ | refine xi _ rfl ?_ | refine xi _ (fun _ => (frz_at (d := 901) hr2 hB2 hx20 rfl rfl)) ?_ | refine xi _ (frz_at (d := 901) hr2 hB2 hx20 rfl rfl) ?_)
  (conv => whnf)
  intro g32 hg32
  repeat' ((conv => whnf); first | refine walk (Tryd.ok ..) ?_ | (refine Cnd.mk (fun h => ?_) (fun h => ?_) <;> (first | exact cndT h (by (try dsimp only); omega) | exact cndF h (by (try dsimp only); omega) | (exfalso; simp at h; omega) | simp at h | skip)) | refine kp ?_ ?_ | refine tw ?_ ?_ | refine appnil rfl ?_ | refine rawnil rfl ?_ | exact trivial | refine side2 ?_ | refine sideL2 ?_ | refine Or.inr ?_ | refine xi _ (And.intro rfl rfl) ?_ | refine xi _ (fun _ => And.intro rfl rfl) ?_ | refine xi _ rfl ?_)
  (conv => whnf)
  intro A33 cap33
  repeat' ((conv => whnf); first | refine walk (Tryd.ok ..) ?_ | (refine Cnd.mk (fun h => ?_) (fun h => ?_) <;> (first | exact cndT h (by (try dsimp only); omega) | exact cndF h (by (try dsimp only); omega) | (exfalso; simp at h; omega) | simp at h | skip)) | refine kp ?_ ?_ | refine tw ?_ ?_ | refine appnil rfl ?_ | refine rawnil rfl ?_ | exact trivial | refine side2 ?_ | refine sideL2 ?_ | refine Or.inr ?_ | refine sat_drawH (Tryd.ok ..) (by kernel_rfl) ?_ | refine xi _ (And.intro rfl rfl) ?_ | refine xi _ (fun _ => And.intro rfl rfl) ?_ | refine xi _ rfl ?_)
  refine sat_fuse 979 [979, 901] rfl fun w4 hw4 => ?_
  have hDs := own_sub hw4 [979, 901] 979 (D := D1) (w0 := wD1) rfl rfl
  have hDk := frz_of (d := 979) (gs := D1) rfl hw4
  have hg2 := hg.mono (fun _ _ => rfl) (fun _ h => h) hg.cells hDk hDs
  have hn2 := frz_nest' ns_stays hown (d := 901) rfl hw4 (own_sub hw4 [979, 901] 901 (D := gs6) (w0 := w6) rfl rfl)
  refine sat_ops (Tryd.ok ..) ?_
  repeat' ((conv => whnf); first | refine walk (Tryd.ok ..) ?_ | (refine Cnd.mk (fun h => ?_) (fun h => ?_) <;> (first | exact cndT h (by (try dsimp only); omega) | exact cndF h (by (try dsimp only); omega) | (exfalso; simp at h; omega) | simp at h | skip)) | refine kp ?_ ?_ | refine tw ?_ ?_ | refine appnil rfl ?_ | refine rawnil rfl ?_ | exact trivial | refine side2 ?_ | refine sideL2 ?_ | refine Or.inr ?_ | refine sat_drawH (Tryd.ok ..) (by kernel_rfl) ?_ | refine xi _ (And.intro rfl rfl) ?_ | refine xi _ (fun _ => And.intro rfl rfl) ?_ | refine xi _ rfl ?_)
  refine ⟨(j + 1, A33, cap33, _, w4, _), ⟨⟨hj1, by rw [List.length_append, hl6]; simp; omega, segs_snoc hl6 (fun j s hj hs => segr_mono hDk hDs (h6 j s hj hs)) hs hn2, hg2⟩, by show m.segs.length - (j + 1) < m.segs.length - j; omega⟩, ?_, ?_, rfl⟩
  all_goals ((repeat' (first | exact trivial | exact rfl | refine And.intro ?_ ?_)) <;> (try (conv => whnf)) <;> (try simp only [SV.real, SV.r2, SV.r1]))
end
section
open Go Sat Go.RowKit Go.PlainAid
def OneOf {α : Type} (R : Lies α) : Prop := ∀ w B B' v a b, R w B v a → R w B' v b → a = b
theorem text_func : OneOf Text := fun _ _ _ _ _ _ h h' => by
  have h : _ = _ := h
  have h' : _ = _ := h'
  rw [h] at h'
  injection h'
theorem adr_inj {p q : Nat × Nat} (h : adr (some p) = adr (some q)) : p = q := by
  simp only [adr, Option.map_some, Option.some.injEq, Addr.mk.injEq] at h
  exact Prod.ext h.1 h.2.1
theorem nest_func {α : Type} {R : Lies α} (hR : OneOf R) : OneOf (Nest R) := by
  rintro w B B' v l m ⟨A, cap, xs, hv, -, hro, -, hx⟩ ⟨A', cap', xs', hv', -, hro', -, hx'⟩
  subst hv
  injection hv' with ha hn hc
  refine List.ext_getElem? fun i => ?_
  rcases Nat.lt_or_ge i l.length with hi | hi
  · have hi' : i < m.length := by omega
    obtain ⟨p, rfl, hl, hcell⟩ := hro.2 (by omega)
    obtain ⟨p', rfl, hl', hcell'⟩ := hro'.2 (by omega)
    obtain rfl := adr_inj ha
    have h1 : i < xs.length := by rw [hro.1]; omega
    have h2 : i < xs'.length := by rw [hro'.1]; omega
    have e1 := hcell i _ (List.getElem?_eq_getElem h1)
    have e2 := hcell' i _ (List.getElem?_eq_getElem h2)
    rw [e1] at e2
    have e3 := Option.some.inj e2
    have r1 := hx i _ _ (List.getElem?_eq_getElem h1) (List.getElem?_eq_getElem hi)
    have r2 := hx' i _ _ (List.getElem?_eq_getElem h2) (List.getElem?_eq_getElem hi')
    rw [← e3] at r2
    rw [List.getElem?_eq_getElem hi, List.getElem?_eq_getElem hi', hR _ _ _ _ _ _ r1 r2]
  · rw [List.getElem?_eq_none hi, List.getElem?_eq_none (by omega)]
theorem ns_func : OneOf NS := nest_func (nest_func text_func)
theorem ns_nostr {w : World} {B : Nat → Prop} {v : Value} {d : Dat} (h : NS w B v d) (s : ByteArray) : v ≠ .string s := by
  obtain ⟨A, cap, xs, hv, -⟩ := h
  subst hv
  intro h
  cases h
/-- a segment at its place, its data trimmed already or not -/
def SegAt (wS wD : World) (S D : List Nat) (A : Option (Nat × Nat)) (k : Nat) (s : Sg) (dn : Prop) : Prop :=
  ∃ (p : Nat × Nat) (u : Value), A = some p ∧ p.1 ∈ S ∧ wS.cell? ⟨p.1, p.2 + k * 2, none⟩ = some (.string s.1) ∧ wS.cell? ⟨p.1, p.2 + (k * 2 + 1), none⟩ = some u ∧ (NS wD (fun g => g ∈ D) u (trimS s.2) ∨ ¬ dn ∧ NS wD (fun g => g ∈ D) u s.2)
structure TrimI (wS wD : World) (S D : List Nat) (xs : List Value) (l : List Msg) (dn : Nat → Nat → Prop) : Prop where
  len : xs.length = l.length * 3
  cells : ∀ g, g ∈ S → Cells0 wS g
  at_ : ∀ (i : Nat) (m : Msg), l[i]? = some m → ∃ (a : Option Addr) (A : Option (Nat × Nat)) (cap : Nat), cut1 xs 3 i = [.string m.kind, .string m.ref, .slice a m.segs.length cap] ∧ AtN m.segs.length a A ∧ (m.segs.length ≤ cap ∧ cap ≤ maxLen) ∧ ∀ (k : Nat) (s : Sg), m.segs[k]? = some s → SegAt wS wD S D A k s (dn i k)
def bef (I K i k : Nat) : Prop := i < I ∨ (i = I ∧ k < K)
theorem TrimI.init {w : World} {S D : List Nat} {xs : List Value} {l : List Msg} (h : GotM w w S D l.length xs l) : TrimI w w S D xs l (bef 0 0) := by
  refine ⟨h.len, h.cells, fun i m hm => ?_⟩
  obtain ⟨x, hx, a, A, cap, ys, rfl, ha, hc, hro, hB, hy⟩ := h.at_ i m (List.getElem?_eq_some_iff.1 hm).1 hm
  refine ⟨a, A, cap, hx, ha, hc, fun k s hs => ?_⟩
  have hk := (List.getElem?_eq_some_iff.1 hs).1
  obtain ⟨u, hcs, hu⟩ := hy k s hs
  obtain ⟨p, rfl, hl, hcell⟩ := hro.2 (by omega)
  have h0 := cut1_at (j := 0) hcs (by simp)
  have h1 := cut1_at (j := 1) hcs (by simp)
  exact ⟨p, u, rfl, hB p rfl (by omega), hcell _ _ h0, hcell _ _ h1, .inr ⟨by unfold bef; omega, hu⟩⟩
theorem TrimI.imp {wS wD : World} {S D : List Nat} {xs : List Value} {l : List Msg} {dn dn' : Nat → Nat → Prop} (h : TrimI wS wD S D xs l dn) (hd : ∀ (i k : Nat) (m : Msg), l[i]? = some m → k < m.segs.length → dn' i k → dn i k) : TrimI wS wD S D xs l dn' := by
  refine ⟨h.len, h.cells, fun i m hm => ?_⟩
  obtain ⟨a, A, cap, hx, ha, hc, hs⟩ := h.at_ i m hm
  refine ⟨a, A, cap, hx, ha, hc, fun k s hk => ?_⟩
  obtain ⟨p, u, h1, h2, h3, h4, h5⟩ := hs k s hk
  exact ⟨p, u, h1, h2, h3, h4, h5.imp (fun h => h) (fun h => ⟨fun hn => h.1 (hd i k m hm (List.getElem?_eq_some_iff.1 hk).1 hn), h.2⟩)⟩
theorem cell_set {w : World} {g : Nat} {cur : Array Value} {ty : TypeId} {fr : Nat × Nat} (h : w.heap[g]? = some (.cells cur ty fr)) (off : Nat) (v : Value) (ho : off < cur.size) (g' o : Nat) :
    (w.setRow g (cur.toList.set off v).toArray).cell? ⟨g', o, none⟩ = if g' = g ∧ o = off then some v else w.cell? ⟨g', o, none⟩ := by
  by_cases hg : g' = g
  · subst hg
    rw [cell_in (setRow_heap w g' cur _ ty fr h), cell_in h]
    by_cases hj : o = off
    · subst hj
      rw [if_pos ⟨rfl, rfl⟩]
      simp only [List.getElem?_toArray]
      rw [List.getElem?_set_self (by simpa using ho)]
    · rw [if_neg (fun h => hj h.2)]
      simp [List.getElem?_set, Ne.symm hj]
  · rw [if_neg (fun h => hg h.1)]
    exact World.cell?_of_block (setRow_other w g g' _ hg)
theorem TrimI.step {wS wD wD' : World} {S D D' : List Nat} {xs : List Value} {l : List Msg} {I K : Nat} {m0 : Msg} {s0 : Sg} {a0 : Option Addr} {p0 : Nat × Nat} {c0 : Nat} {u0 v : Value} {cur : Array Value} {ty : TypeId}
    (h : TrimI wS wD S D xs l (bef I K)) (hm0 : l[I]? = some m0) (hs0 : m0.segs[K]? = some s0) (hx0 : cut1 xs 3 I = [.string m0.kind, .string m0.ref, .slice a0 m0.segs.length c0]) (ha0 : a0 = adr (some p0))
    (hu0 : wS.cell? ⟨p0.1, p0.2 + (K * 2 + 1), none⟩ = some u0) (hns : NS wD (fun g => g ∈ D) u0 (trimS s0.2) ∨ NS wD (fun g => g ∈ D) u0 s0.2)
    (hcur : wS.heap[p0.1]? = some (.cells cur ty (0, 0))) (hD : ∀ g, g ∈ D → wD'.heap[g]? = wD.heap[g]?) (hd : ∀ g, g ∈ D → g ∈ D') (hv : NS wD' (fun g => g ∈ D') v (trimS s0.2)) :
    TrimI (wS.setRow p0.1 (cur.toList.set (p0.2 + (K * 2 + 1)) v).toArray) wD' S D' xs l (bef I (K + 1)) := by
  have ho : p0.2 + (K * 2 + 1) < cur.size := by
    rw [cell_in hcur] at hu0
    exact (Array.getElem?_eq_some_iff.1 hu0).1
  refine ⟨h.len, fun g hg => ?_, fun i m hm => ?_⟩
  · by_cases hgp : g = p0.1
    · subst hgp
      exact ⟨_, ty, setRow_heap wS p0.1 cur _ ty _ hcur⟩
    · exact cells0_at (h.cells g hg) (setRow_other wS p0.1 g _ hgp)
  obtain ⟨a, A, cap, hx, ha, hc, hs⟩ := h.at_ i m hm
  refine ⟨a, A, cap, hx, ha, hc, fun k s hk => ?_⟩
  have hkl := (List.getElem?_eq_some_iff.1 hk).1
  obtain ⟨p, u, rfl, h2, h3, h4, h5⟩ := hs k s hk
  have hu0s : ∀ t, u0 ≠ .string t := fun t => by
    rcases hns with hns | hns
    · exact ns_nostr hns t
    · exact ns_nostr hns t
  have htag : ¬ (p.1 = p0.1 ∧ p.2 + k * 2 = p0.2 + (K * 2 + 1)) := by
    rintro ⟨e1, e2⟩
    rw [e1, e2, hu0] at h3
    exact hu0s _ (Option.some.inj h3)
  have hnm : ∀ {w : Value} {d : Dat}, NS wD (fun g => g ∈ D) w d → NS wD' (fun g => g ∈ D') w d := fun hh => ns_stays _ _ _ _ _ _ hh (fun g hg _ => hD g hg) hd
  by_cases hsame : p.1 = p0.1 ∧ p.2 + (k * 2 + 1) = p0.2 + (K * 2 + 1)
  · have huu : u = u0 := by
      rw [hsame.1, hsame.2, hu0] at h4
      exact (Option.some.inj h4).symm
    subst huu
    have ht : trimS s.2 = trimS s0.2 := by
      rcases h5 with h5 | ⟨-, h5⟩ <;> rcases hns with hns | hns
      · exact ns_func _ _ _ _ _ _ h5 hns
      · rw [← ns_func _ _ _ _ _ _ h5 hns, trimS_idem]
      · rw [ns_func _ _ _ _ _ _ h5 hns, trimS_idem]
      · rw [ns_func _ _ _ _ _ _ h5 hns]
    refine ⟨p, v, rfl, h2, ?_, ?_, .inl (by rw [ht]; exact hv)⟩
    · rw [cell_set hcur _ v ho, if_neg htag]
      exact h3
    · rw [cell_set hcur _ v ho, if_pos hsame]
  · refine ⟨p, u, rfl, h2, ?_, ?_, ?_⟩
    · rw [cell_set hcur _ v ho, if_neg htag]
      exact h3
    · rw [cell_set hcur _ v ho, if_neg hsame]
      exact h4
    rcases h5 with h5 | ⟨hnd, h5⟩
    · exact .inl (hnm h5)
    · refine .inr ⟨fun hb => hnd ?_, hnm h5⟩
      unfold bef at hb ⊢
      rcases hb with hb | ⟨rfl, hb⟩
      · exact .inl hb
      · refine .inr ⟨rfl, ?_⟩
        rcases Nat.lt_or_ge k K with hk1 | hk1
        · exact hk1
        · obtain rfl : k = K := by omega
          exfalso
          refine hsame ?_
          rw [hm0] at hm
          cases hm
          rw [hx0] at hx
          have e1 := (List.cons.inj (List.cons.inj (List.cons.inj hx).2).2).1
          injection e1 with e1 _ _
          rw [ha0, ha.at_ (by omega)] at e1
          rw [adr_inj e1]
          exact ⟨rfl, rfl⟩
theorem cut_two {ys : List Value} {n k : Nat} {a b : Value} (ha : ys[k * 2]? = some a) (hb : ys[k * 2 + 1]? = some b) : cut1 ys 2 k = [a, b] := by
  unfold cut1
  refine List.ext_getElem? fun j => ?_
  rw [List.getElem?_take]
  match j with
  | 0 => rw [if_pos (by omega), List.getElem?_drop, Nat.add_zero, ha]; rfl
  | 1 => rw [if_pos (by omega), List.getElem?_drop, hb]; rfl
  | j + 2 => rw [if_neg (by omega)]; rfl
theorem TrimI.done {wS wD : World} {S D : List Nat} {xs : List Value} {l : List Msg} (h : TrimI wS wD S D xs l (bef l.length 0)) : GotM wS wD S D l.length xs (l.map trimM) := by
  refine ⟨h.len, fun i m' hi hm' => ?_, h.cells⟩
  rw [List.getElem?_map] at hm'
  obtain ⟨m, hm, rfl⟩ := Option.map_eq_some_iff.1 hm'
  obtain ⟨a, A, cap, hx, ha, hc, hs⟩ := h.at_ i m hm
  have hsl : (trimM m).segs.length = m.segs.length := by simp [trimM]
  refine ⟨_, hx, ?_⟩
  have hR : ∃ ys, Ro wS A m.segs.length 2 ys ∧ (∀ p, A = some p → 0 < m.segs.length → p.1 ∈ S) ∧ ∀ (k : Nat) (s : Sg), m.segs[k]? = some s → SegR (RW wD D) wS (fun g => g ∈ S) (cut1 ys 2 k) (s.1, trimS s.2) := by
    rcases Nat.eq_zero_or_pos m.segs.length with h0 | h0
    · refine ⟨[], ⟨by rw [h0]; rfl, fun hn => by omega⟩, fun p _ hn => by omega, fun k s hk => ?_⟩
      have := (List.getElem?_eq_some_iff.1 hk).1
      omega
    · obtain ⟨s0, hs0⟩ : ∃ s, m.segs[0]? = some s := ⟨_, List.getElem?_eq_getElem h0⟩
      obtain ⟨p, u0, rfl, hpS, hp0, -⟩ := hs 0 s0 hs0
      have hat : ∀ (k : Nat) (s : Sg), m.segs[k]? = some s → ∃ u, wS.cell? ⟨p.1, p.2 + k * 2, none⟩ = some (.string s.1) ∧ wS.cell? ⟨p.1, p.2 + (k * 2 + 1), none⟩ = some u ∧ NS wD (fun g => g ∈ D) u (trimS s.2) := fun k s hk => by
        obtain ⟨q, u, hq, -, h3, h4, h5⟩ := hs k s hk
        cases hq
        refine ⟨u, h3, h4, ?_⟩
        rcases h5 with h5 | ⟨h5, -⟩
        · exact h5
        · exact absurd (.inl hi) h5
      have hys : ∀ j, j < m.segs.length * 2 → ∃ u, wS.cell? ⟨p.1, p.2 + j, none⟩ = some u := fun j hj => by
        obtain ⟨s, hk⟩ : ∃ s, m.segs[j / 2]? = some s := ⟨_, List.getElem?_eq_getElem (by omega)⟩
        obtain ⟨u, h3, h4, -⟩ := hat _ s hk
        rcases Nat.mod_two_eq_zero_or_one j with hj2 | hj2
        · rw [show j = j / 2 * 2 by omega]
          exact ⟨_, h3⟩
        · rw [show j = j / 2 * 2 + 1 by omega]
          exact ⟨_, h4⟩
      have hget : ∀ (j : Nat) (u : Value), j < m.segs.length * 2 → wS.cell? ⟨p.1, p.2 + j, none⟩ = some u → ((List.range (m.segs.length * 2)).map fun j => (wS.cell? ⟨p.1, p.2 + j, none⟩).getD undef)[j]? = some u := fun j u hj hu => by
        rw [List.getElem?_map, List.getElem?_range hj, Option.map_some, hu]
        rfl
      refine ⟨(List.range (m.segs.length * 2)).map fun j => (wS.cell? ⟨p.1, p.2 + j, none⟩).getD undef, ⟨by simp, fun _ => ⟨p, rfl, ?_, fun j u hu => ?_⟩⟩, fun q hq _ => by cases hq; exact hpS, fun k s hk => ?_⟩
      · obtain ⟨cur, ty, hcc⟩ := h.cells p.1 hpS
        exact (Array.getElem?_eq_some_iff.1 hcc).1
      · have hj : j < m.segs.length * 2 := by
          have := (List.getElem?_eq_some_iff.1 hu).1
          simpa using this
        obtain ⟨u', hu'⟩ := hys j hj
        rw [hget j u' hj hu'] at hu
        cases hu
        exact hu'
      · have hkl := (List.getElem?_eq_some_iff.1 hk).1
        obtain ⟨u, h3, h4, h5⟩ := hat k s hk
        exact ⟨u, cut_two (n := m.segs.length) (hget _ _ (by omega) h3) (hget _ _ (by omega) h4), h5⟩
  obtain ⟨ys, h1, h2, h3⟩ := hR
  refine ⟨a, A, cap, ys, by rw [hsl], by rw [hsl]; exact ha, by rw [hsl]; exact hc, by rw [hsl]; exact h1, fun p hp hn => h2 p hp (by omega), fun k s' hs' => ?_⟩
  have hs2 : (m.segs.map fun s => (s.1, trimS s.2))[k]? = some s' := hs'
  rw [List.getElem?_map] at hs2
  obtain ⟨s, hk, rfl⟩ := Option.map_eq_some_iff.1 hs2
  exact h3 k s hk
/-- a value is written over another one in a row of one's own -/
theorem row_store {cx : Cx} {H : Heap} {T d : Nat} {wS : World} {S : List Nat} {a : Addr} {g off : Nat} {cur : Array Value} {ty : TypeId} {v : Value} {K : SV → Heap → Prop} (ha : a = ⟨g, off, none⟩) (hT : ∃ j, tfind cx.T T = some j ∧ j.size = 1) (h1 : one (.v v) = true) (hf : hfind H d = some (.own S (Frz wS S))) (hg : g ∈ S)
    (hcur : wS.heap[g]? = some (.cells cur ty (0, 0))) (ho : off < cur.size) (hk : K (.v undef) ((d, .own S (Frz (wS.setRow g (cur.toList.set off v).toArray) S)) :: hdel H d)) : RawStore cx H T (.v (.pointer (some a))) (.v v) K := by
  subst ha
  refine ⟨.inr ⟨g, off, d, S, _, Frz (wS.setRow g (cur.toList.set off v).toArray) S, rfl, hT, h1, hf, hg, fun w hw => ⟨cur, ty, (frz_of hf hw g hg).trans hcur, ho⟩, fun w cur2 ty2 hw hc2 ho2 g2 hg2 => ?_, fun w w' hw hk g hg => (hk g hg).trans (hw g hg), hk⟩⟩
  have hc3 := (frz_of hf hw g hg).trans hcur
  rw [hc3] at hc2
  cases hc2
  by_cases hgp : g2 = g
  · subst hgp
    rw [setRow_heap w g2 _ _ _ _ hc3, setRow_heap wS g2 _ _ _ _ hcur]
    rfl
  · rw [setRow_other w g g2 _ hgp, setRow_other wS g g2 _ hgp]
    exact frz_of hf hw g2 hg2
end
section
open Go Sat Go.RowKit Go.PlainAid
theorem trimS_fewS {d : Dat} (h : FewS d) : FewS (trimS d) := by
  refine ⟨Nat.le_trans (Nat.mul_le_mul_right _ (trimS_len d)) h.top, fun e he => ?_⟩
  unfold trimS at he
  obtain ⟨e0, h0, rfl⟩ := List.mem_map.1 (List.mem_of_mem_take he)
  unfold trimE
  split
  · simp
  · refine Nat.le_trans (Nat.mul_le_mul_right _ ?_) (h.el e0 h0)
    rw [List.length_take]
    omega
theorem row_cz {cx : Cx} {p : Nat × Nat} {n z d e cap : Nat} {xs : List Value} {k i j : Nat} {cs : List Value} {u : Value} (hc : cut1 xs z i = cs) (hl : cs.length = z) (hu : cs[j]? = some u) (hk : k = i * z) (hi : i < n) {H : Heap} (hf : hfind H d = some (.row (some p) e z n cap xs)) : ∀ w, Holds cx H w → w.cell? ((adAt (adr (some p)) k).add j) = some u := by
  intro w hw
  have h := ro_of_row hw hf
  have hj : j < z := by rw [← hl]; exact (List.getElem?_eq_some_iff.1 hu).1
  have hx : xs[k + j]? = some u := by rw [hk, cut1_at hc (by omega), hu]
  obtain ⟨q, hq, hlt, hcell⟩ := h.2 (by omega)
  cases hq
  rw [← hcell (k + j) u hx, ad_some, add_mk]
  rw [Nat.add_assoc]
theorem frz_cell {cx : Cx} {H : Heap} {d : Nat} {wS : World} {S : List Nat} {g o : Nat} {a : Addr} {u : Value} (hg : g ∈ S) (h : wS.cell? ⟨g, o, none⟩ = some u) (ha : a = ⟨g, o, none⟩) (hf : hfind H d = some (.own S (Frz wS S))) : ∀ w, Holds cx H w → w.cell? a = some u := by
  intro w hw
  rw [ha, ← h]
  exact World.cell?_of_block (frz_of hf hw g hg)
theorem ad_cell (p : Nat × Nat) (k j : Nat) : (adAt (adr (some p)) (mulS (k : Int).toNat 2)).add j = ⟨p.1, p.2 + (k * 2 + j), none⟩ := by
  rw [kz, ad_some, add_mk, Nat.add_assoc]
set_option maxRecDepth 100000 in
set_option maxHeartbeats 16000000 in
theorem trimmed_any (l : List Msg) (v : Value) (w : World) (hA : NMsgs NSA w (fun _ => True) v l) (hf : FewO l) :
    Calls Tryd.prog 21 #[v] w (Gives id (fun w B v => NMsgs NS w B v (l.map trimM)) w) := by
  suffices h : Calls Tryd.prog 21 #[v] w (GivesM 50 (l.map trimM) w) from h.mono fun _ _ h => gives_of_M h
  have hA0 := hA
  obtain ⟨A', A, cA, xs, rfl, aA, hcA, hrA, -, hxA⟩ := hA
  refine calls_sat (cx := Tryd.cx 43 [8, 9] [] [] w) (Tryd.ok ..) Tryd.func21 rfl [.v (.slice A' l.length cA)] rfl (by show 1 ≤ 43; omega) [] (holds_nil (Nat.le_refl _)) ?_
  have hmax : l.length ≤ 9223372036854775807 := Nat.le_trans (Nat.le_trans hcA.1 hcA.2) (by decide)
  repeat' ((conv => whnf); first | refine walk (Tryd.ok ..) ?_ | (refine Cnd.mk (fun h => ?_) (fun h => ?_) <;> (first | exact cndT h (by (try dsimp only); omega) | exact cndF h (by (try dsimp only); omega) | (exfalso; simp at h; omega) | simp at h | skip)) | refine kp ?_ ?_ | refine tw ?_ ?_ | refine appnil rfl ?_ | refine rawnil rfl ?_ | exact trivial | refine side2 ?_ | refine sideL2 ?_ | refine Or.inr ?_ | refine sat_drawH (Tryd.ok ..) (by kernel_rfl) ?_ | refine xi _ (And.intro rfl rfl) ?_ | refine xi _ (fun _ => And.intro rfl rfl) ?_ | refine xi _ rfl ?_)
  (conv => whnf)
  refine called_M 80 977 979 (T := 50) (l := l) (fun A cap => .v (.slice (adr A) l.length cap)) (fun _ _ => rfl) (fun w' hh => by exact ownM_row l _ w' (lent_nest (nmsgs_stays nsa_stays) rfl rfl hA0 hh) hf) ?_
  intro w0 A3 cap3 xs3 S D hgot hsome
  have hT := TrimI.init hgot
  clear hgot
  repeat' ((conv => whnf); first | refine walk (Tryd.ok ..) ?_ | (refine Cnd.mk (fun h => ?_) (fun h => ?_) <;> (first | exact cndT h (by (try dsimp only); omega) | exact cndF h (by (try dsimp only); omega) | (exfalso; simp at h; omega) | simp at h | skip)) | refine kp ?_ ?_ | refine tw ?_ ?_ | refine appnil rfl ?_ | refine rawnil rfl ?_ | exact trivial | refine side2 ?_ | refine sideL2 ?_ | refine Or.inr ?_ | refine sat_drawH (Tryd.ok ..) (by kernel_rfl) ?_ | refine xi _ (And.intro rfl rfl) ?_ | refine xi _ (fun _ => And.intro rfl rfl) ?_ | refine xi _ rfl ?_)
  refine sat_loop (Tryd.ok ..) (α := Nat × World × World × List Nat) (fun t => ([(3, .yes, .v (.slice (adr A3) l.length cap3)), (9, .yes, .v (.int .i64 l.length)), (10, .yes, .v (.int .i64 t.1))], [(80, .row A3 50 3 l.length cap3 xs3), (977, .own S (Frz t.2.1 S)), (979, .own t.2.2.2 (Frz t.2.2.1 t.2.2.2))]))
    (fun t => t.1 ≤ l.length ∧ TrimI t.2.1 t.2.2.1 S t.2.2.2 xs3 l (bef t.1 0)) (fun t => l.length - t.1) (fun _ => rfl) ?_ ?_
  · refine ⟨(0, w0, w0, D), ⟨Nat.zero_le _, hT⟩, ?_, ?_, rfl⟩
    all_goals ((repeat' (first | exact trivial | exact rfl | refine And.intro ?_ ?_)) <;> (try (conv => whnf)) <;> (try simp only [SV.real, SV.r2, SV.r1]))
  clear hT
  rintro ⟨k, wS, wD, D⟩ ⟨hk, hT⟩
  dsimp only at hk hT ⊢
  by_cases hk1 : k < l.length
  case neg =>
    obtain rfl : k = l.length := by omega
    repeat' ((conv => whnf); first | refine walk (Tryd.ok ..) ?_ | (refine Cnd.mk (fun h => ?_) (fun h => ?_) <;> (first | exact cndT h (by (try dsimp only); omega) | exact cndF h (by (try dsimp only); omega) | (exfalso; simp at h; omega) | simp at h | skip)) | refine kp ?_ ?_ | refine tw ?_ ?_ | refine appnil rfl ?_ | refine rawnil rfl ?_ | exact trivial | refine side2 ?_ | refine sideL2 ?_ | refine Or.inr ?_ | refine sat_drawH (Tryd.ok ..) (by kernel_rfl) ?_ | refine xi _ (And.intro rfl rfl) ?_ | refine xi _ (fun _ => And.intro rfl rfl) ?_ | refine xi _ rfl ?_)
    have hd := hT.done
    exact done_M rfl rfl 80 977 979 (by decide) (by decide) (by decide) (A := A3) (cap := cap3) (xs := xs3) (S := S) (D := D) (wS := wS) (wD := wD) rfl rfl rfl (by simp) hd rfl
  obtain ⟨m, hm⟩ : ∃ s, l[k]? = some s := ⟨_, List.getElem?_eq_getElem hk1⟩
  obtain ⟨am, Am, cm, hcm, aAm, hcmm, hsm⟩ := hT.at_ k m hm
  have hmaxm : m.segs.length ≤ 9223372036854775807 := Nat.le_trans (Nat.le_trans hcmm.1 hcmm.2) (by decide)
  obtain ⟨htopm, hfm⟩ := hf.seg m (List.mem_of_getElem? hm)
  obtain ⟨p, rfl⟩ := hsome (by omega)
  repeat' ((conv => whnf); first | refine walk (Tryd.ok ..) ?_ | (refine Cnd.mk (fun h => ?_) (fun h => ?_) <;> (first | exact cndT h (by (try dsimp only); omega) | exact cndF h (by (try dsimp only); omega) | (exfalso; simp at h; omega) | simp at h | skip)) | refine kp ?_ ?_ | refine tw ?_ ?_ | refine appnil rfl ?_ | refine rawnil rfl ?_ | exact trivial | refine side2 ?_ | refine sideL2 ?_ | refine Or.inr ?_ | refine sat_drawH (Tryd.ok ..) (by kernel_rfl) ?_ | refine xi _ (And.intro rfl rfl) ?_ | refine xi _ (fun _ => And.intro rfl rfl) ?_ | refine xi _ rfl ?_ | refine xi _ (fun _ => (row_cz (d := 80) (j := 2) hcm rfl rfl (kz k 3) hk1 rfl)) ?_ | refine xi _ (row_cz (d := 80) (j := 2) hcm rfl rfl (kz k 3) hk1 rfl) ?_)
  refine sat_loop (Tryd.ok ..) (α := Nat × World × World × List Nat) (fun t => ([(3, .yes, .v (.slice (adr (some p)) l.length cap3)), (4, .yes, .v (.int .i64 k)), (9, .yes, .v (.int .i64 l.length)), (10, .yes, .v (.int .i64 k)), (18, .yes, .v (.int .i64 m.segs.length)), (19, .yes, .v (.int .i64 t.1))], [(80, .row (some p) 50 3 l.length cap3 xs3), (977, .own S (Frz t.2.1 S)), (979, .own t.2.2.2 (Frz t.2.2.1 t.2.2.2))]))
    (fun t => t.1 ≤ m.segs.length ∧ TrimI t.2.1 t.2.2.1 S t.2.2.2 xs3 l (bef k t.1)) (fun t => m.segs.length - t.1) (fun _ => rfl) ?_ ?_
  · refine ⟨(0, wS, wD, D), ⟨Nat.zero_le _, hT⟩, ?_, ?_, rfl⟩
    all_goals ((repeat' (first | exact trivial | exact rfl | refine And.intro ?_ ?_)) <;> (try (conv => whnf)) <;> (try simp only [SV.real, SV.r2, SV.r1]))
  clear hT hsm
  rintro ⟨j, wS, wD, D⟩ ⟨hj, hT⟩
  dsimp only at hj hT ⊢
  by_cases hj1 : j < m.segs.length
  case neg =>
    obtain rfl : j = m.segs.length := by omega
    repeat' ((conv => whnf); first | refine walk (Tryd.ok ..) ?_ | (refine Cnd.mk (fun h => ?_) (fun h => ?_) <;> (first | exact cndT h (by (try dsimp only); omega) | exact cndF h (by (try dsimp only); omega) | (exfalso; simp at h; omega) | simp at h | skip)) | refine kp ?_ ?_ | refine tw ?_ ?_ | refine appnil rfl ?_ | refine rawnil rfl ?_ | exact trivial | refine side2 ?_ | refine sideL2 ?_ | refine Or.inr ?_ | refine sat_drawH (Tryd.ok ..) (by kernel_rfl) ?_ | refine xi _ (And.intro rfl rfl) ?_ | refine xi _ (fun _ => And.intro rfl rfl) ?_ | refine xi _ rfl ?_)
    refine ⟨(k + 1, wS, wD, D), ⟨⟨hk1, hT.imp fun i q m' hm' hq hb => ?_⟩, by show l.length - (k + 1) < l.length - k; omega⟩, ?_, ?_, rfl⟩
    · unfold bef at hb ⊢
      rcases hb with hb | ⟨_, hb⟩
      · rcases Nat.lt_or_ge i k with h | h
        · exact .inl h
        · obtain rfl : i = k := by omega
          rw [hm] at hm'
          cases hm'
          exact .inr ⟨rfl, hq⟩
      · omega
    all_goals ((repeat' (first | exact trivial | exact rfl | refine And.intro ?_ ?_)) <;> (try (conv => whnf)) <;> (try simp only [SV.real, SV.r2, SV.r1]))
  obtain ⟨s, hs⟩ : ∃ s, m.segs[j]? = some s := ⟨_, List.getElem?_eq_getElem hj1⟩
  obtain ⟨am2, Am2, cm2, hcm2, aAm2, hcmm2, hsm⟩ := hT.at_ k m hm
  have he2 : Value.slice am m.segs.length cm = Value.slice am2 m.segs.length cm2 := by
    rw [hcm] at hcm2
    exact (List.cons.inj (List.cons.inj (List.cons.inj hcm2).2).2).1
  injection he2 with he2 _ _
  rw [← he2] at aAm2
  obtain ⟨q, u, rfl, hqS, hq0, hq1, hd⟩ := hsm j s hs
  have haq : am = adr (some q) := aAm2.at_ (by omega)
  have hcm0 := hcm
  subst haq
  have hfs := hfm s (List.mem_of_getElem? hs)
  obtain ⟨dd, hdd, hdt, hdf⟩ : ∃ dd, NS wD (fun g => g ∈ D) u dd ∧ trimS dd = trimS s.2 ∧ FewS dd := by
    rcases hd with hd | ⟨-, hd⟩
    · exact ⟨_, hd, trimS_idem _, trimS_fewS hfs⟩
    · exact ⟨_, hd, rfl, hfs⟩
  have hns : NS wD (fun g => g ∈ D) u (trimS s.2) ∨ NS wD (fun g => g ∈ D) u s.2 := hd.imp (fun h => h) (fun h => h.2)
  obtain ⟨au, nu, cu, rfl⟩ := ns_sl _ _ _ _ hdd
  obtain ⟨cur, ty, hcur⟩ := hT.cells q.1 hqS
  have hoff : q.2 + (j * 2 + 1) < cur.size := by
    rw [cell_in hcur] at hq1
    exact (Array.getElem?_eq_some_iff.1 hq1).1
  repeat' ((conv => whnf); first | refine walk (Tryd.ok ..) ?_ | (refine Cnd.mk (fun h => ?_) (fun h => ?_) <;> (first | exact cndT h (by (try dsimp only); omega) | exact cndF h (by (try dsimp only); omega) | (exfalso; simp at h; omega) | simp at h | skip)) | refine kp ?_ ?_ | refine tw ?_ ?_ | refine appnil rfl ?_ | refine rawnil rfl ?_ | exact trivial | refine side2 ?_ | refine sideL2 ?_ | refine Or.inr ?_ | refine xi _ (And.intro rfl rfl) ?_ | refine xi _ (fun _ => And.intro rfl rfl) ?_ | refine xi _ rfl ?_)
  refine sat_draw (Tryd.ok ..) [14] [(80, .row (some p) 50 3 l.length cap3 xs3)] (by kernel_rfl) (fun w hw => hw.sub ?_) ?_
  · exact hsub_of rfl
  repeat' ((conv => whnf); first | refine walk (Tryd.ok ..) ?_ | (refine Cnd.mk (fun h => ?_) (fun h => ?_) <;> (first | exact cndT h (by (try dsimp only); omega) | exact cndF h (by (try dsimp only); omega) | (exfalso; simp at h; omega) | simp at h | skip)) | refine kp ?_ ?_ | refine tw ?_ ?_ | refine appnil rfl ?_ | refine rawnil rfl ?_ | exact trivial | refine side2 ?_ | refine sideL2 ?_ | refine Or.inr ?_ | refine xi _ (And.intro rfl rfl) ?_ | refine xi _ (fun _ => And.intro rfl rfl) ?_ | refine xi _ rfl ?_ | refine xi _ (fun _ => (row_cz (d := 80) (j := 2) hcm rfl rfl (kz k 3) hk1 rfl)) ?_ | refine xi _ (row_cz (d := 80) (j := 2) hcm rfl rfl (kz k 3) hk1 rfl) ?_ | refine xi _ (fun _ => (frz_cell (d := 977) hqS hq1 (ad_cell q j 1) rfl)) ?_ | refine xi _ (frz_cell (d := 977) hqS hq1 (ad_cell q j 1) rfl) ?_)
  (conv => whnf)
  refine called_nest 903 (mk := id) (Q := fun w B v => NS w B v (trimS dd)) (fun v => .v v) (fun _ => rfl) (fun w' hh => by exact trim_any dd _ w' (ns_arg (frz_nest ns_stays hdd (d := 979) rfl hh)) hdf) ?_
  intro w3 gs3 v3 h3
  obtain ⟨a3, n3, c3, rfl⟩ := ns_sl _ _ _ _ h3
  rw [hdt] at h3
  repeat' ((conv => whnf); first | refine walk (Tryd.ok ..) ?_ | (refine Cnd.mk (fun h => ?_) (fun h => ?_) <;> (first | exact cndT h (by (try dsimp only); omega) | exact cndF h (by (try dsimp only); omega) | (exfalso; simp at h; omega) | simp at h | skip)) | refine kp ?_ ?_ | refine tw ?_ ?_ | refine appnil rfl ?_ | refine rawnil rfl ?_ | exact trivial | refine side2 ?_ | refine sideL2 ?_ | refine Or.inr ?_ | refine xi _ (And.intro rfl rfl) ?_ | refine xi _ (fun _ => And.intro rfl rfl) ?_ | refine xi _ rfl ?_)
  (conv => whnf)
  refine row_store (d := 977) (ad_cell q j 1) ⟨_, rfl, rfl⟩ rfl rfl hqS hcur hoff ?_
  repeat' ((conv => whnf); first | refine walk (Tryd.ok ..) ?_ | (refine Cnd.mk (fun h => ?_) (fun h => ?_) <;> (first | exact cndT h (by (try dsimp only); omega) | exact cndF h (by (try dsimp only); omega) | (exfalso; simp at h; omega) | simp at h | skip)) | refine kp ?_ ?_ | refine tw ?_ ?_ | refine appnil rfl ?_ | refine rawnil rfl ?_ | exact trivial | refine side2 ?_ | refine sideL2 ?_ | refine Or.inr ?_ | refine xi _ (And.intro rfl rfl) ?_ | refine xi _ (fun _ => And.intro rfl rfl) ?_ | refine xi _ rfl ?_)
  refine sat_fuse 979 [979, 903] rfl fun w4 hw4 => ?_
  have hT2 := hT.step hm hs hcm rfl hq1 hns hcur (frz_of (d := 979) (gs := D) rfl hw4) (own_sub hw4 [979, 903] 979 (D := D) (w0 := wD) rfl rfl) (frz_nest' ns_stays h3 (d := 903) rfl hw4 (own_sub hw4 [979, 903] 903 (D := gs3) (w0 := w3) rfl rfl))
  refine sat_ops (Tryd.ok ..) ?_
  repeat' ((conv => whnf); first | refine walk (Tryd.ok ..) ?_ | (refine Cnd.mk (fun h => ?_) (fun h => ?_) <;> (first | exact cndT h (by (try dsimp only); omega) | exact cndF h (by (try dsimp only); omega) | (exfalso; simp at h; omega) | simp at h | skip)) | refine kp ?_ ?_ | refine tw ?_ ?_ | refine appnil rfl ?_ | refine rawnil rfl ?_ | exact trivial | refine side2 ?_ | refine sideL2 ?_ | refine Or.inr ?_ | refine sat_drawH (Tryd.ok ..) (by kernel_rfl) ?_ | refine xi _ (And.intro rfl rfl) ?_ | refine xi _ (fun _ => And.intro rfl rfl) ?_ | refine xi _ rfl ?_)
  refine ⟨(j + 1, _, w4, _), ⟨⟨hj1, hT2⟩, by show m.segs.length - (j + 1) < m.segs.length - j; omega⟩, ?_, ?_, rfl⟩
  all_goals ((repeat' (first | exact trivial | exact rfl | refine And.intro ?_ ?_)) <;> (try (conv => whnf)) <;> (try simp only [SV.real, SV.r2, SV.r1]))
end
section
open Go Sat Go.RowKit Go.PlainAid
set_option maxRecDepth 100000 in
set_option maxHeartbeats 16000000 in
theorem rightL_any (l : List Msg) (v : Value) (w : World) (hA : NMsgs NSA w (fun _ => True) v l) (hf : ∀ m ∈ l, FewM m) :
    Calls Tryd.prog 18 #[v] w fun e w' => e = .returned (.bool (okFrom [] l)) ∧ Below w.heap.size w w' := by
  obtain ⟨A', A, cA, xs, rfl, aA, hcA, hrA, -, hxA⟩ := hA
  refine calls_sat (cx := Tryd.cx 33 [] [] [] w) (Tryd.ok ..) Tryd.func18 rfl [.v (.slice A' l.length cA)] rfl (by show 1 ≤ 33; omega) [] (holds_nil (Nat.le_refl _)) ?_
  have hmax : l.length ≤ 9223372036854775807 := Nat.le_trans (Nat.le_trans hcA.1 hcA.2) (by decide)
  repeat' ((conv => whnf); first | refine walk (Tryd.ok ..) ?_ | (refine Cnd.mk (fun h => ?_) (fun h => ?_) <;> (first | exact cndT h (by (try dsimp only); omega) | exact cndF h (by (try dsimp only); omega) | (exfalso; simp at h; omega) | simp at h | skip)) | refine kp ?_ ?_ | refine tw ?_ ?_ | refine appnil rfl ?_ | refine rawnil rfl ?_ | exact trivial | refine side2 ?_ | refine sideL2 ?_ | refine Or.inr ?_ | refine sat_drawH (Tryd.ok ..) (by kernel_rfl) ?_ | refine xi _ (And.intro rfl rfl) ?_ | refine xi _ (fun _ => And.intro rfl rfl) ?_ | refine xi _ rfl ?_)
  refine sat_loop (Tryd.ok ..) (α := Nat) (fun i => ([(0, .yes, .v (.slice A' l.length cA)), (3, .yes, .v (.int .i64 i))], []))
    (fun i => i ≤ l.length ∧ okFrom (((l.take i).map Msg.ref).reverse) (l.drop i) = okFrom [] l) (fun i => l.length - i) (fun _ => rfl) ?_ ?_
  · refine ⟨0, ⟨Nat.zero_le _, rfl⟩, ?_, ?_, rfl⟩
    all_goals ((repeat' (first | exact trivial | exact rfl | refine And.intro ?_ ?_)) <;> (try (conv => whnf)) <;> (try simp only [SV.real, SV.r2, SV.r1]))
  rintro i ⟨hi, hok⟩
  by_cases hi1 : i < l.length
  case neg =>
    obtain rfl : i = l.length := by omega
    rw [List.drop_length] at hok
    rw [← hok]
    repeat' ((conv => whnf); first | refine walk (Tryd.ok ..) ?_ | (refine Cnd.mk (fun h => ?_) (fun h => ?_) <;> (first | exact cndT h (by (try dsimp only); omega) | exact cndF h (by (try dsimp only); omega) | (exfalso; simp at h; omega) | simp at h | skip)) | refine kp ?_ ?_ | refine tw ?_ ?_ | refine appnil rfl ?_ | refine rawnil rfl ?_ | exact trivial | refine side2 ?_ | refine sideL2 ?_ | refine Or.inr ?_ | refine sat_drawH (Tryd.ok ..) (by kernel_rfl) ?_ | refine xi _ (And.intro rfl rfl) ?_ | refine xi _ (fun _ => And.intro rfl rfl) ?_ | refine xi _ rfl ?_)
    exact done_pure rfl rfl rfl
  obtain ⟨m, hm⟩ : ∃ s, l[i]? = some s := ⟨_, List.getElem?_eq_getElem hi1⟩
  obtain ⟨vm, hcm, hvm⟩ := hxA i m hm
  obtain ⟨p, rfl, rfl⟩ := some_ofz aA hrA (by omega)
  have hvm0 := hvm
  obtain ⟨am, Am, cm, xm, rfl, aAm, hcmm, hrm, -, hxm⟩ := hvm0
  have hfm := hf m (List.mem_of_getElem? hm)
  have hdrop : l.drop i = m :: l.drop (i + 1) := by
    rw [List.drop_eq_getElem_cons hi1]
    congr 1
    exact (List.getElem?_eq_some_iff.1 hm).2
  rw [hdrop, okFrom] at hok
  repeat' ((conv => whnf); first | refine walk (Tryd.ok ..) ?_ | (refine Cnd.mk (fun h => ?_) (fun h => ?_) <;> (first | exact cndT h (by (try dsimp only); omega) | exact cndF h (by (try dsimp only); omega) | (exfalso; simp at h; omega) | simp at h | skip)) | refine kp ?_ ?_ | refine tw ?_ ?_ | refine appnil rfl ?_ | refine rawnil rfl ?_ | exact trivial | refine side2 ?_ | refine sideL2 ?_ | refine Or.inr ?_ | refine sat_drawH (Tryd.ok ..) (by kernel_rfl) ?_ | refine xi _ (And.intro rfl rfl) ?_ | refine xi _ (fun _ => And.intro rfl rfl) ?_ | refine xi _ rfl ?_ | refine xi _ (fun _ => (ro_aggz rfl rfl hrA hcm rfl (kz i 3) hi1)) ?_ | refine xi _ (ro_aggz rfl rfl hrA hcm rfl (kz i 3) hi1) ?_)
  (conv => whnf)
  refine called_at (.v (.bool (rightM m))) rfl (fun w' hh => by exact rightm_any m _ w' (lent_nest (nsegs_stays nsa_stays) rfl rfl hvm hh) hfm) ?_
  cases hr : rightM m with
  | false =>
    rw [hr] at hok
    rw [← hok]
    repeat' ((conv => whnf); first | refine walk (Tryd.ok ..) ?_ | (refine Cnd.mk (fun h => ?_) (fun h => ?_) <;> (first | exact cndT h (by (try dsimp only); omega) | exact cndF h (by (try dsimp only); omega) | (exfalso; simp at h; omega) | simp at h | skip)) | refine kp ?_ ?_ | refine tw ?_ ?_ | refine appnil rfl ?_ | refine rawnil rfl ?_ | exact trivial | refine side2 ?_ | refine sideL2 ?_ | refine Or.inr ?_ | refine sat_drawH (Tryd.ok ..) (by kernel_rfl) ?_ | refine xi _ (And.intro rfl rfl) ?_ | refine xi _ (fun _ => And.intro rfl rfl) ?_ | refine xi _ rfl ?_)
    exact done_pure rfl rfl rfl
  | true =>
  rw [hr] at hok
  repeat' ((conv => whnf); first | refine walk (Tryd.ok ..) ?_ | (refine Cnd.mk (fun h => ?_) (fun h => ?_) <;> (first | exact cndT h (by (try dsimp only); omega) | exact cndF h (by (try dsimp only); omega) | (exfalso; simp at h; omega) | simp at h | skip)) | refine kp ?_ ?_ | refine tw ?_ ?_ | refine appnil rfl ?_ | refine rawnil rfl ?_ | exact trivial | refine side2 ?_ | refine sideL2 ?_ | refine Or.inr ?_ | refine sat_drawH (Tryd.ok ..) (by kernel_rfl) ?_ | refine xi _ (And.intro rfl rfl) ?_ | refine xi _ (fun _ => And.intro rfl rfl) ?_ | refine xi _ rfl ?_)
  refine sat_loop (Tryd.ok ..) (α := Nat) (fun k => ([(0, .yes, .v (.slice (adr (some p)) l.length cA)), (3, .yes, .v (.int .i64 i)), (4, .yes, .v (.int .i64 k))], []))
    (fun k => k ≤ i ∧ ∀ (j : Nat) (x : Msg), j < k → l[j]? = some x → x.ref ≠ m.ref) (fun k => i - k) (fun _ => rfl) ?_ ?_
  · refine ⟨0, ⟨Nat.zero_le _, fun j x h => by omega⟩, ?_, ?_, rfl⟩
    all_goals ((repeat' (first | exact trivial | exact rfl | refine And.intro ?_ ?_)) <;> (try (conv => whnf)) <;> (try simp only [SV.real, SV.r2, SV.r1]))
  rintro k ⟨hk, hne⟩
  by_cases hk1 : k < i
  case neg =>
    obtain rfl : k = i := by omega
    have hnot : m.ref ∉ ((l.take k).map Msg.ref).reverse := by
      intro h
      rw [List.mem_reverse] at h
      obtain ⟨x, hx, hxr⟩ := List.mem_map.1 h
      obtain ⟨j, hj, hjx⟩ := List.getElem_of_mem hx
      rw [List.length_take] at hj
      rw [List.getElem_take] at hjx
      exact hne j x (by omega) (by rw [List.getElem?_eq_getElem (by omega), hjx]) hxr
    rw [decide_eq_false hnot] at hok
    have hok2 : okFrom (((l.take (k + 1)).map Msg.ref).reverse) (l.drop (k + 1)) = okFrom [] l := by
      rw [← hok, List.take_add_one, hm]
      simp
    repeat' ((conv => whnf); first | refine walk (Tryd.ok ..) ?_ | (refine Cnd.mk (fun h => ?_) (fun h => ?_) <;> (first | exact cndT h (by (try dsimp only); omega) | exact cndF h (by (try dsimp only); omega) | (exfalso; simp at h; omega) | simp at h | skip)) | refine kp ?_ ?_ | refine tw ?_ ?_ | refine appnil rfl ?_ | refine rawnil rfl ?_ | exact trivial | refine side2 ?_ | refine sideL2 ?_ | refine Or.inr ?_ | refine sat_drawH (Tryd.ok ..) (by kernel_rfl) ?_ | refine xi _ (And.intro rfl rfl) ?_ | refine xi _ (fun _ => And.intro rfl rfl) ?_ | refine xi _ rfl ?_)
    refine ⟨k + 1, ⟨⟨hi1, hok2⟩, by omega⟩, ?_, ?_, rfl⟩
    all_goals ((repeat' (first | exact trivial | exact rfl | refine And.intro ?_ ?_)) <;> (try (conv => whnf)) <;> (try simp only [SV.real, SV.r2, SV.r1]))
  obtain ⟨x, hx⟩ : ∃ s, l[k]? = some s := ⟨_, List.getElem?_eq_getElem (show k < l.length by omega)⟩
  obtain ⟨vx, hcx, -⟩ := hxA k x hx
  repeat' ((conv => whnf); first | refine walk (Tryd.ok ..) ?_ | (refine Cnd.mk (fun h => ?_) (fun h => ?_) <;> (first | exact cndT h (by (try dsimp only); omega) | exact cndF h (by (try dsimp only); omega) | (exfalso; simp at h; omega) | simp at h | skip)) | refine kp ?_ ?_ | refine tw ?_ ?_ | refine appnil rfl ?_ | refine rawnil rfl ?_ | exact trivial | refine side2 ?_ | refine sideL2 ?_ | refine Or.inr ?_ | refine sat_drawH (Tryd.ok ..) (by kernel_rfl) ?_ | refine xi _ (And.intro rfl rfl) ?_ | refine xi _ (fun _ => And.intro rfl rfl) ?_ | refine xi _ rfl ?_ | refine xi _ (fun _ => (ro_cellz (j := 1) rfl rfl hrA hcx rfl rfl (kz k 3) (by omega))) ?_ | refine xi _ (ro_cellz (j := 1) rfl rfl hrA hcx rfl rfl (kz k 3) (by omega)) ?_ | refine xi _ (fun _ => (ro_cellz (j := 1) rfl rfl hrA hcm rfl rfl (kz i 3) hi1)) ?_ | refine xi _ (ro_cellz (j := 1) rfl rfl hrA hcm rfl rfl (kz i 3) hi1) ?_)
  · rename_i hxm
    have hin : m.ref ∈ ((l.take i).map Msg.ref).reverse := by
      rw [List.mem_reverse]
      refine List.mem_map.2 ⟨x, ?_, by assumption⟩
      exact List.mem_of_getElem? (i := k) (by rw [List.getElem?_take, if_pos hk1, hx])
    rw [decide_eq_true hin] at hok
    rw [← hok]
    exact done_pure rfl rfl rfl
  · refine ⟨k + 1, ⟨⟨hk1, fun j y hj hy => ?_⟩, by omega⟩, ?_, ?_, rfl⟩
    · rcases Nat.lt_or_ge j k with h1 | h1
      · exact hne j y h1 hy
      · obtain rfl : j = k := by omega
        rw [hx] at hy
        cases hy
        assumption
    all_goals ((repeat' (first | exact trivial | exact rfl | refine And.intro ?_ ?_)) <;> (try (conv => whnf)) <;> (try simp only [SV.real, SV.r2, SV.r1]))
end
end Go.Proofs.YtdohcglpcgahaaaDoor
