/-
  The reference's alone, walked, and what its step makes, plain. The reference's step, walked. The walk of the reference's Read.
-/
import Derived.Test.YtdohcglpcgahaaaGreatDoorSSX
import Derived.Test.YtdohcglpcgahaaaGreatDoorNX
import Derived.Test.YtdohcglpcgahaaaGreatDoorTP
import Derived.Test.YtdohcglpcgahaaaGreatDoorVW
import Derived.Test.YtdohcglpcgahaaaGreatDoorSMX
import Derived.Test.YtdohcglpcgahaaaGreatDoorTRX
import Derived.Test.YtdohcglpcgahaaaGreatDoorVRA
set_option linter.unusedSimpArgs false
set_option linter.unusedVariables false
namespace Go.Proofs.YtdohcglpcgahaaaGreatDoor
section
open Go Sat Go.RowKit Go.PlainAid
def aloneS (d : Dat) (i : Nat) : ByteArray × Bool := match d[i]? with
  | some [s] => (s, true)
  | _ => (emp, false)
theorem alone_no {d : Dat} {i : Nat} (h : ∀ s, d[i]? ≠ some [s]) : aloneS d i = (emp, false) := by
  unfold aloneS
  split
  · rename_i s hs
    exact absurd hs (h s)
  · rfl
theorem alone_yes {d : Dat} {i : Nat} {s : ByteArray} (h : d[i]? = some [s]) : aloneS d i = (s, true) := by
  unfold aloneS
  rw [h]
set_option maxRecDepth 100000 in
set_option maxHeartbeats 8000000 in
theorem alone_any (d : Dat) (i : Nat) (v : Value) (w : World) (hi : i ≤ 1000) (hA : NSA w (fun _ => True) v d) :
    Calls Tryz.prog 64 #[v, .int .i64 i] w fun e w' => e = .returned (.tuple #[.string (aloneS d i).1, .bool (aloneS d i).2]) ∧ Below w.heap.size w w' := by
  obtain ⟨A', A, cA, xs, rfl, aA, hcA, hrA, -, hxA⟩ := hA
  refine calls_sat (cx := Tryz.cx 24 [] [] [] w) (Tryz.ok ..) Tryz.func64 rfl [.v (.slice A' d.length cA), .v (.int .i64 i)] rfl (by show 2 ≤ 24; omega) [] (holds_nil (Nat.le_refl _)) ?_
  have hmax : d.length ≤ 9223372036854775807 := Nat.le_trans (Nat.le_trans hcA.1 hcA.2) (by decide)
  by_cases hi1 : i < d.length
  case neg =>
    rw [alone_no (fun s h => hi1 (List.getElem?_eq_some_iff.1 h).1)]
    have hG : decide ((d.length : Int) ≤ (i : Int)) = true := decide_eq_true (by omega)
    repeat' ((conv => whnf); first | refine walk (Tryz.ok ..) ?_ | refine side2 ?_ | fail)
    (conv => whnf)
    refine ⟨.slice none 0 0, fun h => absurd h (by rw [hG]; exact Bool.false_ne_true), ?_⟩
    repeat' ((conv => whnf); first | refine walk (Tryz.ok ..) ?_ | (refine Cnd.mk (fun h => ?_) (fun h => ?_) <;> (first | exact cndT h (by (try dsimp only); omega) | exact cndF h (by (try dsimp only); omega) | (exfalso; simp at h; omega) | simp at h | skip)) | refine side2 ?_ | fail)
    all_goals first | exact done_pure rfl rfl rfl | omega
  obtain ⟨e, he⟩ : ∃ e, d[i]? = some e := ⟨_, List.getElem?_eq_getElem hi1⟩
  obtain ⟨x, hx, hne⟩ := nest_at hxA hrA.1 he
  obtain ⟨B', B, cB, rfl, aB, hcB, hrB, -⟩ := nea_row hne
  obtain ⟨p, rfl, rfl⟩ := some_of aA hrA (by omega)
  have hmax2 : e.length ≤ 9223372036854775807 := Nat.le_trans (Nat.le_trans hcB.1 hcB.2) (by decide)
  by_cases hl : e.length = 1
  case neg =>
    rw [alone_no (fun s h => hl (by rw [he] at h; cases h; rfl))]
    repeat' ((conv => whnf); first | refine walk (Tryz.ok ..) ?_ | (refine Cnd.mk (fun h => ?_) (fun h => ?_) <;> (first | exact cndT h (by (try dsimp only); omega) | exact cndF h (by (try dsimp only); omega) | (exfalso; simp at h; omega) | simp at h | skip)) | refine side2 ?_ | refine xi _ (fun _ => (ro_at rfl rfl hrA hx rfl)) ?_ | fail)
    all_goals first | exact done_pure rfl rfl rfl | omega
  obtain ⟨s, rfl⟩ := List.length_eq_one_iff.1 hl
  obtain ⟨q, rfl, rfl⟩ := some_of aB hrB (by simp)
  rw [alone_yes he]
  have hc0 : ([s].map Value.string)[0]? = some (.string s) := rfl
  have hl1 : [s].length = 1 := rfl
  rw [hl1] at hx hrB
  repeat' ((conv => whnf); first | refine walk (Tryz.ok ..) ?_ | (refine Cnd.mk (fun h => ?_) (fun h => ?_) <;> (first | exact cndT h (by (try dsimp only); omega) | exact cndF h (by (try dsimp only); omega) | (exfalso; simp at h; omega) | simp at h | skip)) | refine side2 ?_ | refine xi _ (fun _ => (ro_at rfl rfl hrA hx rfl)) ?_ | refine xi _ (ro_at rfl rfl hrA hx rfl) ?_ | refine xi _ (ro_at rfl rfl hrB hc0 rfl) ?_ | fail)
  all_goals first | exact done_pure rfl rfl rfl | omega
theorem alone_first (d : Dat) : (aloneS d 0).2 = firstB d ∧ (aloneS d 0).1 = (if firstB d = true then at2 d 0 else emp) := by
  cases d with
  | nil => exact ⟨rfl, rfl⟩
  | cons e d =>
    by_cases h : ∃ s, e = [s]
    · obtain ⟨s, rfl⟩ := h
      exact ⟨rfl, rfl⟩
    · have h2 : firstB (e :: d) = false := by
        show decide (e.length = 1) = false
        refine decide_eq_false fun hl => h ?_
        exact List.length_eq_one_iff.1 hl
      rw [alone_no (fun s hs => h ⟨s, Option.some.inj hs⟩), h2]
      exact ⟨rfl, by simp⟩
theorem alone_one {d : Dat} {i : Nat} : (aloneS d i).2 = true ↔ ∃ e, d[i]? = some e ∧ oneB e = true := by
  constructor
  · intro h
    by_cases hs : ∃ s, d[i]? = some [s]
    · obtain ⟨s, hs⟩ := hs
      exact ⟨[s], hs, rfl⟩
    · rw [alone_no (fun s h => hs ⟨s, h⟩)] at h
      cases h
  · rintro ⟨e, he, h1⟩
    unfold oneB at h1
    rw [decide_eq_true_eq] at h1
    obtain ⟨s, rfl⟩ := List.length_eq_one_iff.1 h1
    rw [alone_yes he]
theorem alone_at {d : Dat} {i : Nat} (h : (aloneS d i).2 = true) : (aloneS d i).1 = at2 d i := by
  obtain ⟨e, he, h1⟩ := alone_one.1 h
  unfold oneB at h1
  rw [decide_eq_true_eq] at h1
  obtain ⟨s, rfl⟩ := List.length_eq_one_iff.1 h1
  rw [alone_yes he, at2_at he rfl]
/-- all three stand alone -/
theorem alone_all (d : Dat) : ((aloneS d 0).2 && (aloneS d 1).2 && (aloneS d 2).2 && decide ((d.length : Int) = 3)) = singleB d := by
  unfold singleB
  rw [Bool.eq_iff_iff]
  simp only [Bool.and_eq_true, decide_eq_true_eq, alone_one, List.all_eq_true]
  constructor
  · rintro ⟨⟨⟨⟨a, ha, h1⟩, b, hb, h2⟩, c, hc, h3⟩, h4⟩
    refine ⟨by omega, fun e he => ?_⟩
    obtain ⟨j, hj, rfl⟩ := List.getElem_of_mem he
    match j, hj with
    | 0, hj => rw [List.getElem?_eq_getElem hj] at ha; cases ha; exact h1
    | 1, hj => rw [List.getElem?_eq_getElem hj] at hb; cases hb; exact h2
    | 2, hj => rw [List.getElem?_eq_getElem hj] at hc; cases hc; exact h3
    | j + 3, hj => omega
  · rintro ⟨h1, h2⟩
    refine ⟨⟨⟨⟨_, List.getElem?_eq_getElem (show 0 < d.length by omega), h2 _ (List.getElem_mem _)⟩, _, List.getElem?_eq_getElem (show 1 < d.length by omega), h2 _ (List.getElem_mem _)⟩, _, List.getElem?_eq_getElem (show 2 < d.length by omega), h2 _ (List.getElem_mem _)⟩, by omega⟩
theorem single_alone {d : Dat} (h : singleB d = true) : (aloneS d 0).1 = at2 d 0 ∧ (aloneS d 1).1 = at2 d 1 ∧ (aloneS d 2).1 = at2 d 2 ∧ firstB d = true := by
  have h0 := alone_all d
  rw [h] at h0
  simp only [Bool.and_eq_true] at h0
  obtain ⟨⟨⟨h1, h2⟩, h3⟩, -⟩ := h0
  exact ⟨alone_at h1, alone_at h2, alone_at h3, by rw [← (alone_first d).1]; exact h1⟩
theorem first_is {d : Dat} {s : ByteArray} (hs : s ≠ emp) : (aloneS d 0).1 = s ↔ (firstB d = true ∧ at2 d 0 = s) := by
  rw [(alone_first d).2]
  cases h : firstB d with
  | false =>
    constructor
    · intro h1
      exact absurd h1.symm hs
    · rintro ⟨h1, -⟩
      cases h1
  | true =>
    constructor
    · intro h1
      exact ⟨rfl, h1⟩
    · rintro ⟨-, h1⟩
      exact h1
/-- the reference's step, no message open -/
theorem step_closed {r : Rst} {d : Dat} (ho : r.opn = false) :
    (¬ ((aloneS d 0).1 = hedS ∧ singleB d = true ∧ refB (aloneS d 1).1 = true ∧ kindB (aloneS d 2).1 = true) → stepG r d = .error 51) ∧
    ((aloneS d 0).1 = hedS ∧ singleB d = true ∧ refB (aloneS d 1).1 = true ∧ kindB (aloneS d 2).1 = true → stepG r d = if (aloneS d 1).1 ∈ r.met then .error 53 else .ok { r with opn := true, kind := (aloneS d 2).1, ref := (aloneS d 1).1, segs := [], met := (aloneS d 1).1 :: r.met }) := by
  constructor
  · intro h
    unfold stepG
    split
    · rename_i hc
      unfold headG
      rw [if_pos]
      by_cases hs : singleB d = true
      · obtain ⟨h0, h1, h2, -⟩ := single_alone hs
        rw [h1, h2, first_is (by decide)] at h
        by_cases hr : refB (at2 d 1) = true
        · by_cases hk : kindB (at2 d 2) = true
          · exact absurd ⟨hc, hs, hr, hk⟩ h
          · exact .inr (.inr (.inr (by simpa using hk)))
        · exact .inr (.inr (.inl (by simpa using hr)))
      · exact .inr (.inl (by simpa using hs))
    split
    · unfold endG
      rw [if_pos ho]
    · unfold otherG
      rw [if_pos ho]
  · rintro ⟨h0, hs, hr, hk⟩
    obtain ⟨e0, e1, e2, -⟩ := single_alone hs
    rw [e1] at hr ⊢
    rw [e2] at hk ⊢
    unfold stepG
    rw [if_pos ((first_is (by decide)).1 h0)]
    unfold headG
    rw [if_neg]
    intro h
    rcases h with h | h | h | h
    · rw [ho] at h; cases h
    · rw [hs] at h; cases h
    · rw [hr] at h; cases h
    · rw [hk] at h; cases h
theorem step_open {r : Rst} {d : Dat} (ho : r.opn = true) :
    ((aloneS d 0).1 = hedS → stepG r d = .error 51) ∧
    ((aloneS d 0).1 = endS → (singleB d = false ∨ (aloneS d 1).1 ≠ itB (r.segs.length + 2) ∨ (aloneS d 2).1 ≠ r.ref) → stepG r d = .error 52) ∧
    ((aloneS d 0).1 = endS → singleB d = true → (aloneS d 1).1 = itB (r.segs.length + 2) → (aloneS d 2).1 = r.ref → stepG r d = .ok { r with opn := false, out := r.out ++ [r.msg] }) ∧
    ((aloneS d 0).1 ≠ hedS → (aloneS d 0).1 ≠ endS → tagB (aloneS d 0).1 = false → stepG r d = .error 50) ∧
    ((aloneS d 0).1 ≠ hedS → (aloneS d 0).1 ≠ endS → tagB (aloneS d 0).1 = true → d ≠ [] ∧ stepG r d = .ok { r with segs := r.segs ++ [((aloneS d 0).1, d.tail)] }) := by
  have hhe : endS ≠ hedS := by decide
  refine ⟨fun h => ?_, fun h hb => ?_, fun h hs h1 h2 => ?_, fun h1 h2 ht => ?_, fun h1 h2 ht => ?_⟩
  · unfold stepG
    rw [if_pos ((first_is (by decide)).1 h)]
    unfold headG
    rw [if_pos (.inl ho)]
  · have h3 := (first_is (by decide)).1 h
    unfold stepG
    rw [if_neg (fun hc => hhe (by rw [← h3.2, hc.2])), if_pos h3]
    unfold endG
    rw [if_neg (by rw [ho]; simp), if_pos]
    by_cases hs : singleB d = true
    · obtain ⟨-, e1, e2, -⟩ := single_alone hs
      rw [e1, e2] at hb
      exact hb
    · exact .inl (by simpa using hs)
  · have h3 := (first_is (by decide)).1 h
    obtain ⟨-, e1, e2, -⟩ := single_alone hs
    unfold stepG
    rw [if_neg (fun hc => hhe (by rw [← h3.2, hc.2])), if_pos h3]
    unfold endG
    rw [if_neg (by rw [ho]; simp), if_neg]
    intro hb
    rcases hb with hb | hb | hb
    · rw [hs] at hb; cases hb
    · exact hb (by rw [← e1]; exact h1)
    · exact hb (by rw [← e2]; exact h2)
  · unfold stepG
    rw [if_neg (fun hc => h1 ((first_is (by decide)).2 hc)), if_neg (fun hc => h2 ((first_is (by decide)).2 hc))]
    unfold otherG
    rw [if_neg (by rw [ho]; simp), if_pos]
    rw [(alone_first d).2] at ht
    cases hf : firstB d with
    | false => exact .inl rfl
    | true => rw [hf] at ht; exact .inr ht
  · have hf : firstB d = true := by
      cases hf : firstB d with
      | true => rfl
      | false =>
        rw [(alone_first d).2, hf, if_neg (by simp)] at ht
        exact absurd ht (by decide)
    have h0 : (aloneS d 0).1 = at2 d 0 := by rw [(alone_first d).2, if_pos hf]
    refine ⟨fun hd => (by rw [hd] at hf; cases hf), ?_⟩
    unfold stepG
    rw [if_neg (fun hc => h1 ((first_is (by decide)).2 hc)), if_neg (fun hc => h2 ((first_is (by decide)).2 hc))]
    unfold otherG
    rw [if_neg (by rw [ho]; simp), if_neg, h0]
    intro hb
    rcases hb with hb | hb
    · rw [hf] at hb; cases hb
    · rw [← h0, ht] at hb; cases hb
end
section
open Go Sat Go.RowKit Go.PlainAid
def doneL (r : Rst) : List Msg := r.out ++ (if r.opn = true then [r.msg] else [])
structure RR where
  A : Option (Nat × Nat)
  c : Nat
  xs : List Value
  wS : World
  S : List Nat
structure ROk (m : RR) (r : Rst) : Prop where
  len : m.xs.length = (doneL r).length * 3
  at_ : ∀ (i : Nat) (a : Msg), (doneL r)[i]? = some a → MsgR NS m.wS (fun g => g ∈ m.S) (cut1 m.xs 3 i) a
  met : ∀ x, x ∈ r.met ↔ x ∈ (doneL r).map Msg.ref
abbrev rH (m : RR) (n : Nat) (wd : World) (gd : List Nat) (wl : World) (gl : List Nat) : Heap := [(80, .row m.A 51 3 n m.c m.xs), (977, .own m.S (Frz m.wS m.S)), (903, .own gd (Frz wd gd)), (901, .own gl (Frz wl gl))]
abbrev rH2 (m : RR) (n : Nat) (wl : World) (gl : List Nat) : Heap := [(80, .row m.A 51 3 n m.c m.xs), (977, .own m.S (Frz m.wS m.S)), (901, .own gl (Frz wl gl))]
theorem alone_size {d : Dat} (h : FewD d) (i : Nat) : (aloneS d i).1.size ≤ 70000 := by
  by_cases hs : ∃ s, d[i]? = some [s]
  · obtain ⟨s, hs⟩ := hs
    rw [alone_yes hs]
    exact (h.el _ (List.mem_of_getElem? hs)).2 s (by simp)
  · rw [alone_no (fun s h => hs ⟨s, h⟩)]
    show emp.size ≤ 70000
    decide
theorem ns_slV {w : World} {B : Nat → Prop} {v : Value} {a : Dat} (h : NS w B v a) : ∃ p n c, v = .slice p n c := by
  obtain ⟨A, cap, xs, hv, -⟩ := h
  exact ⟨_, _, _, hv⟩
theorem gsub {cx : Cx} {H : Heap} {w : World} (hw : Holds cx H w) (L : List Nat) (i : Nat) {b : HB} (hi : memN L i = true) (hf : hfind H i = some b) : ∀ g, g ∈ b.gs → g ∈ gsOf H L := fun _ h => gs_sub hi hf h
theorem Sat.Holds.rename {cx : Cx} {H : Heap} {w : World} (hw : Holds cx H w) (i j : Nat) {b : HB} (hi : hfind H i = some b) (hne : i ≠ j) : Holds cx ((j, b) :: hdel (hdel H i) j) w := by
  have hm : ∀ e ∈ hdel (hdel H i) j, e ∈ H ∧ e.1 ≠ i ∧ e.1 ≠ j := fun e he => by
    obtain ⟨h1, h2⟩ := hdel_mem he
    obtain ⟨h3, h4⟩ := hdel_mem h1
    exact ⟨h3, h4, h2⟩
  refine ⟨hw.keep, hw.n0, fun e he => ?_, fun a b' c d' ha hc hac g hg hg' => ?_⟩
  · rcases List.mem_cons.1 he with rfl | he
    · exact hw.at_ hi
    · exact hw.ent e (hm e he).1
  · rcases List.mem_cons.1 ha with ha | ha <;> rcases List.mem_cons.1 hc with hc | hc
    · cases ha; cases hc; exact hac rfl
    · cases ha
      exact hw.sep i b c d' (hfind_mem hi) (hm _ hc).1 (fun e => (hm _ hc).2.1 e.symm) g hg hg'
    · cases hc
      exact hw.sep a b' i b (hm _ ha).1 (hfind_mem hi) (hm _ ha).2.1 g hg hg'
    · exact hw.sep a b' c d' (hm _ ha).1 (hm _ hc).1 hac g hg hg'
theorem done_inY {cx : Cx} {N : Nat} {K : SV → Heap → Prop} {v : SV} (v' : SV) {H : Heap} (hv : v'.real = v.real) (h : ∀ w, Holds (cx.with_ N none) H w → ∃ H2, Holds (cx.with_ N none) H2 w ∧ K v' H2) : Done (cx.with_ N none) (InK cx K) v H := ⟨fun w hw => by
  obtain ⟨H2, h1, h2⟩ := h w hw
  exact ⟨v', H2, by rw [hv], h1.back_, h2⟩⟩
set_option maxRecDepth 100000 in
set_option maxHeartbeats 16000000 in
theorem rstep_closed {N n0 : Nat} {W : World} {K : SV → Heap → Prop} (m : RR) (r : Rst) (d : Dat) (vd : Value) (wd : World) (gd : List Nat) (wl : World) (gl : List Nat) (hm : ROk m r) (hd : NS wd (fun g => g ∈ gd) vd d) (hfd : FewD d) (hb : (doneL r).length ≤ 1000000) (ho : r.opn = false)
    (h1 : ∀ e b H, stepG r d = .error e → K (.t [.o 80 m.A (doneL r).length m.c, .v (.bool b), .v (.int .i64 e)]) H) (h2 : ∀ r' m', stepG r d = .ok r' → ROk m' r' → (doneL r').length ≤ (doneL r).length + 1 → K (.t [.o 80 m'.A (doneL r').length m'.c, .v (.bool r'.opn), .v (.int .i64 0)]) (rH2 m' (doneL r').length wl gl)) :
    Called (Tryz.cxg N [] [] [] n0 [] W) 32 [.o 80 m.A (doneL r).length m.c, .v (.bool r.opn), .v vd] (rH m (doneL r).length wd gd wl gl) K := by
  have hd0 := hd
  obtain ⟨A, c, xs, rfl, hc, hro, hB, hx⟩ := hd0
  refine called_in (Tryz.ok ..) Tryz.func32 rfl (by show 3 ≤ 139; omega) ?_
  obtain ⟨n, hn⟩ : ∃ n, n = (doneL r).length := ⟨_, rfl⟩
  have hsc := step_closed (d := d) ho
  rw [← hn] at hb h1 h2 ⊢
  rw [ho]
  repeat' ((conv => whnf); first | refine walk (Tryz.ok ..) ?_ | fail)
  (conv => whnf)
  refine called_at (.t [.v (.string (aloneS d 0).1), .v (.bool (aloneS d 0).2)]) rfl (fun w' hh => by exact alone_any d 0 _ w' (by omega) (ns_arg (frz_nest ns_stays hd (d := 903) rfl hh))) ?_
  repeat' ((conv => whnf); first | refine walk (Tryz.ok ..) ?_ | fail)
  (conv => whnf)
  refine called_at (.t [.v (.string (aloneS d 1).1), .v (.bool (aloneS d 1).2)]) rfl (fun w' hh => by exact alone_any d 1 _ w' (by omega) (ns_arg (frz_nest ns_stays hd (d := 903) rfl hh))) ?_
  repeat' ((conv => whnf); first | refine walk (Tryz.ok ..) ?_ | fail)
  (conv => whnf)
  refine called_at (.t [.v (.string (aloneS d 2).1), .v (.bool (aloneS d 2).2)]) rfl (fun w' hh => by exact alone_any d 2 _ w' (by omega) (ns_arg (frz_nest ns_stays hd (d := 903) rfl hh))) ?_
  repeat' ((conv => whnf); first | refine walk (Tryz.ok ..) ?_ | (refine Cnd.mk (fun h => ?_) (fun h => ?_) <;> (first | exact cndT h (by (try dsimp only); omega) | exact cndF h (by (try dsimp only); omega) | (exfalso; simp at h; omega) | simp at h | skip)) | refine side2 ?_ | refine sideL2 ?_ | fail)
  (conv => whnf)
  refine calledQ_at (.v (.bool (refB (aloneS d 1).1))) rfl (fun _ w' hh => by exact rref_any _ w' (Nat.le_trans (alone_size hfd 1) (by decide))) ?_
  repeat' ((conv => whnf); first | refine side2 ?_ | refine sideL2 ?_ | fail)
  (conv => whnf)
  refine calledQ_at (.v (.bool (kindB (aloneS d 2).1))) rfl (fun _ w' hh => by exact rkind_any _ w' (Nat.le_trans (alone_size hfd 2) (by decide))) ?_
  have hall := alone_all d
  have hlen2 : m.xs.length = n * 3 := by rw [hn]; exact hm.len
  repeat' ((conv => whnf); first | refine walk (Tryz.ok ..) ?_ | (refine Cnd.mk (fun h => ?_) (fun h => ?_) <;> (first | exact cndT h (by (try dsimp only); omega) | exact cndF h (by (try dsimp only); omega) | (exfalso; simp at h; omega) | simp at h | skip)) | refine side2 ?_ | fail)
  · have hng : ¬ ((aloneS d 0).1 = hedS ∧ singleB d = true ∧ refB (aloneS d 1).1 = true ∧ kindB (aloneS d 2).1 = true) := by
      rintro ⟨e0, e1, e2, e3⟩
      rw [← hall] at e1
      simp only [Bool.and_eq_true, decide_eq_true_eq] at e1
      obtain ⟨⟨⟨a, b⟩, c'⟩, e⟩ := e1
      simp [e0, a, b, c', e, e2, e3, hedS] at h
    exact done_in (h1 51 _ _ (hsc.1 hng))
  obtain ⟨⟨⟨g0, ⟨⟨g1, g2⟩, g3⟩, g4⟩, g5⟩, g6⟩ := h
  have hst := hsc.2 ⟨g0, by rw [← hall, g1, g2, g3, decide_eq_true g4]; rfl, g5, g6⟩
  refine sat_loop (COk.with_ (Tryz.ok ..) _ _) (α := Nat) (fun i => ([(0, .yes, .o 80 m.A n m.c), (11, .yes, .v (.string (aloneS d 1).1)), (13, .yes, .v (.string (aloneS d 2).1)), (16, .yes, .v (.int .i64 i))], rH m n wd gd wl gl))
    (fun i => i ≤ n ∧ ∀ (j : Nat) (x : Msg), j < i → (doneL r)[j]? = some x → x.ref ≠ (aloneS d 1).1) (fun i => n - i) (fun _ => rfl) ?_ ?_
  · refine ⟨0, ⟨Nat.zero_le _, fun j x h => by omega⟩, ?_, ?_, rfl⟩
    all_goals ((repeat' (first | exact trivial | exact rfl | refine And.intro ?_ ?_)) <;> (try (conv => whnf)) <;> (try simp only [SV.real, SV.r2, SV.r1]))
  rintro i ⟨hi, hne⟩
  by_cases hi1 : i < n
  · obtain ⟨x, hx⟩ : ∃ x, (doneL r)[i]? = some x := ⟨_, List.getElem?_eq_getElem (by omega)⟩
    obtain ⟨vx, hcx, -⟩ := hm.at_ i x hx
    have hcell := cut1_at (j := 1) hcx (by simp)
    have hcell2 : m.xs[mulS (i : Int).toNat 3 + 1]? = some (.string x.ref) := by rw [mulS_eq, Int.toNat_natCast]; exact hcell
    repeat' ((conv => whnf); first | refine walk (Tryz.ok ..) ?_ | (refine Cnd.mk (fun h => ?_) (fun h => ?_) <;> (first | exact cndT h (by (try dsimp only); omega) | exact cndF h (by (try dsimp only); omega) | (exfalso; simp at h; omega) | simp at h | skip)) | refine side2 ?_ | refine sideL2 ?_ | refine xi _ hcell2 ?_ | fail)
    · have hin : (aloneS d 1).1 ∈ r.met := (hm.met _).2 (List.mem_map.2 ⟨x, List.mem_of_getElem? hx, h⟩)
      rw [if_pos hin] at hst
      exact done_in (h1 53 _ _ hst)
    · have hxne : x.ref ≠ (aloneS d 1).1 := h
      skip
      refine ⟨i + 1, ⟨⟨hi1, fun j y hj hy => ?_⟩, by omega⟩, ?_, ?_, rfl⟩
      · rcases Nat.lt_or_ge j i with h2 | h2
        · exact hne j y h2 hy
        · obtain rfl : j = i := by omega
          rw [hx] at hy
          cases hy
          exact hxne
      all_goals ((repeat' (first | exact trivial | exact rfl | refine And.intro ?_ ?_)) <;> (try (conv => whnf)) <;> (try simp only [SV.real, SV.r2, SV.r1]))
  obtain rfl : i = n := by omega
  have hnin : (aloneS d 1).1 ∉ r.met := fun h => by
    obtain ⟨x, hx, hxr⟩ := List.mem_map.1 ((hm.met _).1 h)
    obtain ⟨j, hj⟩ := List.getElem?_of_mem hx
    exact hne j x (by rw [hn]; exact (List.getElem?_eq_some_iff.1 hj).1) hj hxr
  rw [if_neg hnin] at hst
  repeat' ((conv => whnf); first | refine walk (Tryz.ok ..) ?_ | (refine Cnd.mk (fun h => ?_) (fun h => ?_) <;> (first | exact cndT h (by (try dsimp only); omega) | exact cndF h (by (try dsimp only); omega) | (exfalso; simp at h; omega) | simp at h | skip)) | refine side2 ?_ | fail)
  (conv => whnf)
  intro g82 hg82
  repeat' ((conv => whnf); first | refine side2 ?_ | refine Or.inr ?_ | fail)
  (conv => whnf)
  intro A83 c83
  repeat' ((conv => whnf); first | refine walk (Tryz.ok ..) ?_ | fail)
  have hdl : doneL r = r.out := by unfold doneL; rw [ho]; simp
  have hdl2 : doneL { r with opn := true, kind := (aloneS d 2).1, ref := (aloneS d 1).1, segs := [], met := (aloneS d 1).1 :: r.met } = r.out ++ [⟨(aloneS d 2).1, (aloneS d 1).1, []⟩] := rfl
  have hl2 : (doneL { r with opn := true, kind := (aloneS d 2).1, ref := (aloneS d 1).1, segs := [], met := (aloneS d 1).1 :: r.met }).length = i + 1 := by rw [hdl2, List.length_append, hn, hdl]; rfl
  have hk := h2 _ ⟨A83, c83, m.xs ++ [.string (aloneS d 2).1, .string (aloneS d 1).1, .slice none 0 0], m.wS, m.S⟩ hst ⟨?_, ?_, ?_⟩ (by rw [hl2, hn]; exact Nat.le_refl _)
  · rw [hl2] at hk
    exact done_inY (.t [.o 80 A83 (i + 1) c83, .v (.bool true), .v (.int .i64 0)]) rfl fun w hw => ⟨_, hw.sub (hsub_of rfl), hk⟩
  · rw [hl2]
    show (m.xs ++ [_, _, _]).length = _
    rw [List.length_append, hlen2]
    simp
    omega
  · rw [hdl2]
    intro j a ha
    show MsgR NS m.wS _ (cut1 (m.xs ++ [_, _, _]) 3 j) a
    have hno : r.out.length = i := by rw [hn, hdl]
    rcases snoc_at ha with ⟨hj, ha⟩ | ⟨hj, rfl⟩
    · rw [cut1_old hlen2 (by omega)]
      exact hm.at_ j a (by rw [hdl]; exact ha)
    · rw [hj, hno, cut1_new hlen2 rfl]
      exact ⟨_, rfl, nestc_z (fun _ _ _ _ h => h) (nestc_nil (R := SegR NS))⟩
  · rw [hdl2]
    intro x
    show x ∈ (aloneS d 1).1 :: r.met ↔ _
    rw [List.mem_cons, hm.met, hdl, List.map_append, List.mem_append]
    simp only [List.map_cons, List.map_nil, List.mem_singleton]
    exact or_comm
/-- cells of several in a nest of one's own, read where they are appended from -/
theorem raw_frzz {cx : Cx} {H : Heap} {a : Option Addr} {A : Option (Nat × Nat)} {n z c d : Nat} {w0 : World} {gs : List Nat} {xs : List Value} {K : Nat → List Value → Prop} (ha : AtN n a A) (h : Ro w0 A n z xs) (hB : ∀ p, A = some p → 0 < n → p.1 ∈ gs) (hf : hfind H d = some (.own gs (Frz w0 gs))) (k : K n xs) : RawSrc cx H z a n c K := by
  rcases Nat.eq_zero_or_pos n with h0 | h0
  · subst h0
    have hx : xs = [] := List.eq_nil_of_length_eq_zero (by rw [h.1]; omega)
    subst hx
    refine ⟨.inr ⟨[], k, by simp, fun w hw => ?_⟩⟩
    cases a with
    | none => exact .inr ⟨rfl, rfl, rfl⟩
    | some ad => exact .inl ⟨ad, rfl, fun j u hu => by cases hu⟩
  · obtain ⟨p, rfl, hl, hc⟩ := h.2 h0
    refine ⟨.inr ⟨xs, k, h.1, fun w hw => .inl ⟨⟨p.1, p.2, none⟩, ?_, fun j u hu => ?_⟩⟩⟩
    · rw [ha.at_ h0]; rfl
    · rw [add_mk, ← hc j u hu]
      exact World.cell?_of_block (frz_of hf hw p.1 (hB p rfl h0))
theorem cut_all {z n : Nat} {xs : List Value} (hz : 0 < z) (hl : xs.length = n * z) (h : ∀ i, i < n → ∃ cs, cut1 xs z i = cs ∧ cs.length = z ∧ ∀ u ∈ cs, u.oneCell' = true) : allV xs = true := allV_of fun u hu => by
  obtain ⟨j, hj, rfl⟩ := List.getElem_of_mem hu
  have hq : j / z < n := Nat.div_lt_of_lt_mul (by rw [Nat.mul_comm, ← hl]; exact hj)
  obtain ⟨cs, hc, hcl, ho⟩ := h (j / z) hq
  have hr : j % z < cs.length := by rw [hcl]; exact Nat.mod_lt _ hz
  have h1 := cut1_at hc hr
  have hjj : j / z * z + j % z = j := by rw [Nat.mul_comm]; exact Nat.div_add_mod j z
  rw [hjj, List.getElem?_eq_getElem hj, List.getElem?_eq_getElem hr] at h1
  rw [Option.some.inj h1]
  exact ho _ (List.getElem_mem _)
theorem cut1_take {xs : List Value} {z n j : Nat} (hj : j < n) (hl : n * z ≤ xs.length) : cut1 (xs.take (n * z)) z j = cut1 xs z j := by
  unfold cut1
  have h : j * z + z ≤ n * z := by rw [← Nat.succ_mul]; exact Nat.mul_le_mul_right _ hj
  rw [List.drop_take, List.take_take, Nat.min_eq_left (by omega)]
theorem number_lit2 (n : Nat) (w : World) (hn : n ≤ 100000000) : Calls Tryz.prog 35 #[.int .i64 ((n : Int) + 2)] w fun e w' => e = .returned (.string (itB ((n : Int) + 2))) ∧ Below w.heap.size w w' := by
  have h := number_any (n + 2) w (by omega)
  have e : ((n + 2 : Nat) : Int) = (n : Int) + 2 := by omega
  rw [e] at h
  exact h
set_option maxRecDepth 100000 in
set_option maxHeartbeats 16000000 in
theorem rstep_open {N n0 : Nat} {W : World} {K : SV → Heap → Prop} (m : RR) (r : Rst) (d : Dat) (vd : Value) (wd : World) (gd : List Nat) (wl : World) (gl : List Nat) (hm : ROk m r) (hd : NS wd (fun g => g ∈ gd) vd d) (hfd : FewD d) (hb : (doneL r).length ≤ 1000000) (hbs : r.segs.length ≤ 1000000) (ho : r.opn = true)
    (h1 : ∀ e b H, stepG r d = .error e → K (.t [.o 80 m.A (doneL r).length m.c, .v (.bool b), .v (.int .i64 e)]) H) (h2 : ∀ r' m', stepG r d = .ok r' → ROk m' r' → (doneL r').length ≤ (doneL r).length + 1 → K (.t [.o 80 m'.A (doneL r').length m'.c, .v (.bool r'.opn), .v (.int .i64 0)]) (rH2 m' (doneL r').length wl gl)) :
    Called (Tryz.cxg N [] [] [] n0 [] W) 32 [.o 80 m.A (doneL r).length m.c, .v (.bool r.opn), .v vd] (rH m (doneL r).length wd gd wl gl) K := by
  have hd0 := hd
  obtain ⟨A, c, xs, rfl, hc, hro, hB, hx⟩ := hd0
  refine called_in (Tryz.ok ..) Tryz.func32 rfl (by show 3 ≤ 139; omega) ?_
  obtain ⟨h51, h52, hend, h50, hok⟩ := step_open (d := d) ho
  have hdl : doneL r = r.out ++ [r.msg] := by unfold doneL; rw [if_pos ho]
  obtain ⟨n, hn⟩ : ∃ n, n = (doneL r).length := ⟨_, rfl⟩
  have hn1 : n = r.out.length + 1 := by rw [hn, hdl, List.length_append]; rfl
  have hlen2 : m.xs.length = n * 3 := by rw [hn]; exact hm.len
  rw [← hn] at hb h1 h2 ⊢
  rw [ho]
  repeat' ((conv => whnf); first | refine walk (Tryz.ok ..) ?_ | fail)
  (conv => whnf)
  refine called_at (.t [.v (.string (aloneS d 0).1), .v (.bool (aloneS d 0).2)]) rfl (fun w' hh => by exact alone_any d 0 _ w' (by omega) (ns_arg (frz_nest ns_stays hd (d := 903) rfl hh))) ?_
  repeat' ((conv => whnf); first | refine walk (Tryz.ok ..) ?_ | fail)
  (conv => whnf)
  refine called_at (.t [.v (.string (aloneS d 1).1), .v (.bool (aloneS d 1).2)]) rfl (fun w' hh => by exact alone_any d 1 _ w' (by omega) (ns_arg (frz_nest ns_stays hd (d := 903) rfl hh))) ?_
  repeat' ((conv => whnf); first | refine walk (Tryz.ok ..) ?_ | fail)
  (conv => whnf)
  refine called_at (.t [.v (.string (aloneS d 2).1), .v (.bool (aloneS d 2).2)]) rfl (fun w' hh => by exact alone_any d 2 _ w' (by omega) (ns_arg (frz_nest ns_stays hd (d := 903) rfl hh))) ?_
  have hall := alone_all d
  obtain ⟨vx, hcx, hnx⟩ := hm.at_ (n - 1) r.msg (by rw [hdl, hn1, Nat.add_sub_cancel, List.getElem?_append_right (Nat.le_refl _), Nat.sub_self]; rfl)
  have hnx0 := hnx
  obtain ⟨as', As, cs', xs', rfl, aAs, hcs', hrs, hBs, hxs⟩ := hnx0
  have hmsl : r.msg.segs.length = r.segs.length := rfl
  rw [hmsl] at aAs hcs' hrs hBs hcx
  have hagg : [Value.string r.kind, .string r.ref, .slice as' r.segs.length cs'].length = 3 ∧ ∀ i, i < 3 → m.xs[mulS ((n : Int) - 1).toNat 3 + i]? = [Value.string r.kind, .string r.ref, .slice as' r.segs.length cs'][i]? := by
    refine ⟨rfl, fun i hi => ?_⟩
    rw [mulS_eq, show ((n : Int) - 1).toNat = n - 1 by omega]
    exact cut1_at hcx (by simp; omega)
  repeat' ((conv => whnf); first | refine walk (Tryz.ok ..) ?_ | (refine Cnd.mk (fun h => ?_) (fun h => ?_) <;> (first | exact cndT h (by (try dsimp only); omega) | exact cndF h (by (try dsimp only); omega) | (exfalso; simp at h; omega) | simp at h | skip)) | refine side2 ?_ | refine sideL2 ?_ | refine xi _ hagg ?_ | fail)
  (conv => whnf)
  intro g17 hg17
  repeat' ((conv => whnf); first | refine walk (Tryz.ok ..) ?_ | (refine Cnd.mk (fun h => ?_) (fun h => ?_) <;> (first | exact cndT h (by (try dsimp only); omega) | exact cndF h (by (try dsimp only); omega) | (exfalso; simp at h; omega) | simp at h | skip)) | refine side2 ?_ | refine sideL2 ?_ | refine xi _ (fun _ => And.intro rfl rfl) ?_ | fail)
  · exact done_in (h1 51 _ _ (h51 h))
  · have hE : (aloneS d 0).1 = endS := h
    (conv => whnf)
    refine calledQ_at (.v (.string (itB ((r.segs.length : Int) + 2)))) rfl (fun _ w' hh => by exact number_lit2 r.segs.length w' (by omega)) ?_
    repeat' ((conv => whnf); first | refine walk (Tryz.ok ..) ?_ | (refine Cnd.mk (fun h => ?_) (fun h => ?_) <;> (first | exact cndT h (by (try dsimp only); omega) | exact cndF h (by (try dsimp only); omega) | (exfalso; simp at h; omega) | simp at h | skip)) | refine side2 ?_ | refine xi _ (fun _ => And.intro rfl rfl) ?_ | fail)
    · refine done_in (h1 52 _ _ (h52 hE ?_))
      rw [← hall]
      by_cases hc : ((aloneS d 0).2 && (aloneS d 1).2 && (aloneS d 2).2 && decide ((d.length : Int) = 3)) = true
      · right
        simp only [Bool.and_eq_true, decide_eq_true_eq] at hc
        obtain ⟨⟨⟨a, b⟩, c'⟩, e⟩ := hc
        simpa [a, b, c', e] using h
      · left
        simpa using hc
    · have hs : singleB d = true ∧ (aloneS d 1).1 = itB ((r.segs.length : Int) + 2) ∧ (aloneS d 2).1 = r.ref := by
        rw [← hall]
        simp only [Bool.and_eq_true, decide_eq_true_eq]
        obtain ⟨⟨⟨⟨a, b⟩, c'⟩, e⟩, f⟩ := h
        exact ⟨by simp_all, by simp_all, by simp_all⟩
      have hst := hend hE hs.1 hs.2.1 hs.2.2
      have hdl2 : doneL { r with opn := false, out := r.out ++ [r.msg] } = doneL r := by rw [hdl]; unfold doneL; simp
      have hl2 : (doneL { r with opn := false, out := r.out ++ [r.msg] }).length = n := by rw [hdl2, hn]
      have hk := h2 _ m hst ⟨by rw [hdl2]; exact hm.len, by rw [hdl2]; exact hm.at_, by rw [hdl2]; exact hm.met⟩ (by rw [hl2, hn]; omega)
      rw [hl2] at hk
      exact done_inY (.t [.o 80 m.A n m.c, .v (.bool false), .v (.int .i64 0)]) rfl fun w hw => ⟨_, hw.sub (hsub_of rfl), hk⟩
  have hnE := h
  rename_i hnH
  skip
  (conv => whnf)
  refine called_at (.v (.bool (tagB (aloneS d 0).1))) rfl (fun w' hh => by exact rtag_any _ w' (Nat.le_trans (alone_size hfd 0) (by decide))) ?_
  cases ht : tagB (aloneS d 0).1 with
  | false =>
    repeat' ((conv => whnf); first | refine walk (Tryz.ok ..) ?_ | (refine Cnd.mk (fun h => ?_) (fun h => ?_) <;> (first | exact cndT h (by (try dsimp only); omega) | exact cndF h (by (try dsimp only); omega) | (exfalso; simp at h; omega) | simp at h | skip)) | fail)
    exact done_in (h1 50 _ _ (h50 hnH hnE ht))
  | true =>
  obtain ⟨hdne, hst⟩ := hok hnH hnE ht
  have hlen : 0 < d.length := List.length_pos_iff.2 hdne
  obtain ⟨p, rfl, _⟩ := hro.some_ hlen
  have hvt := slice_tail (p := p) hd hlen
  have hall1 : allV xs' = true := cut_all (z := 2) (n := r.segs.length) (by omega) hrs.1 fun i hi => by
    obtain ⟨s, hs⟩ : ∃ s, r.segs[i]? = some s := ⟨_, List.getElem?_eq_getElem hi⟩
    obtain ⟨v, hv, hns⟩ := hxs i s hs
    obtain ⟨a, b, c', rfl⟩ := ns_slV hns
    refine ⟨_, hv, rfl, fun u hu => ?_⟩
    simp only [List.mem_cons, List.not_mem_nil, or_false] at hu
    rcases hu with rfl | rfl <;> rfl
  have hnn : ((n : Int) - 1).toNat = n - 1 := by omega
  have hall2 : allV (m.xs.take ((n - 1) * 3)) = true := cut_all (z := 3) (n := n - 1) (by omega) (by rw [List.length_take, hlen2]; omega) fun i hi => by
    obtain ⟨x, hxi⟩ : ∃ x, (doneL r)[i]? = some x := ⟨_, List.getElem?_eq_getElem (by omega)⟩
    obtain ⟨v, hv, a, B, cap, ys, rfl, -⟩ := hm.at_ i x hxi
    refine ⟨_, (cut1_take hi (by rw [hlen2]; exact Nat.mul_le_mul_right _ (by omega))).trans hv, rfl, fun u hu => ?_⟩
    simp only [List.mem_cons, List.not_mem_nil, or_false] at hu
    rcases hu with rfl | rfl | rfl <;> rfl
  repeat' ((conv => whnf); first | refine walk (Tryz.ok ..) ?_ | (refine Cnd.mk (fun h => ?_) (fun h => ?_) <;> (first | exact cndT h (by (try dsimp only); omega) | exact cndF h (by (try dsimp only); omega) | (exfalso; simp at h; omega) | simp at h | skip)) | fail)
  obtain ⟨vt, hvtv⟩ : ∃ vt, vt = (Value.slice (if c = Int.toNat 1 then adr (some p) else (adr (some p)).map (fun x => x.add (Int.toNat 1 * 1))) (d.length - Int.toNat 1) (c - Int.toNat 1)) := ⟨_, rfl⟩
  refine sat_join0 (α := Option (Nat × Nat) × Nat) (fun t => ([(0, .yes, .o 80 m.A n m.c), (17, .yes, .p 17 g17 0 0)], [(17, .blk g17 51 [.v (.string r.kind), .v (.string r.ref), .o 118 t.1 (0 + r.segs.length + 1) t.2]), (118, .row t.1 81 2 (0 + r.segs.length + 1) t.2 (xs' ++ [.string (aloneS d 0).1, vt])), (80, .row m.A 51 3 n m.c m.xs), (977, .own m.S (Frz m.wS m.S)), (903, .own gd (Frz wd gd)), (901, .own gl (Frz wl gl))])) (fun _ => True) (fun _ => rfl) ?_ ?_
  · subst hvtv
    refine sat_draw (COk.with_ (Tryz.ok ..) _ _) [2] [] (by kernel_rfl) (fun w hw => hw.sub trivial) ?_
    repeat' ((conv => whnf); first | refine kp ?_ ?_ | refine tw ?_ ?_ | exact trivial | refine side2 ?_ | refine Or.inr ?_ | refine xi _ (And.intro rfl rfl) ?_ | fail)
    · skip
      (conv => whnf)
      intro g118 hg118
      repeat' ((conv => whnf); first | refine kp ?_ ?_ | refine tw ?_ ?_ | exact trivial | refine side2 ?_ | refine xi _ (And.intro rfl rfl) ?_ | fail)
      · skip
        (conv => whnf)
        refine raw_frzz (d := 977) aAs hrs hBs rfl ?_
        repeat' ((conv => whnf); first | refine side2 ?_ | fail)
        (conv => whnf)
        intro A121 c121
        repeat' ((conv => whnf); first | refine kp ?_ ?_ | exact trivial | refine side2 ?_ | fail)
        (conv => whnf)
        intro g126 hg126
        repeat' ((conv => whnf); first | refine kp ?_ ?_ | exact trivial | refine side2 ?_ | refine Or.inr ?_ | fail)
        (conv => whnf)
        intro A127 c127
        repeat' ((conv => whnf); first | refine kp ?_ ?_ | exact trivial | refine side2 ?_ | fail)
        refine ⟨(A127, c127), trivial, ?_, ?_, rfl⟩
        all_goals ((repeat' (first | exact trivial | exact rfl | refine And.intro ?_ ?_)) <;> (try (conv => whnf)) <;> (try simp only [SV.real, SV.r2, SV.r1]))
      · skip
        (conv => whnf)
        intro g126 hg126
        repeat' ((conv => whnf); first | refine kp ?_ ?_ | exact trivial | fail)
        (conv => whnf)
        refine raw_frzz (d := 977) aAs hrs hBs rfl ?_
        repeat' ((conv => whnf); first | refine side2 ?_ | fail)
        (conv => whnf)
        intro A121 c121
        repeat' ((conv => whnf); first | refine kp ?_ ?_ | exact trivial | refine side2 ?_ | refine Or.inr ?_ | fail)
        (conv => whnf)
        intro A127 c127
        repeat' ((conv => whnf); first | refine kp ?_ ?_ | exact trivial | refine side2 ?_ | fail)
        refine ⟨(A127, c127), trivial, ?_, ?_, rfl⟩
        all_goals ((repeat' (first | exact trivial | exact rfl | refine And.intro ?_ ?_)) <;> (try (conv => whnf)) <;> (try simp only [SV.real, SV.r2, SV.r1]))
      · skip
        (conv => whnf)
        intro g126 hg126
        repeat' ((conv => whnf); first | refine kp ?_ ?_ | exact trivial | refine side2 ?_ | refine xi _ (And.intro rfl rfl) ?_ | fail)
        (conv => whnf)
        refine raw_frzz (d := 977) aAs hrs hBs rfl ?_
        repeat' ((conv => whnf); first | refine side2 ?_ | fail)
        (conv => whnf)
        intro A121 c121
        repeat' ((conv => whnf); first | refine kp ?_ ?_ | exact trivial | refine side2 ?_ | refine Or.inr ?_ | fail)
        (conv => whnf)
        intro A127 c127
        repeat' ((conv => whnf); first | refine kp ?_ ?_ | exact trivial | refine side2 ?_ | fail)
        refine ⟨(A127, c127), trivial, ?_, ?_, rfl⟩
        all_goals ((repeat' (first | exact trivial | exact rfl | refine And.intro ?_ ?_)) <;> (try (conv => whnf)) <;> (try simp only [SV.real, SV.r2, SV.r1]))
    · skip
      (conv => whnf)
      intro g118 hg118
      repeat' ((conv => whnf); first | refine kp ?_ ?_ | refine tw ?_ ?_ | exact trivial | refine side2 ?_ | fail)
      · skip
        (conv => whnf)
        refine raw_frzz (d := 977) aAs hrs hBs rfl ?_
        repeat' ((conv => whnf); first | refine side2 ?_ | fail)
        (conv => whnf)
        intro A121 c121
        repeat' ((conv => whnf); first | refine kp ?_ ?_ | exact trivial | refine side2 ?_ | fail)
        (conv => whnf)
        intro g126 hg126
        repeat' ((conv => whnf); first | refine kp ?_ ?_ | exact trivial | refine side2 ?_ | refine Or.inr ?_ | fail)
        (conv => whnf)
        intro A127 c127
        repeat' ((conv => whnf); first | refine kp ?_ ?_ | exact trivial | refine side2 ?_ | fail)
        refine ⟨(A127, c127), trivial, ?_, ?_, rfl⟩
        all_goals ((repeat' (first | exact trivial | exact rfl | refine And.intro ?_ ?_)) <;> (try (conv => whnf)) <;> (try simp only [SV.real, SV.r2, SV.r1]))
      · skip
        (conv => whnf)
        intro g126 hg126
        repeat' ((conv => whnf); first | refine kp ?_ ?_ | exact trivial | fail)
        (conv => whnf)
        refine raw_frzz (d := 977) aAs hrs hBs rfl ?_
        repeat' ((conv => whnf); first | refine side2 ?_ | fail)
        (conv => whnf)
        intro A121 c121
        repeat' ((conv => whnf); first | refine kp ?_ ?_ | exact trivial | refine side2 ?_ | refine Or.inr ?_ | fail)
        (conv => whnf)
        intro A127 c127
        repeat' ((conv => whnf); first | refine kp ?_ ?_ | exact trivial | refine side2 ?_ | fail)
        refine ⟨(A127, c127), trivial, ?_, ?_, rfl⟩
        all_goals ((repeat' (first | exact trivial | exact rfl | refine And.intro ?_ ?_)) <;> (try (conv => whnf)) <;> (try simp only [SV.real, SV.r2, SV.r1]))
    · skip
      (conv => whnf)
      intro g126 hg126
      repeat' ((conv => whnf); first | refine kp ?_ ?_ | exact trivial | fail)
      (conv => whnf)
      intro g118 hg118
      repeat' ((conv => whnf); first | refine kp ?_ ?_ | exact trivial | fail)
      (conv => whnf)
      refine raw_frzz (d := 977) aAs hrs hBs rfl ?_
      repeat' ((conv => whnf); first | refine side2 ?_ | fail)
      (conv => whnf)
      intro A121 c121
      repeat' ((conv => whnf); first | refine kp ?_ ?_ | exact trivial | refine side2 ?_ | refine Or.inr ?_ | fail)
      (conv => whnf)
      intro A127 c127
      repeat' ((conv => whnf); first | refine kp ?_ ?_ | exact trivial | refine side2 ?_ | fail)
      refine ⟨(A127, c127), trivial, ?_, ?_, rfl⟩
      all_goals ((repeat' (first | exact trivial | exact rfl | refine And.intro ?_ ?_)) <;> (try (conv => whnf)) <;> (try simp only [SV.real, SV.r2, SV.r1]))
    · skip
      (conv => whnf)
      intro g126 hg126
      repeat' ((conv => whnf); first | refine kp ?_ ?_ | refine tw ?_ ?_ | exact trivial | refine side2 ?_ | refine xi _ (And.intro rfl rfl) ?_ | fail)
      · skip
        (conv => whnf)
        intro g118 hg118
        repeat' ((conv => whnf); first | refine kp ?_ ?_ | exact trivial | refine side2 ?_ | refine xi _ (And.intro rfl rfl) ?_ | fail)
        (conv => whnf)
        refine raw_frzz (d := 977) aAs hrs hBs rfl ?_
        repeat' ((conv => whnf); first | refine side2 ?_ | fail)
        (conv => whnf)
        intro A121 c121
        repeat' ((conv => whnf); first | refine kp ?_ ?_ | exact trivial | refine side2 ?_ | refine Or.inr ?_ | fail)
        (conv => whnf)
        intro A127 c127
        repeat' ((conv => whnf); first | refine kp ?_ ?_ | exact trivial | refine side2 ?_ | fail)
        refine ⟨(A127, c127), trivial, ?_, ?_, rfl⟩
        all_goals ((repeat' (first | exact trivial | exact rfl | refine And.intro ?_ ?_)) <;> (try (conv => whnf)) <;> (try simp only [SV.real, SV.r2, SV.r1]))
      · skip
        (conv => whnf)
        intro g118 hg118
        repeat' ((conv => whnf); first | refine kp ?_ ?_ | exact trivial | fail)
        (conv => whnf)
        refine raw_frzz (d := 977) aAs hrs hBs rfl ?_
        repeat' ((conv => whnf); first | refine side2 ?_ | fail)
        (conv => whnf)
        intro A121 c121
        repeat' ((conv => whnf); first | refine kp ?_ ?_ | exact trivial | refine side2 ?_ | refine Or.inr ?_ | fail)
        (conv => whnf)
        intro A127 c127
        repeat' ((conv => whnf); first | refine kp ?_ ?_ | exact trivial | refine side2 ?_ | fail)
        refine ⟨(A127, c127), trivial, ?_, ?_, rfl⟩
        all_goals ((repeat' (first | exact trivial | exact rfl | refine And.intro ?_ ?_)) <;> (try (conv => whnf)) <;> (try simp only [SV.real, SV.r2, SV.r1]))
  rintro ⟨A127, c127⟩ -
  dsimp only
  repeat' ((conv => whnf); first | refine walk (Tryz.ok ..) ?_ | fail)
  refine sat_row 80 rfl fun hcap80 _ => ?_
  refine sat_join0 (α := Option (Nat × Nat) × Nat) (fun t => ([(6, .yes, .o 129 t.1 (0 + ((n : Int) - 1).toNat + 1) t.2), (7, .yes, .v (.bool true)), (8, .yes, .v (.int .i64 0))], [(118, .row A127 81 2 (0 + r.segs.length + 1) c127 (xs' ++ [.string (aloneS d 0).1, vt])), (129, .row t.1 51 3 (0 + ((n : Int) - 1).toNat + 1) t.2 (m.xs.take ((n - 1) * 3) ++ [.string r.kind, .string r.ref, .slice (adr A127) (0 + r.segs.length + 1) c127])), (80, .row m.A 51 3 n m.c m.xs), (977, .own m.S (Frz m.wS m.S)), (903, .own gd (Frz wd gd)), (901, .own gl (Frz wl gl))])) (fun _ => True) (fun _ => rfl) ?_ ?_
  · refine sat_draw (COk.with_ (Tryz.ok ..) _ _) [] [(17, .blk g17 51 [.v (.string r.kind), .v (.string r.ref), .o 118 A127 (0 + r.segs.length + 1) c127])] (by kernel_rfl) (fun w hw => hw.sub ?_) ?_
    · exact hsub_of rfl
    rw [← hnn] at hall2 ⊢
    repeat' ((conv => whnf); first | refine tw ?_ ?_ | refine side2 ?_ | refine sideL2 ?_ | fail)
    · skip
      (conv => whnf)
      intro g129 hg129
      repeat' ((conv => whnf); first | refine kp ?_ ?_ | refine tw ?_ ?_ | exact trivial | refine side2 ?_ | fail)
      · skip
        (conv => whnf)
        intro A135 c135
        repeat' ((conv => whnf); first | refine kp ?_ ?_ | exact trivial | refine side2 ?_ | fail)
        (conv => whnf)
        intro g137 hg137
        repeat' ((conv => whnf); first | refine kp ?_ ?_ | exact trivial | refine side2 ?_ | refine Or.inr ?_ | fail)
        (conv => whnf)
        intro A138 c138
        repeat' ((conv => whnf); first | refine kp ?_ ?_ | exact trivial | refine side2 ?_ | fail)
        refine ⟨(A138, c138), trivial, ?_, ?_, rfl⟩
        all_goals ((repeat' (first | exact trivial | exact rfl | refine And.intro ?_ ?_)) <;> (try (conv => whnf)) <;> (try simp only [SV.real, SV.r2, SV.r1]))
      · skip
        (conv => whnf)
        intro g137 hg137
        repeat' ((conv => whnf); first | refine kp ?_ ?_ | exact trivial | refine side2 ?_ | fail)
        (conv => whnf)
        intro A135 c135
        repeat' ((conv => whnf); first | refine kp ?_ ?_ | exact trivial | refine side2 ?_ | refine Or.inr ?_ | fail)
        (conv => whnf)
        intro A138 c138
        repeat' ((conv => whnf); first | refine kp ?_ ?_ | exact trivial | refine side2 ?_ | fail)
        refine ⟨(A138, c138), trivial, ?_, ?_, rfl⟩
        all_goals ((repeat' (first | exact trivial | exact rfl | refine And.intro ?_ ?_)) <;> (try (conv => whnf)) <;> (try simp only [SV.real, SV.r2, SV.r1]))
    · skip
      (conv => whnf)
      intro g137 hg137
      repeat' ((conv => whnf); first | refine kp ?_ ?_ | exact trivial | refine side2 ?_ | fail)
      (conv => whnf)
      intro g129 hg129
      repeat' ((conv => whnf); first | refine kp ?_ ?_ | exact trivial | refine side2 ?_ | fail)
      (conv => whnf)
      intro A135 c135
      repeat' ((conv => whnf); first | refine kp ?_ ?_ | exact trivial | refine side2 ?_ | refine Or.inr ?_ | fail)
      (conv => whnf)
      intro A138 c138
      repeat' ((conv => whnf); first | refine kp ?_ ?_ | exact trivial | refine side2 ?_ | fail)
      refine ⟨(A138, c138), trivial, ?_, ?_, rfl⟩
      all_goals ((repeat' (first | exact trivial | exact rfl | refine And.intro ?_ ?_)) <;> (try (conv => whnf)) <;> (try simp only [SV.real, SV.r2, SV.r1]))
  rintro ⟨A138, c138⟩ -
  dsimp only
  repeat' ((conv => whnf); first | refine walk (Tryz.ok ..) ?_ | fail)
  have hdl2 : doneL { r with segs := r.segs ++ [((aloneS d 0).1, d.tail)] } = r.out ++ [⟨r.kind, r.ref, r.segs ++ [((aloneS d 0).1, d.tail)]⟩] := by unfold doneL; rw [if_pos ho]; rfl
  have hl2 : (doneL { r with segs := r.segs ++ [((aloneS d 0).1, d.tail)] }).length = n := by rw [hdl2, List.length_append, hn1]; rfl
  have hle3 : (n - 1) * 3 ≤ m.xs.length := by rw [hlen2]; exact Nat.mul_le_mul_right _ (by omega)
  have hl3 : (m.xs.take ((n - 1) * 3)).length = (n - 1) * 3 := by rw [List.length_take]; omega
  refine done_inY (.t [.o 80 A138 n c138, .v (.bool true), .v (.int .i64 0)]) (by
    show Value.tuple #[.slice (adr A138) n c138, _, _] = Value.tuple #[.slice (adr A138) (0 + ((n : Int) - 1).toNat + 1) c138, _, _]
    rw [show 0 + ((n : Int) - 1).toNat + 1 = n by omega]) fun w hw => ?_
  have e1 : 0 + ((n : Int) - 1).toNat + 1 = n := by omega
  have e2 : 0 + r.segs.length + 1 = (r.segs ++ [((aloneS d 0).1, d.tail)]).length := by simp
  rw [e1, e2] at hw
  have hcap118 := row_caps hw (id := 118) rfl
  have hro118 := ro_of_row hw (id := 118) rfl
  have hf977 := frz_of (d := 977) (gs := m.S) (w0 := m.wS) rfl hw
  have hf903 := frz_of (d := 903) (gs := gd) (w0 := wd) rfl hw
  have hs977 := gsub hw [977, 118, 903] 977 rfl rfl
  have hs903 := gsub hw [977, 118, 903] 903 rfl rfl
  have hs118 := gsub hw [977, 118, 903] 118 rfl rfl
  have hw1 := hw.fuse_ 977 [977, 118, 903] rfl
  generalize hgs : gsOf _ [977, 118, 903] = gs at hs977 hs903 hs118 hw1
  have hw2 := hw1.rename 129 80 rfl (by decide)
  have hk := h2 _ ⟨A138, c138, m.xs.take ((n - 1) * 3) ++ [.string r.kind, .string r.ref, .slice (adr A127) (r.segs ++ [((aloneS d 0).1, d.tail)]).length c127], w, gs⟩ hst ⟨?_, ?_, ?_⟩ (by rw [hl2, hn]; omega)
  · rw [hl2, show ({ r with segs := r.segs ++ [((aloneS d 0).1, d.tail)] } : Rst).opn = true from ho] at hk
    exact ⟨_, hw2.sub (hsub_of rfl), hk⟩
  · rw [hl2]
    show (m.xs.take ((n - 1) * 3) ++ [_, _, _]).length = _
    rw [List.length_append, hl3]
    simp
    omega
  · rw [hdl2]
    intro j a ha
    show MsgR NS w (fun g => g ∈ gs) (cut1 (m.xs.take ((n - 1) * 3) ++ [_, _, _]) 3 j) a
    have hno : r.out.length = n - 1 := by omega
    rcases snoc_at ha with ⟨hj, ha⟩ | ⟨hj, rfl⟩
    · rw [cut1_old hl3 (by omega), cut1_take (by omega) hle3]
      exact msgr_stays ns_stays _ _ _ _ _ _ (hm.at_ j a (by rw [hdl, List.getElem?_append_left hj]; exact ha)) (fun g hg _ => hf977 g hg) hs977
    · rw [hj, hno, cut1_new hl3 rfl]
      refine ⟨_, rfl, adr A127, A127, c127, _, rfl, AtN.refl _ _, hcap118, hro118, fun q hq _ => hs118 q.1 (by rw [hq]; exact List.mem_singleton_self _), fun i a ha => ?_⟩
      rcases snoc_at ha with ⟨hi, ha⟩ | ⟨hi, rfl⟩
      · rw [cut1_old hrs.1 hi]
        exact segr_stays ns_stays _ _ _ _ _ _ (hxs i a ha) (fun g hg _ => hf977 g hg) hs977
      · rw [hi, cut1_new hrs.1 rfl]
        exact ⟨vt, rfl, ns_stays _ _ _ _ _ _ (by rw [hvtv]; exact hvt) (fun g hg _ => hf903 g hg) hs903⟩
  · rw [hdl2]
    intro x
    show x ∈ r.met ↔ _
    rw [hm.met, hdl]
    simp [Rst.msg]
end
section
open Go Sat Go.RowKit Go.PlainAid
set_option maxRecDepth 100000 in
set_option maxHeartbeats 16000000 in
theorem rReadM_any (s : ByteArray) (w : World) :
    Calls Tryz.prog 10 #[.string s] w (Gives (fun v => .tuple #[v, .int .i64 (readG s.data.toList).2.1, .int .i64 (readG s.data.toList).2.2]) (fun w B v => NMsgs NS w B v (readG s.data.toList).1) w) := by
  refine calls_sat (cx := Tryz.cx 52 [6] [] [] w) (Tryz.ok ..) Tryz.func10 rfl [.v (.string s)] rfl (by show 1 ≤ 52; omega) [] (holds_nil (Nat.le_refl _)) ?_
  obtain ⟨t, ht⟩ : ∃ t, t = s.data.toList := ⟨_, rfl⟩
  obtain ⟨l, hl⟩ : ∃ l, l = (readE t).1 := ⟨_, rfl⟩
  obtain ⟨pa, hpa⟩ : ∃ l, l = (readE t).2.1 := ⟨_, rfl⟩
  obtain ⟨pe, hpe⟩ : ∃ l, l = (readE t).2.2 := ⟨_, rfl⟩
  rw [← ht]
  repeat' ((conv => whnf); first | refine walk (Tryz.ok ..) ?_ | fail)
  (conv => whnf)
  refine called_nest 901 (mk := fun v => .tuple #[v, .int .i64 pa, .int .i64 pe]) (Q := fun w B v => NL w B v l) (fun v => .t [.v v, .v (.int .i64 pa), .v (.int .i64 pe)]) (fun _ => rfl) (fun w' _ => by rw [hl, hpa, hpe, ht]; exact rRead_any s _ rfl w') ?_
  intro wl gl vl hvl
  obtain ⟨Al, cl, xl, rfl, hcl, hrl, hBl, hxl⟩ := hvl
  by_cases he : pe = 0
  case neg =>
    have hG : readG t = ([], pa, pe) := by unfold readG; rw [if_neg (by rw [← hpe]; exact he), hpa, hpe]
    rw [hG]
    repeat' ((conv => whnf); first | refine walk (Tryz.ok ..) ?_ | (refine Cnd.mk (fun h => ?_) (fun h => ?_) <;> (first | exact cndT h (by (try dsimp only); omega) | exact cndF h (by (try dsimp only); omega) | (exfalso; simp at h; omega) | simp at h | skip)) | fail)
    all_goals first | exact done_fuse (v := .slice none 0 0) rfl rfl [] (fun w _ => nestz_nil) rfl | omega
  subst he
  have hG : readG t = runG l 0 rst0 := by unfold readG; rw [if_pos hpe.symm, hl]
  have hag : Again t l pa := by
    refine again ?_
    by_cases h5 : 65536 < t.length
    · exfalso
      unfold readE at hpe
      rw [if_pos h5] at hpe
      cases hpe
    · unfold readE at hl hpa hpe
      rw [if_neg h5] at hl hpa hpe
      rw [hl, hpa, hpe]
  have hfew := hag.few
  have hmax : l.length ≤ 9223372036854775807 := by omega
  rw [hG]
  repeat' ((conv => whnf); first | refine walk (Tryz.ok ..) ?_ | (refine Cnd.mk (fun h => ?_) (fun h => ?_) <;> (first | exact cndT h (by (try dsimp only); omega) | exact cndF h (by (try dsimp only); omega) | (exfalso; simp at h; omega) | simp at h | skip)) | fail)
  refine sat_fuse 977 [] rfl fun w0 hw0 => ?_
  refine sat_ops (Tryz.ok ..) ?_
  repeat' ((conv => whnf); first | refine walk (Tryz.ok ..) ?_ | fail)
  refine sat_loop (Tryz.ok ..) (α := Nat × Rst × RR) (fun u => ([(5, .yes, .v (.slice (adr Al) l.length cl)), (8, .yes, .o 80 u.2.2.A (doneL u.2.1).length u.2.2.c), (9, .yes, .v (.bool u.2.1.opn)), (10, .yes, .v (.int .i64 u.1))], rH2 u.2.2 (doneL u.2.1).length wl gl))
    (fun u => u.1 ≤ l.length ∧ ROk u.2.2 u.2.1 ∧ u.2.1.segs.length ≤ u.1 ∧ (doneL u.2.1).length ≤ u.1 ∧ runG (l.drop u.1) u.1 u.2.1 = runG l 0 rst0) (fun u => l.length - u.1) (fun _ => rfl) ?_ ?_
  · refine ⟨(0, rst0, ⟨none, 0, [], w0, []⟩), ⟨Nat.zero_le _, ⟨rfl, fun i a h => (by cases h), fun x => Iff.rfl⟩, Nat.zero_le _, Nat.zero_le _, rfl⟩, ?_, ?_, rfl⟩
    all_goals ((repeat' (first | exact trivial | exact rfl | refine And.intro ?_ ?_)) <;> (try (conv => whnf)) <;> (try simp only [SV.real, SV.r2, SV.r1]))
  rintro ⟨k, r, m⟩ ⟨hk, hm, hsn, hon, hrun⟩
  dsimp only at hk hm hsn hon hrun ⊢
  by_cases hk1 : k < l.length
  case neg =>
    obtain rfl : k = l.length := by omega
    rw [List.drop_length] at hrun
    have hrun : (if r.opn = true then ([], (l.length : Int), (52 : Int)) else (r.out, 0, 0)) = runG l 0 rst0 := hrun
    cases ho : r.opn with
    | true =>
      rw [if_pos ho] at hrun
      rw [← hrun]
      repeat' ((conv => whnf); first | refine walk (Tryz.ok ..) ?_ | (refine Cnd.mk (fun h => ?_) (fun h => ?_) <;> (first | exact cndT h (by (try dsimp only); omega) | exact cndF h (by (try dsimp only); omega) | (exfalso; simp at h; omega) | simp at h | skip)) | fail)
      all_goals first | exact done_fuse (v := .slice none 0 0) rfl rfl [] (fun w _ => nestz_nil) rfl | omega
    | false =>
      rw [if_neg (by rw [ho]; simp)] at hrun
      rw [← hrun]
      have hdl : doneL r = r.out := by unfold doneL; rw [ho]; simp
      have hme := hm.at_
      rw [hdl] at hme ⊢
      repeat' ((conv => whnf); first | refine walk (Tryz.ok ..) ?_ | (refine Cnd.mk (fun h => ?_) (fun h => ?_) <;> (first | exact cndT h (by (try dsimp only); omega) | exact cndF h (by (try dsimp only); omega) | (exfalso; simp at h; omega) | simp at h | skip)) | fail)
      refine done_fuse (v := .slice (adr m.A) r.out.length m.c) rfl rfl [80, 977] (fun w' hw' => ?_) rfl
      exact ⟨adr m.A, m.A, m.c, m.xs, rfl, AtN.refl _ _, row_caps hw' (id := 80) rfl, ro_of_row hw' (id := 80) rfl, fun p hp _ => gs_sub (i := 80) rfl rfl (by rw [hp]; simp [HB.gs]), fun i a ha => fuseC (msgr_stays ns_stays) [80, 977] 977 (hme i a ha) hw' rfl rfl⟩
  obtain ⟨sg, hs⟩ : ∃ s, l[k]? = some s := ⟨_, List.getElem?_eq_getElem hk1⟩
  obtain ⟨x, hx, hne⟩ := nest_at hxl hrl.1 hs
  obtain ⟨p, rfl, _⟩ := hrl.some_ (by omega)
  obtain ⟨ax, nx, cx, rfl⟩ := ns_slV hne
  have hfd := fewD_right (List.all_eq_true.1 hag.right sg (List.mem_of_getElem? hs))
  have hft := trimS_few hfd
  have hdrop : l.drop k = sg :: l.drop (k + 1) := drop_at hs
  rw [hdrop, runG] at hrun
  repeat' ((conv => whnf); first | refine walk (Tryz.ok ..) ?_ | (refine Cnd.mk (fun h => ?_) (fun h => ?_) <;> (first | exact cndT h (by (try dsimp only); omega) | exact cndF h (by (try dsimp only); omega) | (exfalso; simp at h; omega) | simp at h | skip)) | refine side2 ?_ | refine xi _ (frz_at (d := 901) hrl hBl hx rfl rfl) ?_ | fail)
  (conv => whnf)
  refine called_nest 903 (mk := id) (Q := fun w B v => NS w B v (trimS sg)) (fun v => .v v) (fun _ => rfl) (fun w' hh => by exact rtrim_any sg _ w' (ns_arg (frz_nest ns_stays hne (d := 901) rfl hh)) hfd.s) ?_
  intro wd gd vd hvd
  obtain ⟨d, hdd⟩ : ∃ d, d = trimS sg := ⟨_, rfl⟩
  rw [← hdd] at hvd hrun hft
  obtain ⟨ad, nd, cd, rfl⟩ := ns_slV hvd
  skip
  (conv => whnf)
  rcases Bool.eq_false_or_eq_true r.opn with ho | ho
  · refine called_lay [.o 80 m.A (doneL r).length m.c, .v (.bool r.opn), .v (.slice ad nd cd)] (rH m (doneL r).length wd gd wl gl) rfl (fun w hw => hw.sub (hsub_of rfl)) ?_
    refine Called.cx_ (cx := Tryz.cxg 52 [] [] [] w.heap.size [] w) (cx' := Tryz.cxg 52 [6] [] [] w.heap.size [] w) rfl rfl rfl rfl ?_
    refine rstep_open m r d _ wd gd wl gl hm hvd hft (by omega) (by omega) ho (fun e b H he => ?_) (fun r' m' hr' hm' hle => ?_)
    · have hc := stepG_code he
      rw [he] at hrun
      dsimp only at hrun
      rw [← hrun]
      repeat' ((conv => whnf); first | refine walk (Tryz.ok ..) ?_ | (refine Cnd.mk (fun h => ?_) (fun h => ?_) <;> (first | exact cndT h (by (try dsimp only); omega) | exact cndF h (by (try dsimp only); omega) | (exfalso; simp at h; omega) | simp at h | skip)) | fail)
      all_goals first | exact done_fuse (v := .slice none 0 0) rfl rfl [] (fun w _ => nestz_nil) rfl | omega
    · rw [hr'] at hrun
      dsimp only at hrun
      have hlen := stepG_len hr'
      repeat' ((conv => whnf); first | refine walk (Tryz.ok ..) ?_ | (refine Cnd.mk (fun h => ?_) (fun h => ?_) <;> (first | exact cndT h (by (try dsimp only); omega) | exact cndF h (by (try dsimp only); omega) | (exfalso; simp at h; omega) | simp at h | skip)) | refine sideL2 ?_ | fail)
      refine ⟨(k + 1, r', m'), ⟨⟨hk1, hm', by have := hlen.1; show r'.segs.length ≤ k + 1; omega, by show (doneL r').length ≤ k + 1; omega, hrun⟩, by show l.length - (k + 1) < l.length - k; omega⟩, ?_, ?_, rfl⟩
      all_goals ((repeat' (first | exact trivial | exact rfl | refine And.intro ?_ ?_)) <;> (try (conv => whnf)) <;> (try simp only [SV.real, SV.r2, SV.r1]))
  · refine called_lay [.o 80 m.A (doneL r).length m.c, .v (.bool r.opn), .v (.slice ad nd cd)] (rH m (doneL r).length wd gd wl gl) rfl (fun w hw => hw.sub (hsub_of rfl)) ?_
    refine Called.cx_ (cx := Tryz.cxg 52 [] [] [] w.heap.size [] w) (cx' := Tryz.cxg 52 [6] [] [] w.heap.size [] w) rfl rfl rfl rfl ?_
    refine rstep_closed m r d _ wd gd wl gl hm hvd hft (by omega)  ho (fun e b H he => ?_) (fun r' m' hr' hm' hle => ?_)
    · have hc := stepG_code he
      rw [he] at hrun
      dsimp only at hrun
      rw [← hrun]
      repeat' ((conv => whnf); first | refine walk (Tryz.ok ..) ?_ | (refine Cnd.mk (fun h => ?_) (fun h => ?_) <;> (first | exact cndT h (by (try dsimp only); omega) | exact cndF h (by (try dsimp only); omega) | (exfalso; simp at h; omega) | simp at h | skip)) | fail)
      all_goals first | exact done_fuse (v := .slice none 0 0) rfl rfl [] (fun w _ => nestz_nil) rfl | omega
    · rw [hr'] at hrun
      dsimp only at hrun
      have hlen := stepG_len hr'
      repeat' ((conv => whnf); first | refine walk (Tryz.ok ..) ?_ | (refine Cnd.mk (fun h => ?_) (fun h => ?_) <;> (first | exact cndT h (by (try dsimp only); omega) | exact cndF h (by (try dsimp only); omega) | (exfalso; simp at h; omega) | simp at h | skip)) | refine sideL2 ?_ | fail)
      refine ⟨(k + 1, r', m'), ⟨⟨hk1, hm', by have := hlen.1; show r'.segs.length ≤ k + 1; omega, by show (doneL r').length ≤ k + 1; omega, hrun⟩, by show l.length - (k + 1) < l.length - k; omega⟩, ?_, ?_, rfl⟩
      all_goals ((repeat' (first | exact trivial | exact rfl | refine And.intro ?_ ?_)) <;> (try (conv => whnf)) <;> (try simp only [SV.real, SV.r2, SV.r1]))
end
end Go.Proofs.YtdohcglpcgahaaaGreatDoor
