import Derived.Test.YtdohcglpcgahaaaGreatDoorSatA
import Derived.Maps.AppendAt
import Derived.TacticsIn
import Derived.OrdersIn
import Derived.OwnWalkIn
import Derived.RangeFuncRecord
import Derived.Deep.LoopGhost
import Derived.OrdersHeld
import Derived.Laws.StructEq
import Derived.KernelRfl
import Derived.Laws.CopyRow
import Derived.ChangeKeysEq
set_option linter.unusedSimpArgs false
set_option linter.unusedVariables false
namespace Go.Proofs.YtdohcglpcgahaaaGreatDoor.Sat
open Go Go.RowKit Go.PlainAid
def hdel : Heap → Nat → Heap
  | [], _ => []
  | (i, h) :: H, j => bif Nat.beq i j then hdel H j else (i, h) :: hdel H j
theorem hdel_mem {H : Heap} {j : Nat} {e : Nat × HB} (h : e ∈ hdel H j) : e ∈ H ∧ e.1 ≠ j := by
  induction H with
  | nil => cases h
  | cons x H ih =>
    obtain ⟨i, b⟩ := x
    simp only [hdel] at h
    cases hb : Nat.beq i j
    · rw [hb] at h
      simp only [cond, List.mem_cons] at h
      rcases h with rfl | h
      · exact ⟨List.mem_cons_self .., fun e => by rw [show i = j from e, show Nat.beq j j = true from by simp] at hb; cases hb⟩
      · exact ⟨List.mem_cons_of_mem _ (ih h).1, (ih h).2⟩
    · rw [hb] at h
      exact ⟨List.mem_cons_of_mem _ (ih h).1, (ih h).2⟩
theorem HB.lt {cx : Cx} {w : World} {b : HB} (h : b.holds cx w) {g : Nat} (hg : g ∈ b.gs) : g < w.heap.size := by
  cases b with
  | blk g' ty cs => simp only [HB.gs, List.mem_singleton] at hg; subst hg; exact heap_lt h.2
  | row A e size n cap xs =>
    simp only [HB.gs, Option.mem_toList, Option.map_eq_some_iff] at hg
    obtain ⟨p, rfl, rfl⟩ := hg
    have hr : w.ownsRow cx.n0 e size (.slice (adr (some p)) n cap) n xs := h
    exact (hr.lt p.1 rfl).2
  | ro A n size xs => simp [HB.gs] at hg
  | dfr D => simp only [HB.gs, List.mem_singleton] at hg; subst hg; exact heap_lt h.2
  | lp g' N f ps asg body D st pend =>
    simp only [HB.gs, List.mem_singleton] at hg; subst hg
    obtain ⟨_, fn, tmps, h2, _⟩ := h
    exact heap_lt h2
  | own gs P => exact (h.1 g hg).2
theorem HB.free {cx : Cx} {w : World} {b : HB} (h : b.holds cx w) {g : Nat} (hg : g ∈ b.gs) : cx.n0 ≤ g ∨ g ∈ cx.M := by
  cases b with
  | blk g' ty cs => simp only [HB.gs, List.mem_singleton] at hg; subst hg; exact h.1
  | row A e size n cap xs =>
    simp only [HB.gs, Option.mem_toList, Option.map_eq_some_iff] at hg
    obtain ⟨p, rfl, rfl⟩ := hg
    have hr : w.ownsRow cx.n0 e size (.slice (adr (some p)) n cap) n xs := h
    exact .inl (hr.lt p.1 rfl).1
  | ro A n size xs => simp [HB.gs] at hg
  | dfr D => simp only [HB.gs, List.mem_singleton] at hg; subst hg; exact .inl h.1
  | lp g' N f ps asg body D st pend =>
    simp only [HB.gs, List.mem_singleton] at hg; subst hg
    exact .inl h.1
  | own gs P => exact .inl (h.1 g hg).1
/-- an entry is kept where its blocks are -/
theorem HB.keep {cx : Cx} {w w' : World} {b : HB} (h : b.holds cx w) (hk : ∀ g, g ∈ b.gs → w'.heap[g]? = w.heap[g]?) : b.holds cx w' := by
  cases b with
  | blk g' ty cs => exact ⟨h.1, (hk g' (List.mem_singleton_self _)).trans h.2⟩
  | row A e size n cap xs =>
    obtain ⟨h1, h2⟩ := h
    refine ⟨h1, ?_⟩
    rcases h2 with h2 | ⟨g, cap', cur, h2, h3, h4, h5⟩
    · exact .inl h2
    · refine .inr ⟨g, cap', cur, h2, h3, (hk g ?_).trans h4, h5⟩
      cases A with
      | none => cases h2
      | some p => injection h2 with h2; simp [adr] at h2; simp [HB.gs, h2.1]
  | ro A n size xs => exact h
  | dfr D => exact ⟨h.1, (hk D (List.mem_singleton_self _)).trans h.2⟩
  | lp g' N f ps asg body D st pend =>
    obtain ⟨h1, fn, tmps, h2, h3⟩ := h
    exact ⟨h1, fn, tmps, (hk g' (List.mem_singleton_self _)).trans h2, h3⟩
  | own gs P =>
    refine ⟨fun g hg => ⟨(h.1 g hg).1, ?_⟩, h.2.2 w' hk, fun w2 hk2 => h.2.2 w2 fun g hg => (hk2 g hg).trans (hk g hg)⟩
    have h1 := (h.1 g hg).2
    rcases Nat.lt_or_ge g w'.heap.size with h2 | h2
    · exact h2
    · have h3 := hk g hg
      rw [Array.getElem?_eq_none h2, Array.getElem?_eq_getElem h1] at h3
      cases h3
/-- the world has turned at block g alone, and above; entry d is anew -/
theorem Holds.turn {cx : Cx} {H : Heap} {w w' : World} (h : Holds cx H w) (d : Nat) (b : HB) (hk : Keep cx.n0 cx.M w w') (hb : b.holds cx w')
    (hold : ∀ e ∈ hdel H d, ∀ g, g ∈ e.2.gs → w'.heap[g]? = w.heap[g]? ∧ g ∉ b.gs) : Holds cx ((d, b) :: hdel H d) w' := by
  refine ⟨h.keep.trans hk, h.n0, fun e he => ?_, fun i x j y hi hj hne g hgx hgy => ?_⟩
  · rw [List.mem_cons] at he
    rcases he with rfl | he
    · exact hb
    · exact HB.keep (h.ent e (hdel_mem he).1) fun g hg => (hold e he g hg).1
  · rw [List.mem_cons] at hi hj
    rcases hi with hi | hi <;> rcases hj with hj | hj
    · cases hi; cases hj; exact hne rfl
    · cases hi; exact (hold _ hj g hgy).2 hgx
    · cases hj; exact (hold _ hi g hgx).2 hgy
    · exact h.sep i x j y (hdel_mem hi).1 (hdel_mem hj).1 hne g hgx hgy
/-- a new block -/
theorem Holds.new_ {cx : Cx} {H : Heap} {w : World} (h : Holds cx H w) (d : Nat) (cs : List SV) (ty : TypeId) : Holds cx ((d, .blk w.heap.size ty cs) :: hdel H d) (w.alloc (.cells (cs.map SV.r1).toArray ty)) := by
  have hn : cx.n0 ≤ w.heap.size := Nat.le_trans h.n0 h.keep.size
  refine h.turn d _ ⟨rfl, rfl, rfl, by simp, fun k hk _ => Below.heap_alloc w _ k (by omega)⟩ ⟨.inl hn, heap_alloc_new w _⟩ fun e he g hg => ?_
  have hlt := HB.lt (h.ent e (hdel_mem he).1) hg
  exact ⟨Below.heap_alloc w _ g hlt, by simp only [HB.gs, List.mem_singleton]; omega⟩
/-- cells of a known block anew -/
theorem Holds.set_ {cx : Cx} {H : Heap} {w : World} (h : Holds cx H w) {d : Nat} {g ty : Nat} {cs : List SV} (hd : hfind H d = some (.blk g ty cs)) (cs' : List SV) : Holds cx ((d, .blk g ty cs') :: hdel H d) (w.setRow g (cs'.map SV.r1).toArray) := by
  have hb : (HB.blk g ty cs).holds cx w := h.at_ hd
  refine h.turn d _ ⟨rfl, rfl, rfl, by simp, fun k hk hm => setRow_other w g k _ ?_⟩ ⟨hb.1, setRow_heap w g _ _ ty _ hb.2⟩ fun e he g' hg => ?_
  · rintro rfl
    rcases hb.1 with h1 | h1
    · omega
    · exact hm h1
  · obtain ⟨he1, he2⟩ := hdel_mem he
    have hne : g' ≠ g := by
      rintro rfl
      exact h.sep _ _ _ _ he1 (hfind_mem hd) he2 g' hg (List.mem_singleton_self _)
    exact ⟨setRow_other w g g' _ hne, by simp only [HB.gs, List.mem_singleton]; exact hne⟩
/-- an owned row is followed by another one -/
theorem Holds.grown {cx : Cx} {H : Heap} {w w' : World} (h : Holds cx H w) {d : Nat} {A A' : Option (Nat × Nat)} {e size n cap n' cap' : Nat} {xs : List Value}
    (hA : ∀ g, g ∈ (HB.row A e size n cap []).gs → cx.n0 ≤ g ∧ ∀ x ∈ hdel H d, g ∉ x.2.gs) (hg : w.grownBy w' (A.map Prod.fst)) (hr : w'.ownsRow cx.n0 e size (.slice (adr A') n' cap') n' xs)
    (hA' : A'.map Prod.fst = A.map Prod.fst ∨ A'.map Prod.fst = some w.heap.size) : Holds cx ((d, .row A' e size n' cap' xs) :: hdel H d) w' := by
  have hn : cx.n0 ≤ w.heap.size := Nat.le_trans h.n0 h.keep.size
  refine h.turn d _ ⟨hg.os, hg.tape, hg.output, hg.size, fun k hk _ => hg.block k (by omega) fun e => ?_⟩ hr fun x hx g hgx => ⟨hg.block g (HB.lt (h.ent x (hdel_mem hx).1) hgx) fun e => ?_, fun hm => ?_⟩
  · have := (hA k (by simp only [HB.gs, Option.mem_toList]; exact e.symm)).1
    omega
  · exact (hA g (by simp only [HB.gs, Option.mem_toList]; exact e.symm)).2 x hx hgx
  · simp only [HB.gs, Option.mem_toList] at hm
    have hm : A'.map Prod.fst = some g := hm
    rcases hA' with h1 | h1
    · rw [h1] at hm
      exact (hA g (by simp only [HB.gs, Option.mem_toList]; exact hm)).2 x hx hgx
    · rw [h1] at hm
      injection hm with hm
      have := HB.lt (h.ent x (hdel_mem hx).1) hgx
      omega
def repl : Nat → List SV → List SV
  | 0, _ => []
  | k + 1, l => l ++ repl k l
theorem repl_len (k : Nat) (l : List SV) : (repl k l).length = k * l.length := by
  induction k with
  | zero => simp [repl]
  | succ k ih => rw [repl, List.length_append, ih, Nat.succ_mul]; omega
theorem repl_get (k : Nat) (l : List SV) {j : Nat} (hj : j < k * l.length) : (repl k l)[j]? = l[j % l.length]? := by
  induction k generalizing j with
  | zero => simp at hj
  | succ k ih =>
    rw [repl]
    by_cases h : j < l.length
    · rw [List.getElem?_append_left h, Nat.mod_eq_of_lt h]
    · rw [List.getElem?_append_right (by omega), ih (by rw [Nat.succ_mul] at hj; omega), Nat.mod_eq_sub_mod (a := j) (by omega)]
theorem made_repl (k : Nat) (z : Value) (sz : Nat) (hz : z.cells.size = sz) : madeCells z.cells (k * sz) = ((repl k (svCells z)).map SV.r1).toArray := by
  subst hz
  have hl : (svCells z).length = z.cells.size := by unfold svCells; simp
  apply Array.toList_inj.1
  apply List.ext_getElem?
  intro j
  by_cases hj : j < k * z.cells.size
  · have h1 := repl_get k (svCells z) (j := j) (by rw [hl]; exact hj)
    have hpos : 0 < z.cells.size := by
      rcases Nat.eq_zero_or_pos z.cells.size with h | h
      · rw [h] at hj; simp at hj
      · exact h
    have hm := Nat.mod_lt j hpos
    simp only [List.getElem?_map, h1, hl]
    unfold madeCells svCells
    simp [hj, hm]
    rfl
  · have h1 : (repl k (svCells z)).length ≤ j := by rw [repl_len, hl]; omega
    simp only [List.getElem?_map, List.getElem?_eq_none h1]
    unfold madeCells
    simp
    omega
end Go.Proofs.YtdohcglpcgahaaaGreatDoor.Sat
namespace Go.Proofs.YtdohcglpcgahaaaGreatDoor.Sat
open Go Go.RowKit Go.PlainAid
def allV : List Value → Bool
  | [] => true
  | v :: l => bif v.oneCell' then allV l else false
theorem allV_mem {l : List Value} (h : allV l = true) : ∀ u ∈ l, u.oneCell' = true := by
  induction l with
  | nil => intro u hu; cases hu
  | cons v l ih =>
    unfold allV at h
    cases hv : v.oneCell'
    · rw [hv] at h; cases h
    · rw [hv] at h
      intro u hu
      rcases List.mem_cons.1 hu with rfl | hu
      · exact hv
      · exact ih h u hu
theorem allV_of {l : List Value} (h : ∀ u ∈ l, u.oneCell' = true) : allV l = true := by
  induction l with
  | nil => rfl
  | cons v l ih =>
    unfold allV
    rw [h v List.mem_cons_self]
    exact ih fun u hu => h u (List.mem_cons_of_mem _ hu)
/-- cells that are read of a slice known by its value alone -/
structure RawSrc (cx : Cx) (H : Heap) (sz : Nat) (x : Option Addr) (m c : Nat) (K : Nat → List Value → Prop) : Prop where
  out : (SV.real (.v (.slice x m c)) = .slice none 0 0 ∧ K 0 []) ∨ ∃ news, K m news ∧ news.length = m * sz ∧ ∀ w, Holds cx H w → (∃ ad, x = some ad ∧ ∀ (j : Nat) (u : Value), news[j]? = some u → w.cell? (ad.add j) = some u) ∨ (x = none ∧ m = 0 ∧ news = [])
/-- where appended or copied cells come from -/
def vcSrc (cx : Cx) (H : Heap) (sz : Nat) (x : SV) (K : Nat → List Value → Prop) : Prop :=
  match x with
  | .v (.slice a m c) => RawSrc cx H sz a m c K
  | .s id g b off m _ => match hfind H id with
    | some (.blk g' _ cs) => (g = g' ∧ b = 0) ∧ (off + m * sz ≤ cs.length) ∧ K m (((cs.drop off).take (m * sz)).map SV.r1)
    | some (.row A _ _ _ _ xs) => (g = (A.getD (0, 0)).1 ∧ b = (A.getD (0, 0)).2) ∧ (off + m * sz ≤ xs.length) ∧ K m ((xs.drop off).take (m * sz))
    | some (.ro A _ _ xs) => (g = (A.getD (0, 0)).1 ∧ b = (A.getD (0, 0)).2) ∧ (off + m * sz ≤ xs.length) ∧ K m ((xs.drop off).take (m * sz))
    | _ => False
  | .o id A m _ => match hfind H id with
    | some (.row A' _ _ _ _ xs) => A = A' ∧ (m * sz ≤ xs.length) ∧ K m (xs.take (m * sz))
    | some (.ro A' _ _ xs) => A = A' ∧ (m * sz ≤ xs.length) ∧ K m (xs.take (m * sz))
    | _ => False
  | _ => False
structure Called (cx : Cx) (n : Nat) (args : List SV) (H : Heap) (K : SV → Heap → Prop) : Prop where
  out : ∀ w, Holds cx H w → Calls cx.P n (args.map SV.real).toArray w fun e w' => ∃ v H', e = .returned v.real ∧ Holds cx H' w' ∧ K v H'
/-- every frame is let in; R: the loop's record whose round it is -/
def fen (R : Option Nat) : Fence := { Fence.wide with round := R }
theorem callsIn_fen {R : Option Nat} {n : Nat} {P : Program} {f : FuncId} {args : Array Value} {w : World} {Q : Ending → World → Prop} (h : Calls P f args w Q) : CallsIn (fen R) n P f args w Q := callsIn_wide.2 h
theorem calls_fen {n : Nat} {P : Program} {f : FuncId} {args : Array Value} {w : World} {Q : Ending → World → Prop} (h : CallsIn (fen none) n P f args w Q) : Calls P f args w Q := callsIn_wide.1 h
theorem fen_depth (R : Option Nat) (n : Nat) : (fen R).depth.isSome = true → 1 ≤ n := fun h => by cases h
/-- a call of a loop's yield: a round of it -/
structure Yielded (cx : Cx) (l : Nat) (args : List SV) (H : Heap) (K : SV → Heap → Prop) : Prop where
  out : ∀ w, Holds cx H w → ∃ fn tmps asg body, (Instr.yield l (args.map SV.real).toArray).run cx.P w = .ok (.round l fn tmps asg body) w ∧ RoundIn (fen none) 0 cx.P l fn tmps asg body w fun e w' => ∃ v H', e = .returned v.real ∧ Holds cx H' w' ∧ K v H'
structure CalledQ (cx : Cx) (c : Grd) (n : Nat) (args : List SV) (H : Heap) (K : SV → Prop) : Prop where
  out : ∃ v, (c.holds → ∀ w, Holds cx H w → Calls cx.P n (args.map SV.real).toArray w fun e w' => e = .returned v.real ∧ Holds cx H w') ∧ K v
def memN (l : List Nat) (n : Nat) : Bool :=
  match l with
  | [] => false
  | x :: l => bif Nat.beq x n then true else memN l n
/-- an operation on memory that the evaluator does not know -/
structure OtherM (cx : Cx) (H : Heap) (f : Env) (op : Op) (dst : Option Nat) (K : SV → Heap → Prop) : Prop where
  out : ∀ a w, Fits cx f a → Holds cx H w → ∀ o : Oper, o.op = op → ∃ v H' w', ((execOp a.eval o).run cx.P w = .ok (.value v.real) w' ∨ ((execOp a.eval o).run cx.P w = .ok .skip w' ∧ v.real = undef)) ∧ Holds cx H' w' ∧ K v H'
def vcArgs (fv : SV) (vs : List SV) (K : Nat → List SV → Prop) : Prop :=
  match fv with
  | .v (.func (.func n) ⟨[]⟩ ⟨[]⟩) => K n vs
  | .v (.func (.func n) a b) => K n (a.toList.map .v ++ vs ++ b.toList.map .v)
  | .fn (.func n) us ws => (us.all SV.base && ws.all SV.base) = true ∧ K n (us ++ vs ++ ws)
  | _ => False
def vcAppend0 (cx : Cx) (H : Heap) (d : Nat) (t : TypeId) (s x : SV) (K : SV → Heap → Prop) : Prop :=
  match tfind cx.T t with
  | some ⟨.slice e, _, _, _⟩ => match tfind cx.T e with
    | some j => bif Nat.beq j.size 0 then False else vcSrc cx H j.size x fun m news => (allV news = true) ∧ (match s with
      | .o id A n cap => match hfind H id with
        | some (.row A' e' sz' n' cap' xs) => (A = A' ∧ e = e' ∧ j.size = sz' ∧ n = n' ∧ cap = cap') ∧ ((n + m) * j.bytes ≤ 140737488355328 ∧ n + m ≤ maxLen) ∧
            ((n + m ≤ cap ∧ K (.o id A (n + m) cap) ((id, .row A e j.size (n + m) cap (xs ++ news)) :: hdel H id)) ∨
            ∀ A2 cap2, K (.o id A2 (n + m) cap2) ((id, .row A2 e j.size (n + m) cap2 (xs ++ news)) :: hdel H id))
        | _ => False
      | .v (.slice none _ _) => s.real = .slice none 0 0 ∧ (m * j.bytes ≤ 140737488355328 ∧ m ≤ maxLen) ∧
            ∀ A2 cap2, K (.o d A2 m cap2) ((d, .row A2 e j.size m cap2 news) :: hdel H d)
      | .s id g b off n cap => match hfind H id with
        | some (.blk g' e' cs) => (g = g' ∧ b = 0 ∧ off = 0 ∧ e = e' ∧ cap = n ∧ cs.length = n * j.size) ∧ cx.n0 ≤ g ∧ ((n + m) * j.bytes ≤ 140737488355328 ∧ n + m ≤ maxLen) ∧
            ∀ A2 cap2, K (.o id A2 (n + m) cap2) ((id, .row A2 e j.size (n + m) cap2 (cs.map SV.r1 ++ news)) :: hdel H id)
        | _ => False
      | _ => False)
    | none => False
  | _ => False
structure RawApp (cx : Cx) (H : Heap) (d : Nat) (t : TypeId) (s x : SV) (K : SV → Heap → Prop) : Prop where
  out : ∃ s', s'.real = s.real ∧ vcAppend0 cx H d t s' x K
theorem appnil {cx : Cx} {H : Heap} {d : Nat} {t : TypeId} {a : Option Addr} {n c : Nat} {x : SV} {K : SV → Heap → Prop} (h : Value.slice a n c = .slice none 0 0) (k : vcAppend0 cx H d t (.v (.slice none 0 0)) x K) : RawApp cx H d t (.v (.slice a n c)) x K :=
  ⟨.v (.slice none 0 0), h.symm, k⟩
theorem appat {cx : Cx} {H : Heap} {d : Nat} {t : TypeId} {s x : SV} {K : SV → Heap → Prop} (s' : SV) (h : s'.real = s.real) (k : vcAppend0 cx H d t s' x K) : RawApp cx H d t s x K := ⟨s', h, k⟩
theorem rawnil {cx : Cx} {H : Heap} {sz : Nat} {a : Option Addr} {m c : Nat} {K : Nat → List Value → Prop} (h : Value.slice a m c = .slice none 0 0) (k : K 0 []) : RawSrc cx H sz a m c K := ⟨.inl ⟨h, k⟩⟩
def vcAppend (cx : Cx) (H : Heap) (d : Nat) (t : TypeId) (s x : SV) (K : SV → Heap → Prop) : Prop :=
  match s with
  | .v (.slice a n c) => RawApp cx H d t (.v (.slice a n c)) x K
  | s => vcAppend0 cx H d t s x K
def vcStore0 (cx : Cx) (H : Heap) (t : TypeId) (u val : SV) (K : SV → Heap → Prop) : Prop :=
  match tfind cx.T t with
  | some j => match u with
    | .p id g b off => match hfind H id with
      | some (.blk g' ty cs) => (g = g' ∧ b = 0) ∧ (match val with
        | .a vs => bif Nat.beq t ty then (off = 0 ∧ vs.length = j.size ∧ vs.length = cs.length ∧ allV (vs.map SV.r1) = true) ∧ K (.v undef) ((id, .blk g ty vs) :: hdel H id)
          else (vs.length = j.size ∧ off + vs.length ≤ cs.length ∧ allV (vs.map SV.r1) = true) ∧ K (.v undef) ((id, .blk g ty (cs.take off ++ vs ++ cs.drop (off + vs.length))) :: hdel H id)
        | val => bif one val && Nat.beq j.size 1 then (off < cs.length) ∧ K (.v undef) ((id, .blk g ty (cs.set off val)) :: hdel H id) else False)
      | some (.row A e sz n cap xs) => (g = (A.getD (0, 0)).1 ∧ b = (A.getD (0, 0)).2) ∧ (match val with
        | .a vs => (vs.length = j.size ∧ 0 < vs.length ∧ off + vs.length ≤ xs.length ∧ allV (vs.map SV.r1) = true) ∧ K (.v undef) ((id, .row A e sz n cap (xs.take off ++ vs.map SV.r1 ++ xs.drop (off + vs.length))) :: hdel H id)
        | val => bif one val && Nat.beq j.size 1 then (off < xs.length) ∧ K (.v undef) ((id, .row A e sz n cap (xs.set off val.r1)) :: hdel H id) else False)
      | _ => False
    | _ => False
  | none => False
structure RawStore (cx : Cx) (H : Heap) (t : TypeId) (u val : SV) (K : SV → Heap → Prop) : Prop where
  out : (∃ u', u'.real = u.real ∧ vcStore0 cx H t u' val K) ∨
    ∃ (g off id : Nat) (gs : List Nat) (P P' : World → Prop), u = .v (.pointer (some ⟨g, off, none⟩)) ∧ (∃ j, tfind cx.T t = some j ∧ j.size = 1) ∧ one val = true ∧ hfind H id = some (.own gs P) ∧ g ∈ gs ∧
      (∀ w, Holds cx H w → ∃ cur ty, w.heap[g]? = some (.cells cur ty (0, 0)) ∧ off < cur.size) ∧
      (∀ w cur ty, Holds cx H w → w.heap[g]? = some (.cells cur ty (0, 0)) → off < cur.size → P' (w.setRow g (cur.toList.set off val.r1).toArray)) ∧
      (∀ w w' : World, P' w → (∀ g, g ∈ gs → w'.heap[g]? = w.heap[g]?) → P' w') ∧ K (.v undef) ((id, .own gs P') :: hdel H id)
def vcStore (cx : Cx) (H : Heap) (t : TypeId) (u val : SV) (K : SV → Heap → Prop) : Prop :=
  match u with
  | .v (.pointer a) => RawStore cx H t (.v (.pointer a)) val K
  | u => vcStore0 cx H t u val K
def vcMem (cx : Cx) (H : Heap) (f : Env) (dst : Option Nat) (op : Op) (K : SV → Heap → Prop) : Prop :=
  match op with
  | .alloc e => match dst, tfind cx.T e with
    | some d, some j => ∀ g, cx.n0 ≤ g → K (.p d g 0 0) ((d, .blk g e (svCells j.zero)) :: hdel H d)
    | _, _ => False
  | .box e x => match dst with
    | some d => ev f .yes x fun v => match v with
      | .a l => ∀ g, cx.n0 ≤ g → K (.p d g 0 0) ((d, .blk g e l) :: hdel H d)
      | v => bif one v then ∀ g, cx.n0 ≤ g → K (.p d g 0 0) ((d, .blk g e [v]) :: hdel H d) else False
    | none => False
  | .store t x v => ev f .yes x fun u => ev f .yes v fun val => vcStore cx H t u val K
  | .buildSlice t n ps => match dst, tfind cx.T t with
    | some d, some ⟨.slice e, _, _, _⟩ => match tfind cx.T e with
      | some j => bif Nat.ble (n * j.size) 16777216 then evP f .yes ps.toList fun vs => vcParts (n * j.size) (fun i => some (mulS i j.size, j.size)) (repl n (svCells j.zero)) vs fun l => ∀ g, cx.n0 ≤ g → K (.s d g 0 0 n n) ((d, .blk g e l) :: hdel H d) else False
      | none => False
    | _, _ => False
  | .makeSlice t x y => match dst, tfind cx.T t with
    | some d, some ⟨.slice e, _, _, _⟩ => match tfind cx.T e with
      | some j => ev f .yes x fun u => ev f .yes y fun v => match u, v with
        | .v (.int _ l), .v (.int _ c) => (0 ≤ l ∧ l ≤ c ∧ (j.bytes : Int) * c ≤ 140737488355328 ∧ c ≤ maxLen) ∧ ∀ g, cx.n0 ≤ g → K (.o d (some (g, 0)) l.toNat c.toNat) ((d, .row (some (g, 0)) e j.size l.toNat c.toNat (madeCells j.zero.cells (l.toNat * j.size)).toList) :: hdel H d)
        | _, _ => False
      | none => False
    | _, _ => False
  | .call ⟨.value x, args, _⟩ => ev f .yes x fun fv => evL f .yes args.toList fun vs => match fv with
    | .v (.func (.yield l) ⟨[]⟩ ⟨[]⟩) => Yielded cx l vs H K
    | fv => vcArgs fv vs fun n us => bif memN cx.F n then Called cx n us H K else False
  | .call ⟨.builtin .append, args, ats⟩ => match dst, args.toList, ats.toList with
    | some d, [s, x], [t, t'] => bif Nat.beq t t' then ev f .yes s fun u => ev f .yes x fun v => vcAppend cx H d t u v K else OtherM cx H f (.call ⟨.builtin .append, args, ats⟩) dst K
    | _, _, _ => False
  | op => OtherM cx H f op dst K
theorem cells_real_a (l : List SV) : (SV.a l).real.cells = (l.map SV.r1).toArray := rfl
theorem vcSrc_sound {cx : Cx} {H : Heap} {w : World} (hw : Holds cx H w) {sz : Nat} (hz : 0 < sz) {x : SV} {K : Nat → List Value → Prop} (h : vcSrc cx H sz x K) :
    ∃ m news, K m news ∧ news.length = m * sz ∧ ((∃ ad c, x.real = .slice (some ad) m c ∧ ∀ (j : Nat) (u : Value), news[j]? = some u → w.cell? (ad.add j) = some u) ∨ (∃ c, x.real = .slice none 0 c ∧ m = 0 ∧ news = [])) := by
  have nil_row : ∀ {A : Option (Nat × Nat)} {e sz' n' cap' : Nat} {xs : List Value}, w.ownsRow cx.n0 e sz' (.slice (adr A) n' cap') n' xs → A = none → n' = 0 ∧ cap' = 0 ∧ xs = [] := by
    intro A e sz' n' cap' xs hr hA
    have hx := strOf_nil_slice hr hA
    subst hA
    rcases hr.2 with ⟨hv, hn⟩ | ⟨g, c, cur, hv, _⟩
    · injection hv with _ _ hc; exact ⟨hn, hc, hx⟩
    · cases hv
  unfold vcSrc at h
  split at h
  · rename_i a m c
    rcases h.out with h | ⟨news, h1, h2, h3⟩
    · exact ⟨0, [], h.2, by simp, .inr ⟨0, h.1, rfl, rfl⟩⟩
    · refine ⟨m, news, h1, h2, ?_⟩
      rcases h3 w hw with ⟨ad, rfl, h4⟩ | ⟨rfl, rfl, h4⟩
      · exact .inl ⟨ad, c, rfl, h4⟩
      · exact .inr ⟨c, rfl, rfl, h4⟩
  · rename_i id g b off m cap
    split at h
    · rename_i g' ty cs eh
      obtain ⟨⟨rfl, rfl⟩, h1, h⟩ := h
      refine ⟨m, _, h, by simp; omega, .inl ⟨_, _, rfl, fun j u hu => ?_⟩⟩
      rw [List.getElem?_map, Option.map_eq_some_iff] at hu
      obtain ⟨y, hy, rfl⟩ := hu
      rw [add_mk]
      refine blk_cell (hw.at_ eh) ?_
      rw [List.getElem?_take] at hy
      split at hy
      · rw [List.getElem?_drop] at hy; exact hy
      · cases hy
    · rename_i A e' sz' n' cap' xs eh
      obtain ⟨⟨rfl, rfl⟩, h1, h⟩ := h
      refine ⟨m, _, h, by simp; omega, .inl ⟨_, _, rfl, fun j u hu => ?_⟩⟩
      rw [add_mk, show off + (A.getD (0, 0)).2 + j = off + j + (A.getD (0, 0)).2 by omega]
      refine row_cell (hw.at_ eh) ?_
      rw [List.getElem?_take] at hu
      split at hu
      · rw [List.getElem?_drop] at hu; exact hu
      · cases hu
    · rename_i A n' sz' xs eh
      obtain ⟨⟨rfl, rfl⟩, h1, h⟩ := h
      refine ⟨m, _, h, by simp; omega, .inl ⟨_, _, rfl, fun j u hu => ?_⟩⟩
      rw [add_mk, show off + (A.getD (0, 0)).2 + j = off + j + (A.getD (0, 0)).2 by omega]
      refine ro_cell hw (hw.at_ eh) ?_
      rw [List.getElem?_take] at hu
      split at hu
      · rw [List.getElem?_drop] at hu; exact hu
      · cases hu
    · exact h.elim
  · rename_i id A m cap
    split at h
    · rename_i A' e' sz' n' cap' xs eh
      obtain ⟨rfl, h1, h⟩ := h
      have hr : w.ownsRow cx.n0 e' sz' (.slice (adr A) n' cap') n' xs := hw.at_ eh
      refine ⟨m, _, h, by simp; omega, ?_⟩
      cases A with
      | none =>
        obtain ⟨_, _, hx⟩ := nil_row hr rfl
        subst hx
        have hm : m = 0 := by
          rcases Nat.eq_zero_or_pos m with h0 | h0
          · exact h0
          · have := Nat.mul_pos h0 hz; simp at h1; omega
        subst hm
        exact .inr ⟨cap, rfl, rfl, by simp⟩
      | some p =>
        refine .inl ⟨_, _, rfl, fun j u hu => ?_⟩
        rw [add_mk, Nat.add_comm]
        refine row_cell hr ?_
        rw [List.getElem?_take] at hu
        split at hu
        · exact hu
        · cases hu
    · rename_i A' n' sz' xs eh
      obtain ⟨rfl, h1, h⟩ := h
      have hr := hw.at_ eh
      refine ⟨m, _, h, by simp; omega, ?_⟩
      cases A with
      | none =>
        have hx : xs = [] := by
          obtain ⟨r1, r2⟩ := hr
          rcases Nat.eq_zero_or_pos n' with h0 | h0
          · rw [h0, Nat.zero_mul] at r1; exact List.eq_nil_of_length_eq_zero r1
          · obtain ⟨p, hp, _⟩ := r2 h0; cases hp
        subst hx
        have hm : m = 0 := by
          rcases Nat.eq_zero_or_pos m with h0 | h0
          · exact h0
          · have := Nat.mul_pos h0 hz; simp at h1; omega
        subst hm
        exact .inr ⟨cap, rfl, rfl, by simp⟩
      | some p =>
        refine .inl ⟨_, _, rfl, fun j u hu => ?_⟩
        rw [add_mk, Nat.add_comm]
        refine ro_cell hw hr ?_
        rw [List.getElem?_take] at hu
        split at hu
        · exact hu
        · cases hu
    · exact h.elim
  · exact h.elim
theorem run_append_of_nil {P : Program} (w : World) (base : Nat) (t ty e : TypeId) (i : TypeInfo) (size : Nat) (ht : P.underlying t = some (.slice e)) (hi : P.info? e = some i)
    (v : Value) (n : Nat) (xs : List Value) (hown : w.ownsRow base e size v n xs) (c : Nat) : (Builtin.append_ #[t, t] ty #[v, .slice none 0 c]).run P w = .ok v w := by
  rcases hown.2 with ⟨rfl, rfl⟩ | ⟨g, cap, cur, rfl, _, _, hnc, _⟩
  · simp [Builtin.append_, run_underlying ht, sizeOf, typeInfo, hi, Builtin.lenOf, Builtin.firstCells]
  · simp [Builtin.append_, run_underlying ht, sizeOf, typeInfo, hi, Builtin.lenOf, Builtin.firstCells, hnc, storeCells]
/-- an owned slice's value, written out -/
theorem own_val {w : World} {base : Nat} {e : TypeId} {size n : Nat} {v : Value} {xs : List Value} (h : w.ownsRow base e size v n xs) : ∃ A cap, v = .slice (adr A) n cap ∧ v.ownBlock = A.map Prod.fst := by
  rcases h.2 with ⟨rfl, rfl⟩ | ⟨g, cap, cur, rfl, _⟩
  · exact ⟨none, 0, rfl, rfl⟩
  · exact ⟨some (g, 0), cap, rfl, rfl⟩
theorem run_app {cx : Cx} {T : TT} (hT : TOk cx.P T) {H : Heap} {w : World} (hw : Holds cx H w) {t e : TypeId} {j : TyI} (ht : cx.P.underlying t = some (.slice e)) (ej : tfind T e = some j) (hz : 0 < j.size)
    {v x : Value} {n m : Nat} {xs news : List Value} (hown : w.ownsRow cx.n0 e j.size v n xs) (hl : news.length = m * j.size)
    (hx : (∃ ad c, x = .slice (some ad) m c ∧ ∀ (k : Nat) (u : Value), news[k]? = some u → w.cell? (ad.add k) = some u) ∨ (∃ c, x = .slice none 0 c ∧ m = 0 ∧ news = [])) (h1 : ∀ u ∈ news, u.oneCell' = true)
    (hby : (n + m) * j.bytes ≤ 140737488355328) (hm : n + m ≤ maxLen) (ty : TypeId) :
    ∃ A2 cap2 w', (Builtin.append_ #[t, t] ty #[v, x]).run cx.P w = .ok (.slice (adr A2) (n + m) cap2) w' ∧ w'.ownsRow cx.n0 e j.size (.slice (adr A2) (n + m) cap2) (n + m) (xs ++ news) ∧ w.grownBy w' v.ownBlock ∧ (A2.map Prod.fst = v.ownBlock ∨ A2.map Prod.fst = some w.heap.size) := by
  obtain ⟨i, hi, hz0, hz1, hz2⟩ := (hT.at_ ej).info
  have hzs := (hT.at_ ej).2.2
  rcases hx with ⟨ad, c, rfl, hc⟩ | ⟨c, rfl, rfl, rfl⟩
  · obtain ⟨v', w', hr, h2, h3, _, h5⟩ := run_append_own_at (P := cx.P) w cx.n0 t ty e i j.zero j.size j.bytes ht hi hz0 hz1 hz2 hzs hz v n xs hown ad m c news hl hc h1 hm hby (Nat.le_trans hw.n0 hw.keep.size)
    obtain ⟨A2, cap2, rfl, hb⟩ := own_val h2
    exact ⟨A2, cap2, w', hr, h2, h3, by rw [← hb]; exact h5⟩
  · obtain ⟨A, cap, rfl, hb⟩ := own_val hown
    refine ⟨A, cap, w, run_append_of_nil w cx.n0 t ty e i j.size ht hi _ n xs hown c, ?_, ⟨rfl, rfl, rfl, Nat.le_refl _, fun _ _ _ => rfl⟩, .inl hb.symm⟩
    rw [List.append_nil]
    exact hown
theorem adr_inj {A B : Option (Nat × Nat)} (h : adr A = adr B) : A = B := by
  cases A with
  | none => cases B with
    | none => rfl
    | some q => cases h
  | some p => cases B with
    | none => cases h
    | some q =>
      simp only [adr, Option.map_some, Option.some.injEq, Addr.mk.injEq, and_true] at h
      rw [Prod.ext h.1 h.2]
/-- what is appended within the capacity stays where it was -/
theorem append_fit {cx : Cx} {T : TT} (hT : TOk cx.P T) {t e : TypeId} {j : TyI} (hu : cx.P.underlying t = some (.slice e)) (ej : tfind T e = some j) {A A2 : Option (Nat × Nat)} {n m cap cap2 : Nat} {x : Value} {ty : TypeId} {w w' : World}
    (h : (Builtin.append_ #[t, t] ty #[.slice (adr A) n cap, x]).run cx.P w = .ok (.slice (adr A2) (n + m) cap2) w') (hx : ∃ ad c, x = .slice ad m c) (hfit : n + m ≤ cap) : adr A2 = adr A ∧ cap2 = cap := by
  obtain ⟨ad, c, rfl⟩ := hx
  have hsz := size_run hT ej
  unfold Builtin.append_ at h
  simp [run_underlying hu, hsz, Builtin.lenOf, hfit] at h
  cases hf : (Builtin.firstCells j.size m (Value.slice ad m c)).run cx.P w with
  | halt x w2 => rw [hf] at h; cases h
  | ok a w2 =>
    rw [hf] at h
    simp only [Result.andThen_ok] at h
    cases hA : adr A with
    | none =>
      rw [hA] at h
      simp at h
      exact ⟨h.1.1.symm, h.1.2.symm⟩
    | some p =>
      rw [hA] at h
      simp only [Sem.run_map] at h
      cases hs : (storeCells (p.add (n * j.size)) a.toList).run cx.P w2 with
      | halt x w3 => rw [hs] at h; cases h
      | ok u w3 =>
        rw [hs] at h
        simp at h
        exact ⟨h.1.1.symm, h.1.2.symm⟩
theorem vcAppend0_sound {cx : Cx} (hT : TOk cx.P cx.T) {H : Heap} {w : World} (hw : Holds cx H w) {d : Nat} {t : TypeId} {s x : SV} {K : SV → Heap → Prop} (h : vcAppend0 cx H d t s x K) (ty : TypeId) :
    ∃ v H' w', (Builtin.append_ #[t, t] ty #[s.real, x.real]).run cx.P w = .ok v.real w' ∧ Holds cx H' w' ∧ K v H' := by
  have hn0 : cx.n0 ≤ w.heap.size := Nat.le_trans hw.n0 hw.keep.size
  unfold vcAppend0 at h
  split at h
  · rename_i e _ _ _ et
    have hu := und_slice (hT.at_ et) rfl
    split at h
    · rename_i j ej
      cases hb : Nat.beq j.size 0
      · rw [hb] at h
        have hz : 0 < j.size := by
          rcases Nat.eq_zero_or_pos j.size with h0 | h0
          · rw [h0] at hb; cases hb
          · exact h0
        dsimp only [cond] at h
        have hs := vcSrc_sound hw hz h
        clear h
        obtain ⟨m, news, h, hl, hx⟩ := hs
        obtain ⟨h1, h⟩ := h
        replace h1 := allV_mem h1
        split at h
        · rename_i id A n cap
          split at h
          · rename_i A' e' sz' n' cap' xs eh
            obtain ⟨⟨rfl, rfl, rfl, rfl, rfl⟩, ⟨h2, h3⟩, h⟩ := h
            have hr : w.ownsRow cx.n0 e j.size (.slice (adr A) n cap) n xs := hw.at_ eh
            obtain ⟨A2, cap2, w', r1, r2, r3, r4⟩ := run_app hT hw hu ej hz hr hl hx h1 h2 h3 ty
            have hob : (Value.slice (adr A) n cap).ownBlock = A.map Prod.fst := by cases A <;> rfl
            rw [hob] at r3 r4
            have hK : K (.o id A2 (n + m) cap2) ((id, .row A2 e j.size (n + m) cap2 (xs ++ news)) :: hdel H id) := by
              rcases h with ⟨hfit, h⟩ | h
              · obtain ⟨e1, e2⟩ := append_fit hT hu ej r1 (by
                  rcases hx with ⟨ad, c, hx, _⟩ | ⟨c, hx, hm0, _⟩
                  · exact ⟨some ad, c, hx⟩
                  · exact ⟨none, c, by rw [hx, hm0]⟩) hfit
                rw [adr_inj e1, e2]
                exact h
              · exact h A2 cap2
            refine ⟨.o id A2 (n + m) cap2, _, w', r1, hw.grown (A := A) (e := e) (size := j.size) (n := n) (cap := cap) ?_ r3 r2 r4, hK⟩
            intro g hg
            have hg' : A.map Prod.fst = some g := by simpa [HB.gs] using hg
            refine ⟨(hr.lt g (by rw [hob]; exact hg')).1, fun y hy hgy => ?_⟩
            obtain ⟨hy1, hy2⟩ := hdel_mem hy
            exact hw.sep _ _ _ _ hy1 (hfind_mem eh) hy2 g hgy (by simpa [HB.gs] using hg)
          · exact h.elim
        · rename_i n0 c0
          obtain ⟨hs, ⟨h2, h3⟩, h⟩ := h
          have hr : w.ownsRow cx.n0 e j.size (.slice none 0 0) 0 [] := World.ownsRow_nil w cx.n0 e j.size
          obtain ⟨A2, cap2, w', r1, r2, r3, r4⟩ := run_app hT hw hu ej hz hr hl hx h1 (by simpa using h2) (by simpa using h3) ty
          rw [hs]
          simp only [Nat.zero_add, List.nil_append] at r1 r2
          refine ⟨.o d A2 m cap2, _, w', r1, hw.grown (A := none) (e := e) (size := j.size) (n := 0) (cap := 0) ?_ r3 r2 r4, h A2 cap2⟩
          intro g hg
          simp [HB.gs] at hg
        · rename_i id g b off n cap
          split at h
          · rename_i g' e' cs eh
            obtain ⟨⟨rfl, rfl, rfl, rfl, rfl, hcs⟩, hg0, ⟨h2, h3⟩, h⟩ := h
            have hbk : (HB.blk g e cs).holds cx w := hw.at_ eh
            have hr : w.ownsRow cx.n0 e j.size (.slice (some ⟨g, 0, none⟩) cap cap) cap (cs.map SV.r1) := by
              refine ⟨by simpa using hcs, .inr ⟨g, cap, _, rfl, hg0, hbk.2, Nat.le_refl _, by omega, by simpa using hcs, ?_⟩⟩
              simp only
              rw [← hcs, List.take_of_length_le (by simp)]
            obtain ⟨A2, cap2, w', r1, r2, r3, r4⟩ := run_app hT hw hu ej hz hr hl hx h1 h2 h3 ty
            refine ⟨.o id A2 (cap + m) cap2, _, w', r1, hw.grown (A := some (g, 0)) (e := e) (size := j.size) (n := cap) (cap := cap) ?_ r3 r2 r4, h A2 cap2⟩
            intro g' hg
            have hg' : g' = g := by simpa [HB.gs] using hg
            subst hg'
            refine ⟨hg0, fun y hy hgy => ?_⟩
            obtain ⟨hy1, hy2⟩ := hdel_mem hy
            exact hw.sep _ _ _ _ hy1 (hfind_mem eh) hy2 _ hgy (List.mem_singleton_self _)
          · exact h.elim
        · exact h.elim
      · rw [hb] at h; exact h.elim
    · exact h.elim
  · exact h.elim
theorem vcAppend_sound {cx : Cx} (hT : TOk cx.P cx.T) {H : Heap} {w : World} (hw : Holds cx H w) {d : Nat} {t : TypeId} {s x : SV} {K : SV → Heap → Prop} (h : vcAppend cx H d t s x K) (ty : TypeId) :
    ∃ v H' w', (Builtin.append_ #[t, t] ty #[s.real, x.real]).run cx.P w = .ok v.real w' ∧ Holds cx H' w' ∧ K v H' := by
  unfold vcAppend at h
  split at h
  · obtain ⟨s', h1, h2⟩ := h.out
    rw [← h1]
    exact vcAppend0_sound hT hw h2 ty
  · exact vcAppend0_sound hT hw h ty
end Go.Proofs.YtdohcglpcgahaaaGreatDoor.Sat
namespace Go.Proofs.YtdohcglpcgahaaaGreatDoor.Sat
open Go Go.RowKit Go.PlainAid
theorem take_splice {l vs : List Value} {off n : Nat} (h : off + vs.length ≤ n) (hn : n ≤ l.length) : (l.take off ++ vs ++ l.drop (off + vs.length)).take n = (l.take n).take off ++ vs ++ (l.take n).drop (off + vs.length) := by
  apply List.ext_getElem?
  intro i
  have e1 : (l.take off).length = off := by simp; omega
  have e2 : ((l.take n).take off).length = off := by simp; omega
  rw [List.getElem?_take]
  by_cases hi : i < n
  · rw [if_pos hi]
    by_cases h1 : i < off
    · rw [List.append_assoc, List.append_assoc, List.getElem?_append_left (by omega), List.getElem?_append_left (by omega), List.getElem?_take, List.getElem?_take, List.getElem?_take, if_pos h1, if_pos h1, if_pos hi]
    · rw [List.append_assoc, List.append_assoc, List.getElem?_append_right (l₁ := l.take off) (by omega), List.getElem?_append_right (l₁ := (l.take n).take off) (by omega), e1, e2]
      by_cases h2 : i - off < vs.length
      · rw [List.getElem?_append_left h2, List.getElem?_append_left h2]
      · rw [List.getElem?_append_right (l₁ := vs) (by omega), List.getElem?_append_right (l₁ := vs) (by omega), List.getElem?_drop, List.getElem?_drop, List.getElem?_take, if_pos (by omega)]
  · rw [if_neg hi, List.getElem?_eq_none]
    simp
    omega
theorem row_splice {w : World} {n0 : Nat} {A : Option (Nat × Nat)} {e size n cap : Nat} {xs vs : List Value} {off : Nat} (h : w.ownsRow n0 e size (.slice (adr A) n cap) n xs) (hl : off + vs.length ≤ xs.length) (hv : 0 < vs.length) :
    ∃ g cur, A = some (g, 0) ∧ n0 ≤ g ∧ w.heap[g]? = some (.cells cur e (0, 0)) ∧ xs.length ≤ cur.size ∧
      (w.setRow g (cur.toList.take off ++ vs ++ cur.toList.drop (off + vs.length)).toArray).ownsRow n0 e size (.slice (adr A) n cap) n (xs.take off ++ vs ++ xs.drop (off + vs.length)) := by
  obtain ⟨h1, h2⟩ := h
  rcases h2 with ⟨hv', hn⟩ | ⟨g, cap', cur, hv', h3, h4, h5, h6, h7, h8⟩
  · rw [hn, Nat.zero_mul] at h1; omega
  · injection hv' with hv' _ hcc
    subst hcc
    cases A with
    | none => cases hv'
    | some p =>
      have hp : p = (g, 0) := by
        simp only [adr, Option.map_some, Option.some.injEq, Addr.mk.injEq, and_true] at hv'
        exact Prod.ext hv'.1 hv'.2
      subst hp
      have hle : xs.length ≤ cur.size := by rw [← h8]; simp; omega
      refine ⟨g, cur, rfl, h3, h4, hle, ⟨by simp; omega, .inr ⟨g, cap, _, rfl, h3, setRow_heap w g _ _ e _ h4, h5, h6, by simp; omega, ?_⟩⟩⟩
      simp only
      have := take_splice (l := cur.toList) (vs := vs) (off := off) (n := n * size) (by omega) (by simp; omega)
      rw [this, h8]
theorem run_storeVar {cx : Cx} {T : TT} (hT : TOk cx.P T) {t : TypeId} {j : TyI} (e : tfind T t = some j) {w : World} {g off ty : Nat} {cur : Array Value} (hg : w.heap[g]? = some (.cells cur ty (0, 0))) {v : Value} {vs : List Value} (hv : v.cells.toList = vs) (hs : vs.length = j.size)
    (hl : off + vs.length ≤ cur.size) (h1 : ∀ x ∈ vs, x.oneCell' = true) : (storeVar t ⟨g, off, none⟩ v).run cx.P w = .ok () (w.setRow g (cur.toList.take off ++ vs ++ cur.toList.drop (off + vs.length)).toArray) := by
  unfold storeVar
  simp only [Sem.run_bind, size_run hT e, Result.andThen_ok, Sem.run_ite]
  have hsz : v.cells.size = j.size := by rw [← hs, ← hv]; simp
  rw [if_neg (by omega)]
  have := run_storeCells_at cx.P g off ty vs 0 cur w hg (by omega) h1
  rw [hv]
  simpa using this
theorem one_mem {v : SV} (h : one v = true) : v.real.cells.toList = [v.r1] := by
  obtain ⟨_, h2, h3, _⟩ := one_spec h
  rw [h2, h3]
theorem set_splice {α : Type} (l : List α) (off : Nat) (x : α) (h : off < l.length) : l.set off x = l.take off ++ [x] ++ l.drop (off + 1) := by
  rw [List.set_eq_take_append_cons_drop, if_pos h]; simp
theorem vcStore0_sound {cx : Cx} (hT : TOk cx.P cx.T) {H : Heap} {w : World} (hw : Holds cx H w) {t : TypeId} {u val : SV} {K : SV → Heap → Prop} (h : vcStore0 cx H t u val K) :
    ∃ H' w', (Instr.storeAt t u.real val.real).run cx.P w = .ok () w' ∧ Holds cx H' w' ∧ K (.v undef) H' := by
  unfold vcStore0 at h
  split at h
  · rename_i j ej
    split at h
    · rename_i id g b off
      have hst : (Instr.storeAt t (SV.p id g b off).real val.real).run cx.P w = (storeVar t ⟨g, off + b, none⟩ val.real).run cx.P w := by
        simp [Instr.storeAt, SV.real, SV.r2, SV.r1, Instr.sureAddr]
      split at h
      · rename_i g' ty cs eh
        obtain ⟨⟨rfl, rfl⟩, h⟩ := h
        have hbk : (HB.blk g ty cs).holds cx w := hw.at_ eh
        rw [hst]
        split at h
        · rename_i vs
          cases hty : Nat.beq t ty
          · rw [hty] at h
            obtain ⟨⟨h1, h2, h3⟩, h⟩ := h
            have hr := run_storeVar hT ej hbk.2 (off := off + 0) (v := (SV.a vs).real) (vs := vs.map SV.r1) (by rw [cells_real_a]) (by simpa using h1) (by simpa using h2) (allV_mem h3)
            refine ⟨_, _, hr, ?_, h⟩
            have := hw.set_ eh (cs.take off ++ vs ++ cs.drop (off + vs.length))
            simpa [List.map_take, List.map_drop] using this
          · rw [hty] at h
            obtain ⟨⟨rfl, h1, h2, h3⟩, h⟩ := h
            have hr := run_storeVar hT ej hbk.2 (off := 0 + 0) (v := (SV.a vs).real) (vs := vs.map SV.r1) (by rw [cells_real_a]) (by simpa using h1) (by simp; omega) (allV_mem h3)
            refine ⟨_, _, hr, ?_, h⟩
            have := hw.set_ eh vs
            have hd : List.drop vs.length cs = [] := List.drop_eq_nil_of_le (by omega)
            simpa [List.map_take, List.map_drop, ← List.map_drop, hd] using this
        · cases ho : (one val && Nat.beq j.size 1)
          · rw [ho] at h; exact h.elim
          · rw [ho] at h
            rw [Bool.and_eq_true] at ho
            have hj := Nat.eq_of_beq_eq_true ho.2
            obtain ⟨h2, h⟩ := h
            have hr := run_storeVar hT ej hbk.2 (off := off + 0) (v := val.real) (vs := [val.r1]) (one_mem ho.1) (by simp [hj]) (by simp; omega) (by intro x hx; simp at hx; subst hx; exact (one_spec ho.1).2.2.2)
            refine ⟨_, _, hr, ?_, h⟩
            have := hw.set_ eh (cs.set off val)
            rw [set_splice _ _ _ h2] at this ⊢
            simpa [List.map_take, List.map_drop] using this
      · rename_i A e sz n cap xs eh
        obtain ⟨⟨rfl, rfl⟩, h⟩ := h
        have hr0 : w.ownsRow cx.n0 e sz (.slice (adr A) n cap) n xs := hw.at_ eh
        have go : ∀ (vs : List Value), val.real.cells.toList = vs → vs.length = j.size → off + vs.length ≤ xs.length → 0 < vs.length → (∀ x ∈ vs, x.oneCell' = true) →
            ∃ w', (storeVar t ⟨(A.getD (0, 0)).1, off + (A.getD (0, 0)).2, none⟩ val.real).run cx.P w = .ok () w' ∧ Holds cx ((id, .row A e sz n cap (xs.take off ++ vs ++ xs.drop (off + vs.length))) :: hdel H id) w' := by
          intro vs hv hs hl h0 h1
          obtain ⟨g, cur, rfl, hg0, hg, hle, hown⟩ := row_splice hr0 hl h0
          refine ⟨_, run_storeVar hT ej hg (off := off) hv hs (by omega) h1, ?_⟩
          refine hw.turn id _ ⟨rfl, rfl, rfl, by simp, fun k hk hm => setRow_other w g k _ (by omega)⟩ hown fun x hx g' hg' => ?_
          obtain ⟨hx1, hx2⟩ := hdel_mem hx
          have hne : g' ≠ g := by
            rintro rfl
            exact hw.sep _ _ _ _ hx1 (hfind_mem eh) hx2 g' hg' (by simp [HB.gs])
          exact ⟨setRow_other w g g' _ hne, by simp [HB.gs]; omega⟩
        rw [hst]
        split at h
        · rename_i vs
          obtain ⟨⟨h1, h0, h2, h3⟩, h⟩ := h
          obtain ⟨w', r1, r2⟩ := go (vs.map SV.r1) (by rw [cells_real_a]) (by simpa using h1) (by simpa using h2) (by simpa using h0) (allV_mem h3)
          exact ⟨_, w', r1, r2, by simpa using h⟩
        · cases ho : (one val && Nat.beq j.size 1)
          · rw [ho] at h; exact h.elim
          · rw [ho] at h
            rw [Bool.and_eq_true] at ho
            have hj := Nat.eq_of_beq_eq_true ho.2
            obtain ⟨h2, h⟩ := h
            obtain ⟨w', r1, r2⟩ := go [val.r1] (one_mem ho.1) (by simp [hj]) (by simp; omega) (by simp) (by intro x hx; simp at hx; subst hx; exact (one_spec ho.1).2.2.2)
            refine ⟨_, w', r1, ?_, h⟩
            rw [set_splice _ _ _ h2]
            exact r2
      · exact h.elim
    · exact h.elim
  · exact h.elim
theorem vcStore_sound {cx : Cx} (hT : TOk cx.P cx.T) {H : Heap} {w : World} (hw : Holds cx H w) {t : TypeId} {u val : SV} {K : SV → Heap → Prop} (h : vcStore cx H t u val K) :
    ∃ H' w', (Instr.storeAt t u.real val.real).run cx.P w = .ok () w' ∧ Holds cx H' w' ∧ K (.v undef) H' := by
  unfold vcStore at h
  split at h
  · rcases h.out with ⟨u', h1, h2⟩ | ⟨g, off, id, gs, P, P', hu, ⟨j, ej, hj⟩, ho, hf, hg, hc, hp, hst, hk⟩
    · rw [← h1]
      exact vcStore0_sound hT hw h2
    · obtain ⟨cur, ty, hb, hl⟩ := hc w hw
      have hown : (HB.own gs P).holds cx w := hw.at_ hf
      have hr := run_storeVar hT ej hb (off := off) (v := val.real) (vs := [val.r1]) (one_mem ho) (by simp [hj]) (by simp; omega) (by intro x hx; simp at hx; subst hx; exact (one_spec ho).2.2.2)
      have hrun : (Instr.storeAt t (SV.v (.pointer (some ⟨g, off, none⟩))).real val.real).run cx.P w = (storeVar t ⟨g, off, none⟩ val.real).run cx.P w := by
        simp [Instr.storeAt, SV.real, SV.r2, SV.r1, Instr.sureAddr]
      rw [hu, hrun, hr]
      refine ⟨_, _, rfl, ?_, hk⟩
      have hp' := hp w cur ty hw hb hl
      have e : (cur.toList.take off ++ [val.r1] ++ cur.toList.drop (off + [val.r1].length)).toArray = (cur.toList.set off val.r1).toArray := by
        rw [set_splice cur.toList off val.r1 (by simpa using hl)]
        rfl
      rw [e]
      have hg0 := hown.1 g hg
      refine hw.turn id _ ⟨rfl, rfl, rfl, by simp, fun k hk hm => setRow_other w g k _ (by omega)⟩ ⟨fun g' hg' => ⟨(hown.1 g' hg').1, by simpa using (hown.1 g' hg').2⟩, hp', fun w2 hw2 => hst _ w2 hp' hw2⟩ fun x hx g' hg' => ?_
      obtain ⟨hx1, hx2⟩ := hdel_mem hx
      have hni : g' ∉ gs := fun hm => hw.sep _ _ _ _ hx1 (hfind_mem hf) hx2 g' hg' hm
      exact ⟨setRow_other w g g' _ (by rintro rfl; exact hni hg), hni⟩
  · exact vcStore0_sound hT hw h
end Go.Proofs.YtdohcglpcgahaaaGreatDoor.Sat
namespace Go.Proofs.YtdohcglpcgahaaaGreatDoor.Sat
open Go Go.RowKit Go.PlainAid
/-- function n is entered when it is called -/
def Enters (P : Program) (n : Nat) : Prop := ∀ args w, (callFunc n args).run P w = .ok (.enter n args) w
def entersB (P : Program) (n : Nat) : Bool :=
  match P.funcs[n]? with
  | some fn => fn.name != "runtime.NumGoroutine" && fn.body.isSome
  | none => false
theorem enters_of {P : Program} {n : Nat} (h : entersB P n = true) : Enters P n := by
  intro args w
  unfold entersB at h
  split at h
  · rename_i fn e
    rw [Bool.and_eq_true] at h
    obtain ⟨h1, h2⟩ := h
    unfold callFunc
    simp only [Sem.run_bind, run_program, Result.andThen_ok, e]
    rw [if_neg (by simpa using h1), if_neg (by rw [Option.isSome_iff_ne_none] at h2; simpa using h2)]
    rfl
  · cases h
structure COk (cx : Cx) : Prop where
  T : TOk cx.P cx.T
  F : ∀ n, memN cx.F n = true → Enters cx.P n
  order : cx.P.follows .mixedOrders = true
theorem memN_all {l : List Nat} {p : Nat → Bool} (h : l.all p = true) {n : Nat} (hn : memN l n = true) : p n = true := by
  induction l with
  | nil => cases hn
  | cons x l ih =>
    rw [List.all_cons, Bool.and_eq_true] at h
    unfold memN at hn
    cases hb : Nat.beq x n
    · rw [hb] at hn; exact ih h.2 hn
    · obtain rfl := Nat.eq_of_beq_eq_true hb; exact h.1
def put (f : Env) (dst : Option Nat) (c : Grd) (v : SV) : Env :=
  match dst with
  | none => f
  | some d => (d, c, v) :: f
def putK (f : Env) (dst : Option Nat) (c : Grd) (v : SV) (K : Env → Prop) : Prop :=
  match dst with
  | none => K f
  | some d => K ((d, c, v) :: f)
theorem putK_eq (f : Env) (dst : Option Nat) (c : Grd) (v : SV) (K : Env → Prop) : putK f dst c v K = K (put f dst c v) := by cases dst <;> rfl
def andK (c : Grd) (b : Bool) (K : Grd → Prop) : Prop :=
  match c with
  | .yes => K (.wh b)
  | .wh c => K (.wh (c && b))
theorem andK_eq (c : Grd) (b : Bool) (K : Grd → Prop) : andK c b K = K (c.and b) := by cases c <;> rfl
def dstOk (N : Nat) : Option Nat → Bool
  | none => true
  | some d => Nat.blt d N
theorem Fits.put_ {cx : Cx} {f : Env} {a : Act} (h : Fits cx f a) {dst : Option Nat} (hd : dstOk cx.N dst = true) {c : Grd} {v : SV} {x : Value} (h1 : c.holds → x = v.real) (h2 : ¬ c.holds → x = undef) : Fits cx (put f dst c v) (a.put dst x) := by
  cases dst with
  | none => exact h
  | some d =>
    have hlt : d < a.tmps.size := by rw [h.size]; exact of_decide_eq_true (by simpa [dstOk, Nat.blt_eq] using hd)
    have hm : marksOf cx.N (put f (some d) c v) = marksOf cx.N f := by
      have hd' : Nat.blt d cx.N = true := hd
      simp only [put, marksOf, hd', cond]
    refine ⟨by rw [hm]; exact h.defers, by simp [Act.put, h.size], fun t c' v' e hc => ?_, fun t c' v' e hc => ?_⟩
    all_goals
      simp only [put, find] at e
      cases hb : Nat.beq d t
      · rw [hb] at e
        have hne : d ≠ t := fun e' => by rw [e', show Nat.beq t t = true from by simp] at hb; cases hb
        have : (a.put (some d) x).tmps.getD t undef = a.tmps.getD t undef := by
          simp only [Act.put, Array.getD_eq_getD_getElem?, Array.getElem?_setIfInBounds_ne hne]
        rw [this]
        first | exact h.slot t c' v' e hc | exact h.none_ t c' v' e hc
      · rw [hb] at e
        obtain rfl := Nat.eq_of_beq_eq_true hb
        injection e with e
        injection e with e1 e2
        subst e1; subst e2
        have : (a.put (some d) x).tmps.getD d undef = x := by
          simp only [Act.put, Array.getD_eq_getD_getElem?, Array.getElem?_setIfInBounds_self_of_lt hlt, Option.getD_some]
        rw [this]
        first | exact h1 hc | exact h2 hc
def oget : List Oper → Nat → Option Oper
  | x :: _, 0 => some x
  | _ :: l, n + 1 => oget l n
  | [], _ => none
theorem oget_eq (l : List Oper) (n : Nat) : oget l n = l[n]? := by
  induction l generalizing n with
  | nil => rfl
  | cons x l ih => cases n <;> simp [oget, ih]
def gdv (ops : List Oper) (f : Env) (gd : Option (Nat × Bool)) (K : Grd → Prop) : Prop :=
  match gd with
  | none => K .yes
  | some (j, want) => match oget ops j with
    | some o => match o.dst with
      | some d => match find f d with
        | some (cj, .v (.bool b)) => match want with
          | true => andK cj b K
          | false => andK cj (!b) K
        | _ => False
      | none => False
    | none => False
theorem gdv_sound {cx : Cx} {f : Env} {a : Act} (hf : Fits cx f a) {ops : List Oper} {o : Oper} {K : Grd → Prop} (h : gdv ops f o.guard K) :
    ∃ c, (Region.wanted o (yielded ops.toArray a.tmps) = true ↔ c.holds) ∧ K c := by
  unfold gdv at h
  unfold Region.wanted
  split at h
  · rename_i e
    exact ⟨.yes, by rw [e]; simp [Grd.holds], h⟩
  · rename_i j want e
    rw [e]
    split at h
    · rename_i oj ej
      rw [oget_eq] at ej
      split at h
      · rename_i d ed
        split at h
        · rename_i cj b ef
          have hy : yielded ops.toArray a.tmps j = match (a.tmps[d]? : Option Value) with
            | some (.bool b) => some b
            | _ => none := by
            unfold yielded
            simp only [List.getElem?_toArray, ej, Option.bind_some, ed]
            rfl
          have hyes : cj.holds → yielded ops.toArray a.tmps j = some b := fun hc => by
            have := hf.slot d _ _ ef hc
            rw [Array.getD_eq_getD_getElem?] at this
            rw [hy]
            cases hx : a.tmps[d]? with
            | none => rw [hx] at this; exact absurd this (by simp [undef, SV.real, SV.r2, SV.r1])
            | some x => rw [hx] at this; simp only [Option.getD_some, SV.real, SV.r2, SV.r1] at this; subst this; rfl
          have hno : ¬ cj.holds → yielded ops.toArray a.tmps j = none := fun hc => by
            have := hf.none_ d _ _ ef hc
            rw [Array.getD_eq_getD_getElem?] at this
            rw [hy]
            cases hx : a.tmps[d]? with
            | none => rfl
            | some x => rw [hx] at this; simp only [Option.getD_some] at this; subst this; rfl
          split at h
          · rw [andK_eq] at h
            refine ⟨_, ?_, h⟩
            rw [Grd.and_holds]
            by_cases hc : cj.holds
            · simp [hyes hc, hc]
            · simp [hno hc, hc]
          · rw [andK_eq] at h
            refine ⟨_, ?_, h⟩
            rw [Grd.and_holds]
            by_cases hc : cj.holds
            · simp [hyes hc, hc]
            · simp [hno hc, hc]
        · exact h.elim
      · exact h.elim
    · exact h.elim
def Grd.split (c : Grd) (A B : Prop) : Prop :=
  match c with
  | .yes => A
  | .wh b => (b = true → A) ∧ (b = false → B)
/-- two ways -/
structure Cnd (b : Bool) (A B : Prop) : Prop where
  t : b = true → A
  f : b = false → B
def isMem : Op → Bool
  | .alloc _ => true
  | .box _ _ => true
  | .store _ _ _ => true
  | .buildSlice _ _ _ => true
  | .makeSlice _ _ _ => true
  | .makeMap _ _ => true
  | .mapUpdate _ _ _ _ => true
  | .insert _ _ _ _ => true
  | .range _ _ => true
  | .next _ _ => true
  | .call ⟨.value _, _, _⟩ => true
  | .call ⟨.builtin .append, _, _⟩ => true
  | .call ⟨.builtin .copy, _, _⟩ => true
  | _ => false
/-- a call that is guarded, or stands in a region that draws its order -/
def vcCallQ (cx : Cx) (H : Heap) (f : Env) (c : Grd) (op : Op) (K : SV → Prop) : Prop :=
  match op with
  | .call ⟨.value x, args, _⟩ => ev f c x fun fv => evL f c args.toList fun vs => vcArgs fv vs fun n us => bif memN cx.F n then CalledQ cx c n us H K else False
  | _ => False
def vcOps (cx : Cx) (ops : List Oper) : List Oper → Env → Heap → (Env → Heap → Prop) → Prop
  | [], f, H, K => K f H
  | o :: rest, f, H, K => gdv ops f o.guard fun c => bif dstOk cx.N o.dst then
      (bif isMem o.op then (match c with
        | .yes => vcMem cx H f o.dst o.op fun v H' => putK f o.dst .yes v fun f' => vcOps cx ops rest f' H' K
        | .wh b => vcCallQ cx H f (.wh b) o.op (fun v => putK f o.dst (.wh b) v fun f' => vcOps cx ops rest f' H K) ∨
            Cnd b (vcMem cx H f o.dst o.op fun v H' => putK f o.dst .yes v fun f' => vcOps cx ops rest f' H' K) (putK f o.dst .yes (.v undef) fun f' => vcOps cx ops rest f' H K))
      else vcOp cx H f c o.op fun v => putK f o.dst c v fun f' => vcOps cx ops rest f' H K) else False
/-- a region that draws its order and only reads -/
def vcOpsQ (cx : Cx) (ops : List Oper) (H : Heap) : List Oper → Env → (Env → Prop) → Prop
  | [], f, K => K f
  | o :: rest, f, K => gdv ops f o.guard fun c => bif dstOk cx.N o.dst then
      (bif isMem o.op then vcCallQ cx H f c o.op fun v => putK f o.dst c v fun f' => vcOpsQ cx ops H rest f' K
      else vcOp cx H f c o.op fun v => putK f o.dst c v fun f' => vcOpsQ cx ops H rest f' K) else False
theorem args_run {P : Program} {x : Operand} {args : Array Operand} {a : Act} {vs : List SV} {fv : SV} {ats : Array TypeId} {K : Nat → List SV → Prop} (hx : a.eval x = fv.real) (ha : args.toList.map a.eval = vs.map SV.real) (h : vcArgs fv vs K) :
    ∃ n us, K n us ∧ (Enters P n → ∀ (dst : Option Tmp) (ty : TypeId) (pos : String) (after : Array Edge) (gd : Option (Nat × Bool)) (w : World), (execOp a.eval ⟨dst, .call ⟨.value x, args, ats⟩, ty, pos, after, gd⟩).run P w = .ok (.enter n (us.map SV.real).toArray) w) := by
  have ha' : args.map a.eval = (vs.map SV.real).toArray := by apply Array.toList_inj.1; rw [Array.toList_map, ha]
  unfold vcArgs at h
  split at h
  · rename_i n
    refine ⟨n, vs, h, fun he dst ty pos after gd w => ?_⟩
    simp only [execOp, resolve, hx, ha', SV.real, SV.r2, SV.r1, Deferred.ofValue, Sem.run_bind, Sem.run_pure, Result.andThen_ok, invoke]
    have := he (#[] ++ (vs.map SV.real).toArray ++ #[]) w
    simp at this ⊢
    exact this
  · rename_i n x y _
    refine ⟨n, _, h, fun he dst ty pos after gd w => ?_⟩
    simp only [execOp, resolve, hx, ha', SV.real, SV.r2, SV.r1, Deferred.ofValue, Sem.run_bind, Sem.run_pure, Result.andThen_ok, invoke]
    have := he (x ++ (vs.map SV.real).toArray ++ y) w
    have e : ((x.toList.map SV.v ++ vs ++ y.toList.map SV.v).map SV.real).toArray = x ++ (vs.map SV.real).toArray ++ y := by
      apply Array.toList_inj.1
      have hid : ∀ l : List Value, l.map (SV.real ∘ SV.v) = l := fun l => by
        induction l with
        | nil => rfl
        | cons z l ih => rw [List.map_cons, ih]; rfl
      simp [List.map_map, hid]
    rw [e]
    exact this
  · rename_i n x y
    obtain ⟨hb, h⟩ := h
    rw [Bool.and_eq_true] at hb
    refine ⟨n, _, h, fun he dst ty pos after gd w => ?_⟩
    simp only [execOp, resolve, hx, ha', SV.real, SV.r2, SV.r1, Deferred.ofValue, Sem.run_bind, Sem.run_pure, Result.andThen_ok, invoke]
    have := he ((x.map SV.r0).toArray ++ (vs.map SV.real).toArray ++ (y.map SV.r0).toArray) w
    have e : ((x ++ vs ++ y).map SV.real).toArray = (x.map SV.r0).toArray ++ (vs.map SV.real).toArray ++ (y.map SV.r0).toArray := by
      apply Array.toList_inj.1
      simp [SV.base_map hb.1, SV.base_map hb.2]
    rw [e]
    exact this
  · exact h.elim
end Go.Proofs.YtdohcglpcgahaaaGreatDoor.Sat
namespace Go.Proofs.YtdohcglpcgahaaaGreatDoor.Sat
open Go Go.RowKit Go.PlainAid
/-- what one operation comes to -/
def Steps1 (cx : Cx) (a : Act) (w : World) (o : Oper) (K : SV → Heap → Prop) : Prop :=
  ∀ (n : Nat) (next : Act → World → Prop) (Q : Exit → Act → World → Prop), (∀ v H' w', Holds cx H' w' → K v H' → next (a.put o.dst v.real) w') → o.wpIn (fen cx.R) n cx.P a w next Q
theorem defer_run {P : Program} {ρ : Operand → Value} {o : Oper} {w : World} {c : Call} (h : o.op = .defer c) : (∃ d w', (execOp ρ o).run P w = .ok (.defer d) w') ∨ ∃ x w', (execOp ρ o).run P w = .halt x w' := by
  obtain ⟨dst, op, ty, pos, after, gd⟩ := o
  cases h
  simp only [execOp, Sem.run_bind]
  cases (resolve ρ c ty).run P w with
  | ok d w' => exact .inl ⟨d, w', rfl⟩
  | halt x w' => exact .inr ⟨x, w', rfl⟩
theorem semAt_of {P : Program} {ρ : Operand → Value} {o : Oper} {w w' : World} {r : Next} (R : Option Nat) (h : (execOp ρ o).run P w = .ok r w') (hr : ∀ d, r ≠ .defer d) : (o.semAt R ρ).run P w = .ok r w' := by
  rw [Oper.semAt_eq R ρ o, h]
  intro c hc
  rcases defer_run (P := P) (ρ := ρ) (w := w) hc with ⟨d, w2, h2⟩ | ⟨x, w2, h2⟩
  · rw [h] at h2
    injection h2 with h2 _
    exact hr d h2
  · rw [h] at h2; cases h2
theorem steps_value {cx : Cx} {a : Act} {w w' : World} {o : Oper} {K : SV → Heap → Prop} {v : SV} {H' : Heap} (h : (execOp a.eval o).run cx.P w = .ok (.value v.real) w') (hw : Holds cx H' w') (hk : K v H') : Steps1 cx a w o K := by
  intro n next Q hn
  refine ⟨fun _ _ => trivial, ?_⟩
  rw [semAt_of _ h (by simp)]
  exact hn v H' w' hw hk
theorem steps_skip {cx : Cx} {a : Act} {w w' : World} {o : Oper} {K : SV → Heap → Prop} {v : SV} {H' : Heap} (h : (execOp a.eval o).run cx.P w = .ok .skip w') (hv : v.real = undef) (hw : Holds cx H' w') (hk : K v H') : Steps1 cx a w o K := by
  intro n next Q hn
  refine ⟨fun _ _ => trivial, ?_⟩
  rw [semAt_of _ h (by simp)]
  have := hn v H' w' hw hk
  rw [hv] at this
  exact this
theorem steps_call {cx : Cx} {a : Act} {w : World} {o : Oper} {K : SV → Heap → Prop} {n : Nat} {args : Array Value} (h : (execOp a.eval o).run cx.P w = .ok (.enter n args) w)
    (hc : Calls cx.P n args w fun e w' => ∃ v H', e = .returned v.real ∧ Holds cx H' w' ∧ K v H') : Steps1 cx a w o K := by
  intro m next Q hn
  refine ⟨fun _ _ => trivial, ?_⟩
  rw [semAt_of _ h (by simp)]
  refine ⟨fen_depth _ _, callsIn_fen (hc.mono ?_)⟩
  rintro e w' ⟨v, H', rfl, hw, hk⟩
  exact hn v H' w' hw hk
/-- a call of yield -/
theorem steps_round {cx : Cx} {a : Act} {w : World} {o : Oper} {K : SV → Heap → Prop} {l fn : Nat} {tmps : Array Value} {asg body : Code} (h : (execOp a.eval o).run cx.P w = .ok (.round l fn tmps asg body) w)
    (hc : RoundIn (fen none) 0 cx.P l fn tmps asg body w fun e w' => ∃ v H', e = .returned v.real ∧ Holds cx H' w' ∧ K v H') : Steps1 cx a w o K := by
  intro m next Q hn
  refine ⟨fun _ _ => trivial, ?_⟩
  rw [semAt_of _ h (by simp)]
  refine ⟨fen_depth _ _, ⟨trivial, fun c cs _ => ?_⟩⟩
  obtain ⟨e, w', ⟨v, H', rfl, hw, hk⟩, hs⟩ := hc.2 c cs (fun d hd => by cases hd)
  exact ⟨.returned v.real, w', hn v H' w' hw hk, hs⟩
theorem run_u {P : Program} {s : Sem Unit} {w w' : World} (h : s.run P w = .ok () w') : (do s; pure Next.skip : Sem Next).run P w = .ok .skip w' := by
  simp only [Sem.run_bind, h, Result.andThen_ok, Sem.run_pure]
theorem run_v' {P : Program} {s : Sem Value} {w w' : World} {v : Value} (h : s.run P w = .ok v w') : (do pure (Next.value (← s)) : Sem Next).run P w = .ok (.value v) w' := by
  simp only [Sem.run_bind, h, Result.andThen_ok, Sem.run_pure]
theorem run_newVar {P : Program} (t : TypeId) (v : Value) (w : World) : (do pure (Value.pointer (some (← newVar t v))) : Sem Value).run P w = .ok (.pointer (some ⟨w.heap.size, 0, none⟩)) (w.alloc (.cells v.cells t)) := rfl
theorem vcMem_sound {cx : Cx} (hok : COk cx) {H : Heap} {f : Env} {a : Act} (hf : Fits cx f a) {w : World} (hw : Holds cx H w) {o : Oper} {K : SV → Heap → Prop} (h : vcMem cx H f o.dst o.op K) : Steps1 cx a w o K := by
  have hT := hok.T
  have hn0 : cx.n0 ≤ w.heap.size := Nat.le_trans hw.n0 hw.keep.size
  obtain ⟨dst, op, ty, pos, after, gd⟩ := o
  have other : OtherM cx H f op dst K → Steps1 cx a w ⟨dst, op, ty, pos, after, gd⟩ K := fun h => by
    obtain ⟨v, H', w', h1, h2, h3⟩ := h.out a w hf hw ⟨dst, op, ty, pos, after, gd⟩ rfl
    rcases h1 with h1 | ⟨h1, hv⟩
    · exact steps_value h1 h2 h3
    · exact steps_skip h1 hv h2 h3
  cases op
  case alloc e =>
    simp only [vcMem] at h
    split at h
    · rename_i d j ej
      refine steps_value (v := .p d w.heap.size 0 0) ?_ (hw.new_ d (svCells j.zero) e) (h _ hn0)
      simp only [execOp]
      refine run_v' ?_
      unfold Instr.alloc
      simp only [Sem.run_bind, (hT.at_ ej).run_zero, Result.andThen_ok]
      rw [map_svCells]
      rfl
    · exact h.elim
  case box e x =>
    simp only [vcMem] at h
    split at h
    · rename_i d
      obtain ⟨v, hv, h⟩ := ev_sound hf h
      have hv := hv trivial
      have go : ∀ cs : List SV, v.real.cells = (cs.map SV.r1).toArray → K (.p d w.heap.size 0 0) ((d, .blk w.heap.size e cs) :: hdel H d) → Steps1 cx a w ⟨some d, .box e x, ty, pos, after, gd⟩ K := by
        intro cs hcs hk
        refine steps_value (v := .p d w.heap.size 0 0) ?_ (hw.new_ d cs e) hk
        simp only [execOp, hv]
        refine run_v' ?_
        unfold Instr.box
        rw [run_newVar, hcs]
        rfl
      split at h
      · exact go _ (cells_real_a _) (h _ hn0)
      · cases ho : one v
        · rw [ho] at h; exact h.elim
        · rw [ho] at h
          obtain ⟨_, h2, h3, _⟩ := one_spec ho
          exact go [v] (by rw [h2, h3]; rfl) (h _ hn0)
    · exact h.elim
  case store t x v =>
    simp only [vcMem] at h
    obtain ⟨u, hu, h⟩ := ev_sound hf h
    obtain ⟨val, hval, h⟩ := ev_sound hf h
    obtain ⟨H', w', r1, r2, r3⟩ := vcStore_sound hT hw h
    refine steps_skip (v := .v undef) ?_ rfl r2 r3
    simp only [execOp, hu trivial, hval trivial]
    exact run_u r1
  case buildSlice t n ps =>
    simp only [vcMem] at h
    split at h
    · rename_i d e _ _ _ et
      have hu := und_slice (hT.at_ et) rfl
      split at h
      · rename_i j ej
        have hz := (hT.at_ ej).run_zero
        have hzs := (hT.at_ ej).2.2
        cases hb : Nat.ble (n * j.size) 16777216
        · rw [hb] at h; exact h.elim
        · rw [hb] at h
          have hle := Nat.le_of_ble_eq_true hb
          obtain ⟨vs, hvs, h⟩ := evP_sound hf h
          have hvs := hvs trivial
          obtain ⟨l', h2, h3⟩ := fill_sound (n * j.size) _ vs (repl n (svCells j.zero)) _ (by rw [repl_len]; unfold svCells; simp [hzs]) h
          refine steps_value (v := .s d w.heap.size 0 0 n n) ?_ (hw.new_ d l' e) (h3 _ hn0)
          have e1 : (ps.map fun (p : Nat × Operand) => (p.1, a.eval p.2)) = (vs.map fun p => (p.1, p.2.real)).toArray := by apply Array.toList_inj.1; rw [Array.toList_map, hvs]
          simp only [execOp]
          refine run_v' ?_
          rw [show (ps.map fun (x : Nat × Operand) => match x with | (i, x) => (i, a.eval x)) = (vs.map fun p => (p.1, p.2.real)).toArray from e1]
          unfold Instr.buildSlice
          simp only [mulS_eq] at h2
          rw [← made_repl n j.zero j.size hzs] at h2
          simp only [Sem.run_bind, run_underlying hu, Result.andThen_ok, size_run hT ej, Sem.run_ite]
          rw [if_neg (by omega)]
          by_cases h0 : n * j.size = 0
          · rw [h0] at h2
            simp only [h0, if_true, Sem.run_pure, Result.andThen_ok]
            have e0 : ∀ q : Array Value, (Array.range 0).map (fun x => q[x % q.size]!) = madeCells j.zero.cells 0 := fun q => by simp [madeCells]
            rw [e0, h2]
            rfl
          · simp only [h0, if_false, Result.andThen_ok, hz, Sem.run_pure]
            rw [show (Array.range (n * j.size)).map (fun x => j.zero.cells[x % j.zero.cells.size]!) = madeCells j.zero.cells (n * j.size) from rfl, h2]
            rfl
      · exact h.elim
    · exact h.elim
  case makeSlice t x y =>
    simp only [vcMem] at h
    split at h
    · rename_i d e _ _ _ et
      have hu := und_slice (hT.at_ et) rfl
      split at h
      · rename_i j ej
        obtain ⟨u, hux, h⟩ := ev_sound hf h
        obtain ⟨v, hvy, h⟩ := ev_sound hf h
        split at h
        · rename_i k1 l k2 c _
          obtain ⟨⟨h1, h2, h3, h4⟩, h⟩ := h
          obtain ⟨i, hi, hz0, hz1, hz2⟩ := (hT.at_ ej).info
          have hzs := (hT.at_ ej).2.2
          have hr := run_make (P := cx.P) w t e i j.zero hu hi hz0 k1 k2 l c h1 h2 (by rw [hz2]; omega) (by have h5 := h4; unfold maxLen at h5; omega)
          refine steps_value (w' := w.alloc (.cells (madeCells j.zero.cells (c.toNat * i.size)) e)) (v := .o d (some (w.heap.size, 0)) l.toNat c.toNat) (H' := (d, .row (some (w.heap.size, 0)) e j.size l.toNat c.toNat (madeCells j.zero.cells (l.toNat * j.size)).toList) :: hdel H d) ?_ ?_ (h _ hn0)
          · simp only [execOp, hux trivial, hvy trivial, SV.real, SV.r2, SV.r1]
            exact run_v' hr
          · refine hw.turn d _ ⟨rfl, rfl, rfl, by simp, fun k hk _ => Below.heap_alloc w _ k (by omega)⟩ ?_ fun x hx g hg => ?_
            · refine ⟨by simp [size_madeCells], .inr ⟨w.heap.size, c.toNat, _, rfl, hn0, heap_alloc_new w _, by omega, by have h5 := h4; unfold maxLen at h5 ⊢; omega, by rw [size_madeCells, hz1], ?_⟩⟩
              rw [hz1]
              unfold madeCells
              apply List.ext_getElem?
              intro q
              have hq : l.toNat * j.size ≤ c.toNat * j.size := Nat.mul_le_mul_right _ (by omega)
              rw [List.getElem?_take]
              by_cases hq2 : q < l.toNat * j.size
              · rw [if_pos hq2]
                simp [hq2, Nat.lt_of_lt_of_le hq2 hq]
              · rw [if_neg hq2]
                first | exact (List.getElem?_eq_none (by simp; omega)).symm | exact List.getElem?_eq_none (by simp; omega)
            · have hlt := HB.lt (hw.ent x (hdel_mem hx).1) hg
              exact ⟨Below.heap_alloc w _ g hlt, by simp [HB.gs]; omega⟩
        · exact h.elim
      · exact h.elim
    · exact h.elim
  case call cl =>
    obtain ⟨cal, args, ats⟩ := cl
    cases cal with
    | invoke x m => exact other h
    | value x =>
      simp only [vcMem] at h
      obtain ⟨fv, hfv, h⟩ := ev_sound hf h
      obtain ⟨vs, hvs, h⟩ := evL_sound hf h
      split at h
      · rename_i l
        obtain ⟨fn, tmps, asg, body, h1, h2⟩ := h.out w hw
        refine steps_round ?_ h2
        have ha' : args.map a.eval = (vs.map SV.real).toArray := by apply Array.toList_inj.1; rw [Array.toList_map, hvs trivial]
        simp only [execOp, resolve, hfv trivial, ha', SV.real, SV.r2, SV.r1, Deferred.ofValue, Sem.run_bind, Sem.run_pure, Result.andThen_ok, invoke]
        simpa using h1
      obtain ⟨n, us, h, hr⟩ := args_run (P := cx.P) (ats := ats) (hfv trivial) (hvs trivial) h
      cases hm : memN cx.F n
      · rw [hm] at h; exact h.elim
      · rw [hm] at h
        have h : Called cx n us H K := h
        exact steps_call (hr (hok.F n hm) dst ty pos after gd w) (h.out w hw)
    | builtin b =>
      cases b
      case append =>
        simp only [vcMem] at h
        split at h
        · rename_i d s x t t' es ets
          cases ht : Nat.beq t t'
          · rw [ht] at h; exact other h
          · rw [ht] at h
            obtain rfl := Nat.eq_of_beq_eq_true ht
            dsimp only [cond] at h
            obtain ⟨u, hu, h⟩ := ev_sound hf h
            obtain ⟨v, hv, h⟩ := ev_sound hf h
            obtain ⟨y, H', w', r1, r2, r3⟩ := vcAppend_sound hT hw h ty
            refine steps_value (v := y) ?_ r2 r3
            have hx : args.map a.eval = #[u.real, v.real] := by
              apply Array.toList_inj.1
              rw [Array.toList_map, es, List.map_cons, List.map_cons, List.map_nil, hu trivial, hv trivial]
            have hats : ats = #[t, t] := by apply Array.toList_inj.1; rw [ets]
            subst hats
            rw [BigFrame.execOp_builtin, BigFrame.builtin_append, hx]
            exact run_v' r1
        · exact h.elim
      all_goals exact other h
  all_goals exact other h
end Go.Proofs.YtdohcglpcgahaaaGreatDoor.Sat
namespace Go.Proofs.YtdohcglpcgahaaaGreatDoor.Sat
open Go Go.RowKit Go.PlainAid
theorem CalledQ.sound {cx : Cx} {H : Heap} {f : Env} {a : Act} (hok : COk cx) (hf : Fits cx f a) {c : Grd} {op : Op} {K : SV → Prop} (h : vcCallQ cx H f c op K) :
    ∃ v, (c.holds → ∀ o : Oper, o.op = op → ∀ w, Holds cx H w → ∃ n args, (execOp a.eval o).run cx.P w = .ok (.enter n args) w ∧ Calls cx.P n args w fun e w' => e = .returned v.real ∧ Holds cx H w') ∧ K v := by
  unfold vcCallQ at h
  split at h
  · rename_i x args ats
    obtain ⟨fv, hfv, h⟩ := ev_sound hf h
    obtain ⟨vs, hvs, h⟩ := evL_sound hf h
    have hq : ∃ n us, (bif memN cx.F n then CalledQ cx c n us H K else False) ∧ (c.holds → Enters cx.P n → ∀ (dst : Option Tmp) (ty : TypeId) (pos : String) (after : Array Edge) (gd : Option (Nat × Bool)) (w : World), (execOp a.eval ⟨dst, .call ⟨.value x, args, ats⟩, ty, pos, after, gd⟩).run cx.P w = .ok (.enter n (us.map SV.real).toArray) w) := by
      by_cases hc : c.holds
      · obtain ⟨n, us, h1, h2⟩ := args_run (P := cx.P) (ats := ats) (hfv hc) (hvs hc) h
        exact ⟨n, us, h1, fun _ => h2⟩
      · unfold vcArgs at h
        split at h
        · exact ⟨_, _, h, fun hc' => absurd hc' hc⟩
        · exact ⟨_, _, h, fun hc' => absurd hc' hc⟩
        · exact ⟨_, _, h.2, fun hc' => absurd hc' hc⟩
        · exact h.elim
    obtain ⟨n, us, h, hr⟩ := hq
    cases hm : memN cx.F n
    · rw [hm] at h; exact h.elim
    · rw [hm] at h
      have h : CalledQ cx c n us H K := h
      obtain ⟨v, h1, h2⟩ := h.out
      refine ⟨v, fun hc o ho w hw => ?_, h2⟩
      obtain ⟨dst, op', ty, pos, after, gd⟩ := o
      cases ho
      exact ⟨n, _, hr hc (hok.F n hm) dst ty pos after gd w, h1 hc w hw⟩
  · exact h.elim
theorem vcOps_sound {cx : Cx} (hok : COk cx) {ops : List Oper} : ∀ (rest : List Oper) {f : Env} {H : Heap} {K : Env → Heap → Prop} {a : Act} {w : World}, vcOps cx ops rest f H K → Fits cx f a → Holds cx H w →
    ∀ {Q : Exit → Act → World → Prop}, (∀ f' H' a' w', Fits cx f' a' → Holds cx H' w' → K f' H' → Q .normal a' w') → wpListIn (fen cx.R) 0 cx.P ops.toArray Q rest a w := by
  intro rest
  induction rest with
  | nil => intro f H K a w h hf hw Q hQ; exact hQ f H a w hf hw h
  | cons o rest ih =>
    intro f H K a w h hf hw Q hQ
    unfold vcOps at h
    simp only [putK_eq] at h
    obtain ⟨c, hc, h⟩ := gdv_sound hf h
    cases hd : dstOk cx.N o.dst
    · rw [hd] at h; exact h.elim
    · rw [hd] at h
      dsimp only [cond] at h
      unfold wpListIn
      have skip : ¬ c.holds → Region.wanted o (yielded ops.toArray a.tmps) ≠ true := fun hn hw => hn (hc.1 hw)
      cases hm : isMem o.op
      · rw [hm] at h
        obtain ⟨v, hv, h⟩ := vcOp_sound hok.T hf h
        by_cases hch : c.holds
        · rw [if_pos (hc.2 hch)]
          refine ⟨fun _ _ => trivial, ?_⟩
          rw [semAt_of _ (hv hch o rfl w hw) (by simp)]
          exact ih h (hf.put_ hd (fun _ => rfl) (fun hn => absurd hch hn)) hw hQ
        · rw [if_neg (skip hch)]
          exact ⟨fun _ _ => trivial, ih h (hf.put_ hd (fun hy => absurd hy hch) (fun _ => rfl)) hw hQ⟩
      · rw [hm] at h
        dsimp only at h
        have mem : c.holds → (vcMem cx H f o.dst o.op fun v H' => vcOps cx ops rest (put f o.dst .yes v) H' K) → o.wpIn (fen cx.R) 0 cx.P a w (wpListIn (fen cx.R) 0 cx.P ops.toArray Q rest) Q := fun hch h =>
          vcMem_sound hok hf hw h _ _ _ fun v H' w' hw' hk => ih hk (hf.put_ hd (fun _ => rfl) (fun hn => absurd trivial hn)) hw' hQ
        cases c with
        | yes =>
          rw [if_pos (hc.2 trivial)]
          exact mem trivial h
        | wh b =>
          rcases h with h | ⟨h1, h2⟩
          · obtain ⟨v, hv, h⟩ := CalledQ.sound hok hf h
            by_cases hch : (Grd.wh b).holds
            · rw [if_pos (hc.2 hch)]
              obtain ⟨n, args, r1, r2⟩ := hv hch o rfl w hw
              refine ⟨fun _ _ => trivial, ?_⟩
              rw [semAt_of _ r1 (by simp)]
              refine ⟨fen_depth _ _, callsIn_fen (r2.mono ?_)⟩
              rintro e w' ⟨rfl, hw'⟩
              exact ih h (hf.put_ hd (fun _ => rfl) (fun hn => absurd hch hn)) hw' hQ
            · rw [if_neg (skip hch)]
              exact ⟨fun _ _ => trivial, ih h (hf.put_ hd (fun hy => absurd hy hch) (fun _ => rfl)) hw hQ⟩
          · by_cases hch : (Grd.wh b).holds
            · rw [if_pos (hc.2 hch)]
              exact mem hch (h1 hch)
            · rw [if_neg (skip hch)]
              exact ⟨fun _ _ => trivial, ih (h2 (by simpa [Grd.holds] using hch)) (hf.put_ hd (fun _ => rfl) (fun hn => absurd trivial hn)) hw hQ⟩
theorem vcOpsQ_sound {cx : Cx} (hok : COk cx) {ops : List Oper} {H : Heap} : ∀ (rest : List Oper) {f : Env} {K : Env → Prop} {a : Act}, vcOpsQ cx ops H rest f K → Fits cx f a →
    ∀ {Q : Act → Prop}, (∀ f' a', Fits cx f' a' → K f' → Q a') → wpQuiet cx.P ops.toArray (Holds cx H) Q rest a := by
  intro rest
  induction rest with
  | nil => intro f K a h hf Q hQ; exact hQ f a hf h
  | cons o rest ih =>
    intro f K a h hf Q hQ
    unfold vcOpsQ at h
    simp only [putK_eq] at h
    obtain ⟨c, hc, h⟩ := gdv_sound hf h
    cases hd : dstOk cx.N o.dst
    · rw [hd] at h; exact h.elim
    · rw [hd] at h
      dsimp only [cond] at h
      unfold wpQuiet
      have skip : ¬ c.holds → Region.wanted o (yielded ops.toArray a.tmps) ≠ true := fun hn hw => hn (hc.1 hw)
      cases hm : isMem o.op
      · rw [hm] at h
        obtain ⟨v, hv, h⟩ := vcOp_sound hok.T hf h
        by_cases hch : c.holds
        · rw [if_pos (hc.2 hch)]
          refine ⟨v.real, fun w hw => ?_, ih h (hf.put_ hd (fun _ => rfl) (fun hn => absurd hch hn)) hQ⟩
          unfold Oper.quietAt
          rw [hv hch o rfl w hw]
          exact ⟨rfl, rfl⟩
        · rw [if_neg (skip hch)]
          exact ih h (hf.put_ hd (fun hy => absurd hy hch) (fun _ => rfl)) hQ
      · rw [hm] at h
        obtain ⟨v, hv, h⟩ := CalledQ.sound hok hf h
        by_cases hch : c.holds
        · rw [if_pos (hc.2 hch)]
          refine ⟨v.real, fun w hw => ?_, ih h (hf.put_ hd (fun _ => rfl) (fun hn => absurd hch hn)) hQ⟩
          obtain ⟨n, args, r1, r2⟩ := hv hch o rfl w hw
          unfold Oper.quietAt
          rw [r1]
          exact ⟨rfl, r2⟩
        · rw [if_neg (skip hch)]
          exact ih h (hf.put_ hd (fun hy => absurd hy hch) (fun _ => rfl)) hQ
/-- no defer statement -/
def noDef : List Oper → Bool
  | [] => true
  | o :: l => match o.op with
    | .defer _ => false
    | _ => noDef l
theorem noDef_mem {l : List Oper} (h : noDef l = true) : ∀ o ∈ l, ∀ c, o.op ≠ .defer c := by
  induction l with
  | nil => intro o ho; cases ho
  | cons x l ih =>
    intro o ho c hc
    unfold noDef at h
    rcases List.mem_cons.1 ho with rfl | ho
    · rw [hc] at h; cases h
    · split at h
      · cases h
      · exact ih h o ho c hc
theorem rows_in {R : Option Nat} {n : Nat} {P : Program} {row : String} {args : Array Value} {w : World} {Q : Value → World → Prop} (h : Rows P row args w Q) : RowsIn (fen R) n P row args w Q := by
  intro c cs _
  obtain ⟨v, w', hq, hs⟩ := h c cs
  exact ⟨v, w', hq, (stepsIn_wide (P := P)).2 hs⟩
/-- what is shown of a region outside of rounds holds within them -/
theorem wpOps_in {R : Option Nat} {n : Nat} {P : Program} {ops : Array Oper} {X : Act → World → Prop} (hd : noDef ops.toList = true) : ∀ (l : List Nat) (a : Act) (w : World), wpOps P ops (fun e a w => match e with | .normal => X a w | _ => False) l a w →
    wpOpsIn (fen R) n P ops (fun e a w => match e with | .normal => X a w | _ => False) l a w := by
  intro l
  induction l with
  | nil => intro a w h; exact h
  | cons i rest ih =>
    intro a w h
    unfold wpOps at h
    unfold wpOpsIn
    cases hi : ops[i]? with
    | none => rw [hi] at h; exact ih a w h
    | some o =>
      rw [hi] at h
      dsimp only at h ⊢
      split at h
      · rename_i hw
        rw [if_pos hw]
        rcases h with h | ⟨_, a0, w0, h⟩
        · refine ⟨fun _ _ => trivial, ?_⟩
          rw [Oper.semAt_eq _ _ o (noDef_mem hd o (by have := Array.mem_of_getElem? hi; simpa using this))]
          unfold Oper.wp at h
          generalize (execOp a.eval o).run P w = r at h
          cases r with
          | ok x w' =>
            cases x <;> simp only [Oper.upon] at h <;> simp only [Oper.uponIn]
            case value v => exact ih _ _ h
            case skip => exact ih _ _ h
            case defer d => exact ih _ _ h
            case enter f args =>
              refine ⟨fen_depth _ _, callsIn_fen (h.mono fun e w'' he => ?_)⟩
              cases e with
              | returned u => exact ih _ _ he
              | panicked c => exact he
              | outgrown => exact he
            case row row args => exact ⟨fen_depth _ _, rows_in (Rows.mono h fun u w'' he => ih _ _ he)⟩
          | halt x w' =>
            cases x <;> simp only [Oper.upon] at h
        · exact h.elim
      · rename_i hw
        rw [if_neg hw]
        exact ⟨fun _ _ => trivial, ih _ _ h⟩
theorem region_in {R : Option Nat} {n : Nat} {P : Program} {id : Nat} {ops : Array Oper} {X : Act → World → Prop} {Q : Exit → Act → World → Prop} {a : Act} {w : World} (hm : P.follows .mixedOrders = true) (hd : noDef ops.toList = true)
    (h : wpAny P .any ops (fun e a w => match e with | .normal => X a w | _ => False) ops.size (Array.replicate ops.size false) a { w with drawn := w.drawn + 1 }) (hQ : ∀ a w, X a w → Q .normal a w) : (Code.region id ops true).wpIn (fen R) n P Q a w := by
  refine wpIn_mono (Q := fun e a w => match e with | .normal => X a w | _ => False) (wpIn_region_draw fun t => ?_) ?_
  · simp only [Region.schedule, hm, Bool.true_or, if_true]
    exact wpOps_in hd _ _ _ (wpAny_sound ops.size t _ a _ h)
  · intro e a w he
    cases e with
    | normal => exact hQ a w he
    | _ => exact he.elim
/-- the judgement -/
structure Sat (cx : Cx) (c : Code) (K : Exit → Env → Heap → Prop) (f : Env) (H : Heap) : Prop where
  out : ∀ a w, Fits cx f a → Holds cx H w → c.wpIn (fen cx.R) 0 cx.P (fun e a' w' => ∃ f' H', Fits cx f' a' ∧ Holds cx H' w' ∧ K e f' H') a w
def noMem : List Oper → Bool
  | [] => true
  | o :: l => match o.op with
    | .call ⟨.value _, _, _⟩ => noMem l
    | .defer _ => false
    | op => bif isMem op then false else noMem l
def unmark (N : Nat) : Env → Env
  | [] => []
  | (t, c, v) :: f => bif Nat.blt t N then (t, c, v) :: unmark N f else unmark N f
theorem unmark_find {N : Nat} {f : Env} {t : Nat} {e : Grd × SV} (h : find (unmark N f) t = some e) : t < N ∧ find f t = some e := by
  induction f with
  | nil => cases h
  | cons x f ih =>
    obtain ⟨t', c, v⟩ := x
    unfold unmark at h
    cases hb : Nat.blt t' N
    · rw [hb] at h
      obtain ⟨h1, h2⟩ := ih h
      have hge : N ≤ t' := by
        rcases Nat.lt_or_ge t' N with h' | h'
        · rw [← Nat.blt_eq] at h'; rw [h'] at hb; cases hb
        · exact h'
      refine ⟨h1, ?_⟩
      simp only [find]
      have hne : Nat.beq t' t = false := by
        cases hq : Nat.beq t' t
        · rfl
        · have := Nat.eq_of_beq_eq_true hq; omega
      rw [hne]
      exact h2
    · rw [hb] at h
      simp only [cond, find] at h
      simp only [find]
      cases hq : Nat.beq t' t
      · rw [hq] at h; exact ih h
      · rw [hq] at h
        have := Nat.eq_of_beq_eq_true hq
        refine ⟨by rw [Nat.blt_eq] at hb; omega, h⟩
def idD (f : List (Nat × Nat)) : Nat := 1000000 + 2 * f.length
/-- where the function that is ranged over has returned -/
def rangeEnd (cx : Cx) (f : Env) (D L : Nat) (K : Exit → Env → Heap → Prop) (H : Heap) : Prop :=
  match hfind H (idD (marksOf cx.N f) + 1) with
  | some (.lp L' _ _ _ _ _ _ st pend) => L' = L ∧ st ≠ .busy ∧ (match pend with
    | none => K .normal ((cx.N, .wh false, .p (idD (marksOf cx.N f)) D 0 0) :: f) (hdel H (idD (marksOf cx.N f) + 1))
    | some .ret => K .ret ((cx.N, .wh false, .p (idD (marksOf cx.N f)) D 0 0) :: f) (hdel H (idD (marksOf cx.N f) + 1))
    | some (.exit i) => K (.exit i) ((cx.N, .wh false, .p (idD (marksOf cx.N f)) D 0 0) :: f) (hdel H (idD (marksOf cx.N f) + 1))
    | _ => False)
  | _ => False
/-- 'for .. := range g' over a function -/
def vcRange (cx : Cx) (g : Operand) (ps : Array Tmp) (asg body : Code) (K : Exit → Env → Heap → Prop) (f : Env) (H : Heap) : Prop :=
  match cx.R with
  | some _ => False
  | none => ev f .yes g fun fv => ∀ D L, cx.n0 ≤ D → cx.n0 ≤ L → vcArgs fv [.v (.func (.yield L) #[] #[])] fun n us => bif memN cx.F n then
      Called cx n us ((idD (marksOf cx.N f) + 1, .lp L cx.N (unmark cx.N f) ps asg body D .ready none) :: hdel ((idD (marksOf cx.N f), .dfr D) :: hdel H (idD (marksOf cx.N f))) (idD (marksOf cx.N f) + 1)) (fun _ H2 => rangeEnd cx f D L K H2)
    else False
theorem Holds.obj {cx : Cx} {H : Heap} {w : World} (h : Holds cx H w) (d : Nat) (b : HB) (o : Obj) (hg : b.gs = [w.heap.size]) (hb : b.holds cx (w.alloc o)) : Holds cx ((d, b) :: hdel H d) (w.alloc o) := by
  have hn : cx.n0 ≤ w.heap.size := Nat.le_trans h.n0 h.keep.size
  refine h.turn d _ ⟨rfl, rfl, rfl, by simp, fun k hk _ => Below.heap_alloc w _ k (by omega)⟩ hb fun e he g hg' => ?_
  have hlt := HB.lt (h.ent e (hdel_mem he).1) hg'
  exact ⟨Below.heap_alloc w _ g hlt, by rw [hg]; simp; omega⟩
/-- the entry of one block, turned -/
theorem Holds.put_ {cx : Cx} {H : Heap} {w : World} (h : Holds cx H w) {id g : Nat} {b b' : HB} (hd : hfind H id = some b) (hg : b.gs = [g]) (hg' : b'.gs = [g]) (hn : cx.n0 ≤ g) (o : Obj) (hb : b'.holds cx (w.putObj g o)) : Holds cx ((id, b') :: hdel H id) (w.putObj g o) := by
  refine h.turn id _ ⟨rfl, rfl, rfl, by simp, fun k hk _ => World.putObj_heap_other (by omega)⟩ hb fun e he k hk => ?_
  obtain ⟨h1, h2⟩ := hdel_mem he
  have hne : k ≠ g := by
    rintro rfl
    exact h.sep _ _ _ _ h1 (hfind_mem hd) h2 _ hk (by rw [hg]; exact List.mem_singleton_self _)
  exact ⟨World.putObj_heap_other hne, by rw [hg']; simpa using hne⟩
theorem Holds.drop1 {cx : Cx} {H : Heap} {w : World} (h : Holds cx H w) {id g : Nat} {b : HB} (hd : hfind H id = some b) (hg : b.gs = [g]) (hn : cx.n0 ≤ g) (o : Obj) : Holds cx (hdel H id) (w.putObj g o) := by
  have ho : ∀ e ∈ hdel H id, ∀ k, k ∈ e.2.gs → k ≠ g := by
    intro e he k hk
    obtain ⟨h1, h2⟩ := hdel_mem he
    rintro rfl
    exact h.sep _ _ _ _ h1 (hfind_mem hd) h2 _ hk (by rw [hg]; exact List.mem_singleton_self _)
  refine ⟨h.keep.trans ⟨rfl, rfl, rfl, by simp, fun k hk _ => World.putObj_heap_other (by omega)⟩, h.n0, fun e he => ?_, fun i b j b' hi hj hne g hg hg' => ?_⟩
  · exact HB.keep (h.ent e (hdel_mem he).1) fun g hg => World.putObj_heap_other (ho e he g hg)
  · exact h.sep i b j b' (hdel_mem hi).1 (hdel_mem hj).1 hne g hg hg'
theorem Fits.marked {cx : Cx} {f : Env} {a : Act} (h : Fits cx f a) (id D : Nat) : Fits cx ((cx.N, .wh false, .p id D 0 0) :: f) { a with defers := markD (id, D) :: a.defers } := by
  have hb : Nat.blt cx.N cx.N = false := by
    cases hq : Nat.blt cx.N cx.N
    · rfl
    · rw [Nat.blt_eq] at hq; omega
  refine ⟨by simp only [marksOf, hb, cond, List.map_cons, h.defers], h.size, fun t c v e hc => ?_, fun t c v e hc => ?_⟩
  · simp only [find] at e
    cases hq : Nat.beq cx.N t
    · rw [hq] at e
      exact h.slot t c v e hc
    · rw [hq] at e
      injection e with e
      injection e with e1 e2
      subst e1
      exact absurd hc (by simp [Grd.holds])
  · simp only [find] at e
    cases hq : Nat.beq cx.N t
    · rw [hq] at e
      exact h.none_ t c v e hc
    · have := Nat.eq_of_beq_eq_true hq
      rw [Array.getD_eq_getD_getElem?, Array.getElem?_eq_none (by rw [h.size]; omega)]
      rfl
theorem rangeCall_run {P : Program} {g : Operand} {l : Nat} {a : Act} {fv : SV} {K : Nat → List SV → Prop} (hx : a.eval g = fv.real) (h : vcArgs fv [.v (.func (.yield l) #[] #[])] K) :
    ∃ n us, K n us ∧ (Enters P n → ∀ w, ∃ d, (resolve a.eval (rangeCall g l) 0).run P w = .ok d w ∧ (invoke d.target d.args).run P w = .ok (.enter n (us.map SV.real).toArray) w) := by
  unfold vcArgs at h
  split at h
  · rename_i n
    refine ⟨n, _, h, fun he w => ?_⟩
    simp only [resolve, hx, SV.real, SV.r2, SV.r1, Deferred.ofValue, Sem.run_bind, Sem.run_pure, Result.andThen_ok, rangeCall, invoke]
    refine ⟨_, rfl, ?_⟩
    have := he (#[] ++ #[.func (.yield l) #[] #[]] ++ #[]) w
    simpa [invoke, Act.eval, SV.real, SV.r2, SV.r1] using this
  · rename_i n x y _
    refine ⟨n, _, h, fun he w => ?_⟩
    simp only [resolve, hx, SV.real, SV.r2, SV.r1, Deferred.ofValue, Sem.run_bind, Sem.run_pure, Result.andThen_ok, rangeCall, invoke]
    refine ⟨_, rfl, ?_⟩
    have := he (x ++ #[.func (.yield l) #[] #[]] ++ y) w
    have e : ((x.toList.map SV.v ++ [SV.v (.func (.yield l) #[] #[])] ++ y.toList.map SV.v).map SV.real).toArray = x ++ #[.func (.yield l) #[] #[]] ++ y := by
      apply Array.toList_inj.1
      have hid : ∀ l : List Value, l.map (SV.real ∘ SV.v) = l := fun l => by
        induction l with
        | nil => rfl
        | cons z l ih => rw [List.map_cons, ih]; rfl
      simp [List.map_map, hid, SV.real, SV.r2, SV.r1]
    rw [e]
    simpa [invoke, Act.eval] using this
  · rename_i n x y
    obtain ⟨hb, h⟩ := h
    rw [Bool.and_eq_true] at hb
    refine ⟨n, _, h, fun he w => ?_⟩
    simp only [resolve, hx, SV.real, SV.r2, SV.r1, Deferred.ofValue, Sem.run_bind, Sem.run_pure, Result.andThen_ok, rangeCall, invoke]
    refine ⟨_, rfl, ?_⟩
    have := he ((x.map SV.r0).toArray ++ #[.func (.yield l) #[] #[]] ++ (y.map SV.r0).toArray) w
    have e : ((x ++ [SV.v (.func (.yield l) #[] #[])] ++ y).map SV.real).toArray = (x.map SV.r0).toArray ++ #[.func (.yield l) #[] #[]] ++ (y.map SV.r0).toArray := by
      apply Array.toList_inj.1
      simp [SV.base_map hb.1, SV.base_map hb.2, SV.real, SV.r2, SV.r1]
    rw [e]
    simpa [invoke, Act.eval] using this
  · exact h.elim
theorem range_sound {cx : Cx} (hok : COk cx) {g : Operand} {ps : Array Tmp} {asg body : Code} {K : Exit → Env → Heap → Prop} {f : Env} {H : Heap} (h : vcRange cx g ps asg body K f H) : Sat cx (.rangeFunc g ps asg body) K f H := by
  unfold vcRange at h
  split at h
  · exact h.elim
  · rename_i hR
    refine ⟨fun a w hf hw => ?_⟩
    rw [hR]
    obtain ⟨fv, hfv, h⟩ := ev_sound hf h
    have hn : cx.n0 ≤ w.heap.size := Nat.le_trans hw.n0 hw.keep.size
    have h := h w.heap.size (w.heap.size + 1) hn (by omega)
    obtain ⟨n, us, h, hr⟩ := rangeCall_run (P := cx.P) (hfv trivial) h
    cases hm : memN cx.F n
    · rw [hm] at h; exact h.elim
    · rw [hm] at h
      have h : Called cx n us _ _ := h
      refine wpIn_rangeFunc fun fn _ => ?_
      have hs : (w.alloc (.deferred (some []))).heap.size = w.heap.size + 1 := by simp
      have h1 := hw.obj (idD (marksOf cx.N f)) (.dfr w.heap.size) (.deferred (some [])) rfl ⟨hn, World.alloc_heap_new w _⟩
      have h2 := h1.obj (idD (marksOf cx.N f) + 1) (.lp (w.heap.size + 1) cx.N (unmark cx.N f) ps asg body w.heap.size .ready none) (.loop { state := .ready, pending := none, fn, tmps := a.tmps, params := ps, assign := asg, body, defers := w.heap.size })
        (by rw [hs]; rfl) ⟨by omega, fn, a.tmps, by rw [← hs]; exact World.alloc_heap_new _ _, hf.size, fun t c v e hc => hf.slot t c v (unmark_find e).2 hc, fun t c v e hc => hf.none_ t c v (unmark_find e).2 hc⟩
      obtain ⟨d, hd1, hd2⟩ := hr (hok.F n hm) ((w.alloc (.deferred (some []))).alloc (.loop { state := .ready, pending := none, fn, tmps := a.tmps, params := ps, assign := asg, body, defers := w.heap.size }))
      refine ⟨_, _, _, d, _, n, _, _, run_enterLoop_outer (P := cx.P) fn a.tmps ps asg body, hd1, fun _ _ => trivial, hd2, fen_depth _ _, callsIn_fen ((h.out _ h2).mono ?_)⟩
      rintro e w3 ⟨v, H3, rfl, hw3, hk⟩
      unfold rangeEnd at hk
      split at hk
      · rename_i L' N' f' ps' asg' body' D' st pend hl
        obtain ⟨rfl, hst, hk⟩ := hk
        obtain ⟨hg, fn', tmps', hobj, _⟩ : (HB.lp (w.heap.size + 1) N' f' ps' asg' body' D' st pend).holds cx w3 := hw3.at_ hl
        refine ⟨pend, _, run_endLoop hobj hst, ?_⟩
        have hw4 := hw3.drop1 hl rfl hg (.loop { state := .exhausted, pending := pend, fn := fn', tmps := tmps', params := ps', assign := asg', body := body', defers := D' })
        have hfm := hf.marked (idD (marksOf cx.N f)) w.heap.size
        split at hk
        · exact ⟨_, _, hfm, hw4, hk⟩
        · exact wpIn_ret ⟨_, _, hfm, hw4, hk⟩
        · exact wpIn_exit ⟨_, _, hfm, hw4, hk⟩
        · exact hk.elim
      · exact hk.elim
/-- the same, to be walked -/
structure Walk (cx : Cx) (c : Code) (K : Exit → Env → Heap → Prop) (f : Env) (H : Heap) : Prop where
  out : Sat cx c K f H
def vcStmt (cx : Cx) (c : Code) (K : Exit → Env → Heap → Prop) (f : Env) (H : Heap) : Prop :=
  match c with
  | .skip => K .normal f H
  | .region id ops draw => bif memN cx.SR id then Sat cx (.region id ops draw) K f H else (match draw with
    | false => vcOps cx ops.toList ops.toList f H (K .normal)
    | true => bif noMem ops.toList then (Region.lexB .any ops = true ∧ vcOpsQ cx ops.toList H ops.toList f fun f' => K .normal f' H) ∨ Sat cx (.region id ops true) K f H else Sat cx (.region id ops true) K f H)
  | .seq a b => Walk cx a (fun e f H => match e with
    | .normal => Walk cx b K f H
    | e => K e f H) f H
  | .cond c x y => bif (match c with | .tmp t => memN cx.SC t | _ => false) then Sat cx (.cond c x y) K f H else ev f .yes c fun v => match v with
    | .v (.bool b) => Cnd b (Walk cx x K f H) (Walk cx y K f H)
    | _ => False
  | .block id c => bif memN cx.SB id then Sat cx (.block id c) K f H else Walk cx c (fun e f H => match e with
    | .exit i => bif Nat.beq i id then K .normal f H else K (.exit i) f H
    | e => K e f H) f H
  | .exit id => K (.exit id) f H
  | .ret => K .ret f H
  | .rangeFunc g ps asg body => vcRange cx g ps asg body K f H
  | c => Sat cx c K f H
theorem sat_ops {cx : Cx} (hok : COk cx) {id : Nat} {ops : Array Oper} {K : Exit → Env → Heap → Prop} {f : Env} {H : Heap} (h : vcOps cx ops.toList ops.toList f H (K .normal)) : Sat cx (.region id ops false) K f H :=
  ⟨fun a w hf hw => wpIn_region_list (by
    have := vcOps_sound hok ops.toList h hf hw (Q := fun e a' w' => ∃ f' H', Fits cx f' a' ∧ Holds cx H' w' ∧ K e f' H') (fun f' H' a' w' h1 h2 h3 => ⟨f', H', h1, h2, h3⟩)
    simpa using this)⟩
theorem noMem_def {l : List Oper} (h : noMem l = true) : noDef l = true := by
  induction l with
  | nil => rfl
  | cons o l ih =>
    unfold noMem at h
    unfold noDef
    split at h
    · rename_i e
      rw [e]
      exact ih h
    · cases h
    · rename_i h1 h2
      split
      · rename_i c e; exact absurd e (h2 c)
      · cases hm : isMem o.op
        · rw [hm] at h; exact ih h
        · rw [hm] at h; cases h
theorem sat_opsQ {cx : Cx} (hok : COk cx) {id : Nat} {ops : Array Oper} {K : Exit → Env → Heap → Prop} {f : Env} {H : Heap} (hn : noMem ops.toList = true) (hl : Region.lexB .any ops = true) (h : vcOpsQ cx ops.toList H ops.toList f fun f' => K .normal f' H) : Sat cx (.region id ops true) K f H :=
  ⟨fun a w hf hw => by
    simp only [Region.lexB, Bool.and_eq_true] at hl
    refine region_in (X := fun a' w' => ∃ f' H', Fits cx f' a' ∧ Holds cx H' w' ∧ K .normal f' H') hok.order (noMem_def hn) (wpAny_of_quiet (C := Holds cx H) (Q := fun a' => ∀ w', Holds cx H w' → ∃ f' H', Fits cx f' a' ∧ Holds cx H' w' ∧ K .normal f' H') (fun _ w' hw' h => h w' hw') _ _ _ _ (hw.drawn _) ?_) (fun a w h => h)
    have h1 := vcOpsQ_sound hok ops.toList h hf (Q := fun a' => ∀ w', Holds cx H w' → ∃ f' H', Fits cx f' a' ∧ Holds cx H' w' ∧ K .normal f' H') (fun f' a' h1 h2 w' hw' => ⟨f', H, h1, hw', h2⟩)
    have h2 := wpAnyQ_lex (P := cx.P) (ops := ops) (C := Holds cx H) (md := .any) hl.1 ops.toList 0 (Array.replicate ops.size false) a (by simp) (by simpa using hl.2) (by simpa using h1)
    simpa using h2⟩
theorem walk {cx : Cx} (hok : COk cx) {c : Code} {K : Exit → Env → Heap → Prop} {f : Env} {H : Heap} (h : vcStmt cx c K f H) : Walk cx c K f H := by
  refine ⟨?_⟩
  cases c with
  | skip => exact ⟨fun a w hf hw => wpIn_skip ⟨f, H, hf, hw, h⟩⟩
  | region id ops draw =>
    unfold vcStmt at h
    dsimp only at h
    cases hm : memN cx.SR id
    · rw [hm] at h
      cases draw with
      | false => exact sat_ops hok h
      | true =>
        dsimp only [cond] at h
        cases hn : noMem ops.toList
        · rw [hn] at h; exact h
        · rw [hn] at h
          rcases h with ⟨h1, h2⟩ | h
          · exact sat_opsQ hok hn h1 h2
          · exact h
    · rw [hm] at h; exact h
  | seq x y =>
    have h1 := Walk.out h
    refine ⟨fun a w hf hw => wpIn_seq (wpIn_mono (h1.out a w hf hw) ?_)⟩
    rintro e a' w' ⟨f', H', hf', hw', hk⟩
    cases e with
    | normal => exact (Walk.out hk).out a' w' hf' hw'
    | _ => exact ⟨f', H', hf', hw', hk⟩
  | cond c x y =>
    unfold vcStmt at h
    dsimp only at h
    cases hm : (match c with | .tmp t => memN cx.SC t | _ => false)
    · rw [hm] at h
      dsimp only [cond] at h
      refine ⟨fun a w hf hw => ?_⟩
      obtain ⟨v, hv, h⟩ := ev_sound hf h
      split at h
      · rename_i b
        exact wpIn_cond_split (hv trivial) (fun hb => (Walk.out (h.t hb)).out a w hf hw) (fun hb => (Walk.out (h.f hb)).out a w hf hw)
      · exact h.elim
    · rw [hm] at h; exact h
  | block id c =>
    unfold vcStmt at h
    dsimp only at h
    cases hm : memN cx.SB id
    · rw [hm] at h
      have h1 := Walk.out h
      refine ⟨fun a w hf hw => wpIn_block (wpIn_mono (h1.out a w hf hw) ?_)⟩
      rintro e a' w' ⟨f', H', hf', hw', hk⟩
      cases e with
      | exit i =>
        simp only [Exit.inBlock]
        dsimp only at hk
        cases hb : Nat.beq i id
        · rw [hb] at hk
          have hne : i ≠ id := fun e' => by rw [e', show Nat.beq id id = true from by simp] at hb; cases hb
          rw [if_neg hne]
          exact ⟨f', H', hf', hw', hk⟩
        · rw [hb] at hk
          rw [if_pos (Nat.eq_of_beq_eq_true hb)]
          exact ⟨f', H', hf', hw', hk⟩
      | _ => exact ⟨f', H', hf', hw', hk⟩
    · rw [hm] at h; exact h
  | exit id => exact ⟨fun a w hf hw => wpIn_exit ⟨f, H, hf, hw, h⟩⟩
  | ret => exact ⟨fun a w hf hw => wpIn_ret ⟨f, H, hf, hw, h⟩⟩
  | rangeFunc g ps asg body => exact range_sound hok h
  | _ => exact h
/-- what is known of a frame is less, and of the heap -/
def fsub (f : Env) : Env → Prop
  | [] => True
  | (t, c, v) :: g => (match c with
    | .wh _ => True
    | .yes => match find f t with
      | some (.yes, v') => v'.real = v.real
      | some (.wh b, v') => b = true ∧ v'.real = v.real
      | none => False) ∧ fsub f g
def heq : HB → HB → Prop
  | .blk g ty cs, .blk g' ty' cs' => (g = g' ∧ ty = ty') ∧ cs.map SV.r1 = cs'.map SV.r1
  | .row A e sz n cap xs, .row A' e' sz' n' cap' xs' => (A = A' ∧ e = e' ∧ sz = sz' ∧ cap = cap') ∧ n = n' ∧ xs = xs'
  | .ro A n sz xs, .ro A' n' sz' xs' => (A = A' ∧ n = n') ∧ sz = sz' ∧ xs = xs'
  | .dfr D, .dfr D' => D = D'
  | .lp g N f ps asg body D st pend, b => b = .lp g N f ps asg body D st pend
  | .own gs P, .own gs' P' => gs = gs' ∧ P = P'
  | _, _ => False
def hent (H : Heap) (i : Nat) (b : HB) : Prop :=
  match hfind H i with
  | some b' => heq b' b
  | none => match b with
    | .row none _ _ 0 0 [] => True
    | _ => False
def hsub (H : Heap) : Heap → Prop
  | [] => True
  | (i, b) :: G => hent H i b ∧ hsub H G
def allYes (N : Nat) : Env → Bool
  | [] => true
  | (_, .yes, _) :: g => allYes N g
  | (t, .wh b, _) :: g => bif b then false else (bif Nat.ble N t then allYes N g else false)
theorem Fits.sub {cx : Cx} {f g : Env} {a : Act} (h : Fits cx f a) (hs : fsub f g) (hy : allYes cx.N g = true) (hm : marksOf cx.N f = marksOf cx.N g) : Fits cx g a := by
  have key : ∀ g : Env, fsub f g → allYes cx.N g = true → ∀ t c v, find g t = some (c, v) → (c = .yes ∧ a.tmps.getD t undef = v.real) ∨ (c = .wh false ∧ cx.N ≤ t) := by
    intro g
    induction g with
    | nil => intro _ _ t c v e; cases e
    | cons x g ih =>
      obtain ⟨t', c', v'⟩ := x
      intro hs hy t c v e
      obtain ⟨h1, h2⟩ := hs
      simp only [find] at e
      cases c' with
      | wh b =>
        simp only [allYes] at hy
        cases b with
        | true => cases hy
        | false =>
          dsimp only [cond] at hy
          cases hle : Nat.ble cx.N t'
          · rw [hle] at hy; cases hy
          · rw [hle] at hy
            cases hb : Nat.beq t' t
            · rw [hb] at e; exact ih h2 hy t c v e
            · rw [hb] at e
              obtain rfl := Nat.eq_of_beq_eq_true hb
              injection e with e
              injection e with e1 e2
              exact .inr ⟨e1.symm, Nat.le_of_ble_eq_true hle⟩
      | yes =>
        simp only [allYes] at hy
        cases hb : Nat.beq t' t
        · rw [hb] at e; exact ih h2 hy t c v e
        · rw [hb] at e
          obtain rfl := Nat.eq_of_beq_eq_true hb
          injection e with e
          injection e with e1 e2
          subst e2
          refine .inl ⟨e1.symm, ?_⟩
          dsimp only at h1
          split at h1
          · rename_i v2 ef
            rw [← h1]; exact h.slot _ _ _ ef trivial
          · rename_i b v2 ef
            rw [← h1.2]; exact h.slot _ _ _ ef h1.1
          · exact h1.elim
  refine ⟨by rw [← hm]; exact h.defers, h.size, fun t c v e hc => ?_, fun t c v e hc => ?_⟩
  · rcases key g hs hy t c v e with ⟨_, h1⟩ | ⟨rfl, _⟩
    · exact h1
    · cases hc
  · rcases key g hs hy t c v e with ⟨rfl, _⟩ | ⟨_, h1⟩
    · exact absurd trivial hc
    · rw [Array.getD_eq_getD_getElem?, Array.getElem?_eq_none (by rw [h.size]; exact h1)]
      rfl
theorem hent_holds {cx : Cx} {H : Heap} {w : World} (h : Holds cx H w) {i : Nat} {b : HB} (he : hent H i b) : b.holds cx w ∧ ∀ g, g ∈ b.gs → ∃ b', (i, b') ∈ H ∧ g ∈ b'.gs := by
  unfold hent at he
  split at he
  · rename_i b' eh
    unfold heq at he
    split at he
    · rename_i g' ty' cs' g ty cs
      obtain ⟨⟨rfl, rfl⟩, hcs⟩ := he
      have hb := h.at_ eh
      exact ⟨⟨hb.1, by rw [← hcs]; exact hb.2⟩, fun g hg => ⟨_, hfind_mem eh, hg⟩⟩
    · obtain ⟨⟨rfl, rfl, rfl, rfl⟩, rfl, rfl⟩ := he
      exact ⟨h.at_ eh, fun g hg => ⟨_, hfind_mem eh, hg⟩⟩
    · obtain ⟨⟨rfl, rfl⟩, rfl, rfl⟩ := he
      exact ⟨h.at_ eh, fun g hg => ⟨_, hfind_mem eh, hg⟩⟩
    · subst he
      exact ⟨h.at_ eh, fun g hg => ⟨_, hfind_mem eh, hg⟩⟩
    · subst he
      exact ⟨h.at_ eh, fun g hg => ⟨_, hfind_mem eh, hg⟩⟩
    · obtain ⟨rfl, rfl⟩ := he
      exact ⟨h.at_ eh, fun g hg => ⟨_, hfind_mem eh, hg⟩⟩
    · exact he.elim
  · split at he
    · exact ⟨World.ownsRow_nil w cx.n0 _ _, fun g hg => by simp [HB.gs] at hg⟩
    · exact he.elim
theorem Holds.sub {cx : Cx} {H G : Heap} {w : World} (h : Holds cx H w) (hs : hsub H G) : Holds cx G w := by
  have key : ∀ G : Heap, hsub H G → ∀ i b, (i, b) ∈ G → hent H i b := by
    intro G
    induction G with
    | nil => intro _ i b hm; cases hm
    | cons x G ih =>
      obtain ⟨j, c⟩ := x
      intro hs i b hm
      rw [List.mem_cons] at hm
      rcases hm with hm | hm
      · cases hm; exact hs.1
      · exact ih hs.2 i b hm
  refine ⟨h.keep, h.n0, fun e he => (hent_holds h (key G hs e.1 e.2 he)).1, fun i b j b' hi hj hne g hg hg' => ?_⟩
  obtain ⟨c, hc1, hc2⟩ := (hent_holds h (key G hs i b hi)).2 g hg
  obtain ⟨c', hc1', hc2'⟩ := (hent_holds h (key G hs j b' hj)).2 g hg'
  exact h.sep i c j c' hc1 hc1' hne g hc2 hc2'
/-- a family of states -/
def Into (cx : Cx) {α : Type} (S : α → Env × Heap) (I : α → Prop) (f : Env) (H : Heap) : Prop := ∃ a, I a ∧ fsub f (S a).1 ∧ hsub H (S a).2 ∧ marksOf cx.N f = marksOf cx.N (S a).1
theorem sat_loop {cx : Cx} (hok : COk cx) {α : Type} (S : α → Env × Heap) (I : α → Prop) (μ : α → Nat) (hy : ∀ a, allYes cx.N (S a).1 = true) {b : Code} {K : Exit → Env → Heap → Prop} {f : Env} {H : Heap}
    (h0 : Into cx S I f H)
    (hr : ∀ a, I a → Walk cx b (fun e f H => match e with
      | .normal => Into cx S (fun a' => I a' ∧ μ a' < μ a) f H
      | e => K e f H) (S a).1 (S a).2) : Sat cx (.loop b) K f H := by
  refine ⟨fun a w hf hw => ?_⟩
  obtain ⟨x, hx, h1, h2, h3⟩ := h0
  refine wpIn_loop (fun a' w' => ∃ n x, I x ∧ μ x = n ∧ Fits cx (S x).1 a' ∧ Holds cx (S x).2 w') (fun a' w' => leastOf fun n => ∃ x, I x ∧ μ x = n ∧ Fits cx (S x).1 a' ∧ Holds cx (S x).2 w') ⟨_, x, hx, rfl, hf.sub h1 (hy x) h3, hw.sub h2⟩ ?_
  intro a' w' hI
  have hs := leastOf_spec hI
  obtain ⟨x, hx, hm, hf', hw'⟩ := hs.1
  refine wpIn_mono ((hr x hx).out.out a' w' hf' hw') ?_
  rintro e a2 w2 ⟨f2, H2, hf2, hw2, hk⟩
  cases e with
  | normal =>
    obtain ⟨y, ⟨hy1, hy2⟩, h3, h4, h5⟩ := hk
    have hq : ∃ n x, I x ∧ μ x = n ∧ Fits cx (S x).1 a2 ∧ Holds cx (S x).2 w2 := ⟨μ y, y, hy1, rfl, hf2.sub h3 (hy y) h5, hw2.sub h4⟩
    refine ⟨hq, ?_⟩
    have := (leastOf_spec hq).2 (μ y) ⟨y, hy1, rfl, hf2.sub h3 (hy y) h5, hw2.sub h4⟩
    omega
  | _ => exact ⟨f2, H2, hf2, hw2, hk⟩
/-- the function's end -/
structure Done (cx : Cx) (R : Ending → World → Prop) (v : SV) (H : Heap) : Prop where
  out : ∀ w, Holds cx H w → R (.returned v.real) w
def vcRes (cx : Cx) (f : Env) (H : Heap) : List ResultVar → (List SV → Prop) → Prop
  | [], K => K []
  | .tmp t :: l, K => ev f .yes (.tmp t) fun v => match v with
    | .t _ => False
    | v => vcRes cx f H l fun vs => K (v :: vs)
  | .cell p t :: l, K => ev f .yes (.tmp p) fun u => vcLoad cx.T cx H .yes t u fun v => match v with
    | .t _ => False
    | v => vcRes cx f H l fun vs => K (v :: vs)
/-- the marks are taken off -/
def vcMarks : List (Nat × Nat) → Heap → (Heap → Prop) → Prop
  | [], H, K => K H
  | (id, D) :: ms, H, K => match hfind H id with
    | some (.dfr D') => D = D' ∧ vcMarks ms (hdel H id) K
    | _ => False
def retK (cx : Cx) (fn : Func) (R : Ending → World → Prop) (e : Exit) (f : Env) (H : Heap) : Prop :=
  match e with
  | .ret => vcMarks (marksOf cx.N f) H fun H => vcRes cx f H fn.results.toList fun vs => match vs with
    | [v] => Done cx R v H
    | vs => Done cx R (.t vs) H
  | .normal => vcMarks (marksOf cx.N f) H fun H => vcRes cx f H fn.results.toList fun vs => match vs with
    | [v] => Done cx R v H
    | vs => Done cx R (.t vs) H
  | _ => False
theorem asAddr_load {P : Program} {t : TypeId} {u : Value} {v : Value} {w w' : World} (h : (Instr.loadAt t u).run P w = .ok v w') : (do loadVar t (← asAddr u) : Sem Value).run P w = .ok v w' := by
  cases u with
  | pointer a =>
    cases a with
    | some a => exact h
    | none => cases h
  | _ => cases h
theorem vcRes_sound {cx : Cx} (hT : TOk cx.P cx.T) {f : Env} {H : Heap} {a : Act} (hf : Fits cx f a) {w : World} (hw : Holds cx H w) : ∀ (l : List ResultVar) {K : List SV → Prop}, vcRes cx f H l K →
    ∃ vs, (∀ g : ResultVar → Sem Value, (∀ t, g (.tmp t) = pure (a.tmps.getD t undef)) → (∀ p t, g (.cell p t) = do loadVar t (← asAddr (a.tmps.getD p undef))) → (l.mapM g).run cx.P w = .ok (vs.map SV.r2) w) ∧ (∀ v ∈ vs, v.real = v.r2) ∧ K vs := by
  intro l
  induction l with
  | nil => intro K h; exact ⟨[], fun _ _ _ => by simp, by simp, h⟩
  | cons x l ih =>
    intro K h
    cases x with
    | tmp t =>
      simp only [vcRes] at h
      obtain ⟨v, hv, h⟩ := ev_sound hf h
      split at h
      · exact h.elim
      · rename_i hnt
        obtain ⟨vs, h1, h2, h3⟩ := ih h
        have hr : v.real = v.r2 := SV.real_nt hnt
        refine ⟨v :: vs, ?_, ?_, h3⟩
        · intro g g1 g2
          have : a.tmps.getD t undef = v.r2 := by rw [← hr]; exact hv trivial
          simp only [List.mapM_cons, g1, Sem.run_bind, Sem.run_pure, Result.andThen_ok, h1 g g1 g2, this, List.map_cons]
        · intro y hy
          rw [List.mem_cons] at hy
          rcases hy with rfl | hy
          · exact hr
          · exact h2 y hy
    | cell p t =>
      simp only [vcRes] at h
      obtain ⟨u, hu, h⟩ := ev_sound hf h
      obtain ⟨v, hv, h⟩ := vcLoad_sound hT h
      split at h
      · exact h.elim
      · rename_i hnt
        obtain ⟨vs, h1, h2, h3⟩ := ih h
        have hr : v.real = v.r2 := SV.real_nt hnt
        refine ⟨v :: vs, ?_, ?_, h3⟩
        · intro g g1 g2
          have e1 : a.tmps.getD p undef = u.real := hu trivial
          have e2 := asAddr_load (hv trivial w hw)
          rw [hr] at e2
          have e3 : (g (.cell p t)).run cx.P w = .ok v.r2 w := by rw [g2, e1]; exact e2
          simp only [List.mapM_cons, Sem.run_bind, e3, Sem.run_pure, Result.andThen_ok, h1 g g1 g2, List.map_cons]
        · intro y hy
          rw [List.mem_cons] at hy
          rcases hy with rfl | hy
          · exact hr
          · exact h2 y hy
theorem run_results {cx : Cx} (hT : TOk cx.P cx.T) {fn : Func} {R : Ending → World → Prop} {f : Env} {H : Heap} {a : Act} (hf : Fits cx f a) {w : World} (hw : Holds cx H w)
    (h : vcRes cx f H fn.results.toList fun vs => match vs with
    | [v] => Done cx R v H
    | vs => Done cx R (.t vs) H) : ∃ v, (results fn a.tmps).run cx.P w = .ok v w ∧ R (.returned v) w := by
  obtain ⟨vs, h1, h2, h3⟩ := vcRes_sound hT hf hw _ h
  have hm : ∀ g : ResultVar → Sem Value, (∀ t, g (.tmp t) = pure (a.tmps.getD t undef)) → (∀ p t, g (.cell p t) = do loadVar t (← asAddr (a.tmps.getD p undef))) → (fn.results.mapM g).run cx.P w = .ok (vs.map SV.r2).toArray w := fun g g1 g2 => by
    rw [Array.mapM_eq_mapM_toList, Sem.run_map, h1 g g1 g2]
    rfl
  unfold results
  simp only [Sem.run_bind]
  rw [hm _ (fun _ => rfl) (fun _ _ => rfl)]
  simp only [Result.andThen_ok, Sem.run_pure]
  split at h3
  · rename_i v
    refine ⟨_, rfl, ?_⟩
    have := h3.out w hw
    rw [h2 v (by simp)] at this
    simpa using this
  · rename_i hne
    refine ⟨_, rfl, ?_⟩
    have := h3.out w hw
    rw [dif_neg (by simp; intro hl; match vs, hl, hne with | [v], _, hne => exact hne v rfl)]
    exact this
def argEnv : Nat → List SV → Env
  | _, [] => []
  | i, v :: l => (i, .yes, v) :: argEnv (i + 1) l
theorem argEnv_find : ∀ (l : List SV) (i t : Nat) (c : Grd) (v : SV), find (argEnv i l) t = some (c, v) → c = .yes ∧ ∃ j, t = i + j ∧ l[j]? = some v := by
  intro l
  induction l with
  | nil => intro i t c v e; cases e
  | cons x l ih =>
    intro i t c v e
    simp only [argEnv, find] at e
    cases hb : Nat.beq i t
    · rw [hb] at e
      obtain ⟨h1, j, h2, h3⟩ := ih (i + 1) t c v e
      exact ⟨h1, j + 1, by omega, h3⟩
    · rw [hb] at e
      obtain rfl := Nat.eq_of_beq_eq_true hb
      injection e with e
      injection e with e1 e2
      subst e2
      exact ⟨e1.symm, 0, rfl, rfl⟩
theorem marks_args (N : Nat) : ∀ (l : List SV) (i : Nat), i + l.length ≤ N → marksOf N (argEnv i l) = [] := by
  intro l
  induction l with
  | nil => intro i _; rfl
  | cons x l ih =>
    intro i h
    simp only [List.length_cons] at h
    have hb : Nat.blt i N = true := by rw [Nat.blt_eq]; omega
    simp only [argEnv, marksOf, hb, cond]
    exact ih (i + 1) (by omega)
theorem Holds.drop_ {cx : Cx} {H : Heap} {w : World} (h : Holds cx H w) {id D : Nat} (hd : hfind H id = some (.dfr D)) (o : Obj) : Holds cx (hdel H id) (w.putObj D o) := by
  have hb : (HB.dfr D).holds cx w := h.at_ hd
  have ho : ∀ e ∈ hdel H id, ∀ g, g ∈ e.2.gs → g ≠ D := by
    intro e he g hg
    obtain ⟨h1, h2⟩ := hdel_mem he
    rintro rfl
    exact h.sep _ _ _ _ h1 (hfind_mem hd) h2 _ hg (List.mem_singleton_self _)
  refine ⟨h.keep.trans ⟨rfl, rfl, rfl, by simp, fun k hk _ => World.putObj_heap_other (by have := hb.1; omega)⟩, h.n0, fun e he => ?_, fun i b j b' hi hj hne g hg hg' => ?_⟩
  · exact HB.keep (h.ent e (hdel_mem he).1) fun g hg => World.putObj_heap_other (ho e he g hg)
  · exact h.sep i b j b' (hdel_mem hi).1 (hdel_mem hj).1 hne g hg hg'
theorem marks_out {cx : Cx} {fn : Func} {R : Ending → World → Prop} {tmps : Array Value} {K : Heap → Prop} (hK : ∀ H w, Holds cx H w → K H → ∃ v, (results fn tmps).run cx.P w = .ok v w ∧ R (.returned v) w) :
    ∀ (ms : List (Nat × Nat)) (H : Heap) (w : World), Holds cx H w → vcMarks ms H K → LeavesInM (fen none) 0 cx.P fn tmps R (ms.map markD) .returning w := by
  intro ms
  induction ms with
  | nil => intro H w hw h; exact hK H w hw h
  | cons m ms ih =>
    obtain ⟨id, D⟩ := m
    intro H w hw h
    unfold vcMarks at h
    split at h
    · rename_i D' e
      obtain ⟨rfl, h⟩ := h
      refine ⟨by simp, .inl ⟨D, _, rfl, run_takeDeferred (hw.at_ e).2, ih _ _ (hw.drop_ e _) h⟩⟩
    · exact h.elim
theorem calls_sat {cx : Cx} (hok : COk cx) {n : Nat} {fn : Func} {c : Code} (hfn : cx.P.funcs[n]? = some fn) (hb : fn.body = some c) (args : List SV) (hN : cx.N = fn.ntmps) (hle : args.length ≤ fn.ntmps) (H : Heap)
    {R : Ending → World → Prop} {w0 : World} (hH : Holds cx H w0) (h : Walk cx c (retK cx fn R) (argEnv 0 args) H) (hR : cx.R = none := by rfl) : Calls cx.P n (args.map SV.real).toArray w0 R := by
  refine calls_fen (n := 0) (callsIn_of_wp_marks (n := 0) hfn hb trivial ?_)
  have hfit : Fits cx (argEnv 0 args) { tmps := (args.map SV.real).toArray ++ Array.replicate (fn.ntmps - (args.map SV.real).toArray.size) undef, defers := [] } := by
    refine ⟨by rw [marks_args _ _ _ (by omega)]; rfl, by simp; omega, fun t c v e _ => ?_, fun t c v e hc => ?_⟩
    · obtain ⟨_, j, rfl, hj⟩ := argEnv_find args 0 t c v e
      have hlt : j < args.length := (List.getElem?_eq_some_iff.1 hj).1
      simp only [Nat.zero_add, Array.getD_eq_getD_getElem?]
      rw [Array.getElem?_append_left (by simpa using hlt)]
      simp [hj]
    · obtain ⟨rfl, _⟩ := argEnv_find args 0 t c v e
      exact absurd trivial hc
  have h0 := h.out.out _ _ hfit hH
  rw [hR] at h0
  refine wpIn_mono h0 ?_
  rintro e a w ⟨f', H', hf', hw', hk⟩
  cases e with
  | normal =>
    have := marks_out (R := R) (fun H w hw h => run_results hok.T hf' hw h) _ _ _ hw' hk
    rw [← hf'.defers] at this
    exact this
  | ret =>
    have := marks_out (R := R) (fun H w hw h => run_results hok.T hf' hw h) _ _ _ hw' hk
    rw [← hf'.defers] at this
    exact this
  | _ => exact hk.elim
/-- a callee that adds memory alone and returns a value that is known -/
theorem called_pure {cx : Cx} {n : Nat} {args : List SV} {H : Heap} {K : SV → Heap → Prop} {v : Value} (r : SV) (hr : r.real = v)
    (h : ∀ w, Calls cx.P n (args.map SV.real).toArray w fun e w' => e = .returned v ∧ Below w.heap.size w w') (hk : K r H) : Called cx n args H K :=
  ⟨fun w hw => (h w).mono fun _ w' ⟨he, hb⟩ => ⟨r, H, by rw [he, hr], hw.below hb, hk⟩⟩
theorem calledQ_pure {cx : Cx} {c : Grd} {n : Nat} {args : List SV} {H : Heap} {K : SV → Prop} {v : Value} (r : SV) (hr : r.real = v)
    (h : c.holds → ∀ w, Calls cx.P n (args.map SV.real).toArray w fun e w' => e = .returned v ∧ Below w.heap.size w w') (hk : K r) : CalledQ cx c n args H K :=
  ⟨r, fun hc w hw => (h hc w).mono fun _ w' ⟨he, hb⟩ => ⟨by rw [he, hr], hw.below hb⟩, hk⟩
theorem holds_nil {cx : Cx} (hn : cx.n0 ≤ cx.W.heap.size) : Holds cx [] cx.W := ⟨Keep.refl _ _ _, hn, (fun e he => by cases he), (fun i b j b' hi => by cases hi)⟩
end Go.Proofs.YtdohcglpcgahaaaGreatDoor.Sat
namespace Go.Proofs.YtdohcglpcgahaaaGreatDoor.Sat
open Go Go.RowKit
theorem done_pure {cx : Cx} {v : SV} {H : Heap} {x : Value} (hn : cx.n0 = cx.W.heap.size) (hM : cx.M = []) (h : v.real = x) : Done cx (fun e w' => e = .returned x ∧ Below cx.W.heap.size cx.W w') v H :=
  ⟨fun w hw => ⟨by rw [h], by have := hw.keep; rw [hM] at this; rw [← hn]; exact this.below⟩⟩
end Go.Proofs.YtdohcglpcgahaaaGreatDoor.Sat
namespace Go.Proofs.YtdohcglpcgahaaaGreatDoor.Sat
open Go Go.RowKit Go.PlainAid
/-- in which orders the operations of a region that draws may come, as far as it matters: what is pure is taken first -/
inductive Plan where
  | fin
  | take (i : Nat) (p : Plan)
  | alt (i : Nat) (p q : Plan)
  | no
def needOf : List Edge → Nat
  | [] => 0
  | e :: l => bif Region.binds .any e then Nat.lor (Nat.shiftLeft 1 e.on) (needOf l) else needOf l
def pureOp : Op → Bool
  | .call ⟨.builtin .len, _, _⟩ => true
  | .call ⟨.builtin .min, _, _⟩ => true
  | .call ⟨.builtin .cap, _, _⟩ => true
  | .call ⟨.builtin .max, _, _⟩ => true
  | .call _ => false
  | op => bif isMem op then false else true
def items (imp : List Nat) : Nat → List Oper → List (Nat × Bool × Nat)
  | _, [] => []
  | i, o :: l => (i, (bif pureOp o.op then (bif memN imp i then false else true) else false), needOf o.after.toList) :: items imp (i + 1) l
def inN (need done : Nat) : Bool := Nat.beq (Nat.land need done) need
def firstPure (done : Nat) : List (Nat × Bool × Nat) → Option Nat
  | [] => none
  | (i, b, n) :: l => bif b then (bif inN n done then some i else firstPure done l) else firstPure done l
def readyL (done : Nat) : List (Nat × Bool × Nat) → List Nat
  | [] => []
  | (i, _, n) :: l => bif inN n done then i :: readyL done l else readyL done l
def del (i : Nat) : List (Nat × Bool × Nat) → List (Nat × Bool × Nat)
  | [] => []
  | x :: l => bif Nat.beq x.1 i then l else x :: del i l
def mkPlan : Nat → List (Nat × Bool × Nat) → Nat → Plan
  | 0, _, _ => .fin
  | n + 1, rest, done => match firstPure done rest with
    | some i => .take i (mkPlan n (del i rest) (Nat.lor done (Nat.shiftLeft 1 i)))
    | none => match readyL done rest with
      | [] => .fin
      | i :: l => .alt i (mkPlan n (del i rest) (Nat.lor done (Nat.shiftLeft 1 i))) (l.foldr (fun j q => .alt j (mkPlan n (del j rest) (Nat.lor done (Nat.shiftLeft 1 j))) q) .no)
def planOf (imp : List Nat) (ops : Array Oper) : Plan := mkPlan ops.toList.length (items imp 0 ops.toList) 0
def Plan.ids : Plan → List Nat
  | .alt i _ q => i :: q.ids
  | _ => []
def Plan.depth : Plan → Nat
  | .take _ p => p.depth + 1
  | .alt _ p q => max (p.depth + 1) q.depth
  | _ => 0
def planOk (ops : Array Oper) : Bool → Plan → Array Bool → Bool
  | c, .fin, listed => !c && (Region.ready .any ops listed).isEmpty
  | c, .take i p, listed => !c && (Region.free .any ops listed i && ((Region.ready .any ops listed).contains i && planOk ops false p (listed.setIfInBounds i true)))
  | c, .alt i p q, listed => (c || (!(Region.ready .any ops listed).isEmpty && (Region.ready .any ops listed).all fun j => (i :: q.ids).contains j)) && (planOk ops false p (listed.setIfInBounds i true) && planOk ops true q listed)
  | c, .no, _ => c
structure Kept (H G : Heap) : Prop where
  out : hsub H G
structure Two (A B : Prop) : Prop where
  out : A ∧ B
/-- one operation that may change memory -/
def vcStep (cx : Cx) (ops : List Oper) (o : Oper) (f : Env) (H : Heap) (K : Env → Heap → Prop) : Prop :=
  gdv ops f o.guard fun c => bif dstOk cx.N o.dst then
      (bif isMem o.op then (match c with
        | .yes => vcMem cx H f o.dst o.op fun v H' => putK f o.dst .yes v fun f' => K f' H'
        | .wh b => vcCallQ cx H f (.wh b) o.op (fun v => putK f o.dst (.wh b) v fun f' => K f' H) ∨
            Cnd b (vcMem cx H f o.dst o.op fun v H' => putK f o.dst .yes v fun f' => K f' H') (putK f o.dst .yes (.v undef) fun f' => K f' H))
      else vcOp cx H f c o.op fun v => putK f o.dst c v fun f' => K f' H) else False
/-- one operation that yields its value wherever the entries G are held -/
def vcTake (cx : Cx) (ops : List Oper) (o : Oper) (f : Env) (G : Heap) (K : Env → Prop) : Prop :=
  gdv ops f o.guard fun c => bif dstOk cx.N o.dst then (bif isMem o.op then False else vcOp cx G f c o.op fun v => putK f o.dst c v K) else False
def vcPlan (cx : Cx) (ops : List Oper) (G : Heap) : Plan → Env → Heap → (Env → Heap → Prop) → Prop
  | .fin, f, H, K => K f H
  | .take i p, f, H, K => match oget ops i with
    | some o => vcTake cx ops o f G fun f' => vcPlan cx ops G p f' H K
    | none => False
  | .alt i p .no, f, H, K => match oget ops i with
    | some o => vcStep cx ops o f H fun f' H' => Kept H' G ∧ vcPlan cx ops G p f' H' K
    | none => False
  | .alt i p q, f, H, K => Two (match oget ops i with
    | some o => vcStep cx ops o f H fun f' H' => Kept H' G ∧ vcPlan cx ops G p f' H' K
    | none => False) (vcPlan cx ops G q f H K)
  | .no, _, _, _ => True
theorem vcStep_sound {cx : Cx} (hok : COk cx) {ops : List Oper} {o : Oper} {f : Env} {H : Heap} {K : Env → Heap → Prop} {a : Act} {w : World} (h : vcStep cx ops o f H K) (hf : Fits cx f a) (hw : Holds cx H w)
    {N : Act → World → Prop} {Q : Exit → Act → World → Prop} (hN : ∀ f' H' a' w', Fits cx f' a' → Holds cx H' w' → K f' H' → N a' w') :
    if Region.wanted o (yielded ops.toArray a.tmps) then o.wpIn (fen cx.R) 0 cx.P a w N Q else (∀ g, o.about cx.P w a.eval = some g → (fen cx.R).fn g) ∧ N (a.put o.dst undef) w := by
  unfold vcStep at h
  simp only [putK_eq] at h
  obtain ⟨c, hc, h⟩ := gdv_sound hf h
  cases hd : dstOk cx.N o.dst
  · rw [hd] at h; exact h.elim
  · rw [hd] at h
    dsimp only [cond] at h
    have skip : ¬ c.holds → Region.wanted o (yielded ops.toArray a.tmps) ≠ true := fun hn hw => hn (hc.1 hw)
    cases hm : isMem o.op
    · rw [hm] at h
      obtain ⟨v, hv, h⟩ := vcOp_sound hok.T hf h
      by_cases hch : c.holds
      · rw [if_pos (hc.2 hch)]
        refine ⟨fun _ _ => trivial, ?_⟩
        rw [semAt_of _ (hv hch o rfl w hw) (by simp)]
        exact hN _ _ _ _ (hf.put_ hd (fun _ => rfl) (fun hn => absurd hch hn)) hw h
      · rw [if_neg (skip hch)]
        exact ⟨fun _ _ => trivial, hN _ _ _ _ (hf.put_ hd (fun hy => absurd hy hch) (fun _ => rfl)) hw h⟩
    · rw [hm] at h
      dsimp only at h
      have mem : c.holds → (vcMem cx H f o.dst o.op fun v H' => K (put f o.dst .yes v) H') → o.wpIn (fen cx.R) 0 cx.P a w N Q := fun hch h =>
        vcMem_sound hok hf hw h _ _ _ fun v H' w' hw' hk => hN _ _ _ _ (hf.put_ (c := .yes) hd (fun _ => rfl) (fun hn => absurd trivial hn)) hw' hk
      cases c with
      | yes =>
        rw [if_pos (hc.2 trivial)]
        exact mem trivial h
      | wh b =>
        rcases h with h | ⟨h1, h2⟩
        · obtain ⟨v, hv, h⟩ := CalledQ.sound hok hf h
          by_cases hch : (Grd.wh b).holds
          · rw [if_pos (hc.2 hch)]
            obtain ⟨n, args, r1, r2⟩ := hv hch o rfl w hw
            refine ⟨fun _ _ => trivial, ?_⟩
            rw [semAt_of _ r1 (by simp)]
            refine ⟨fen_depth _ _, callsIn_fen (r2.mono ?_)⟩
            rintro e w' ⟨rfl, hw'⟩
            exact hN _ _ _ _ (hf.put_ hd (fun _ => rfl) (fun hn => absurd hch hn)) hw' h
          · rw [if_neg (skip hch)]
            exact ⟨fun _ _ => trivial, hN _ _ _ _ (hf.put_ hd (fun hy => absurd hy hch) (fun _ => rfl)) hw h⟩
        · by_cases hch : (Grd.wh b).holds
          · rw [if_pos (hc.2 hch)]
            exact mem hch (h1 hch)
          · rw [if_neg (skip hch)]
            exact ⟨fun _ _ => trivial, hN _ _ _ _ (hf.put_ (c := .yes) hd (fun _ => rfl) (fun hn => absurd trivial hn)) hw (h2 (by simpa [Grd.holds] using hch))⟩
theorem vcTake_sound {cx : Cx} (hok : COk cx) {ops : List Oper} {o : Oper} {f : Env} {G : Heap} {K : Env → Prop} {a : Act} (h : vcTake cx ops o f G K) (hf : Fits cx f a) :
    ∃ v f', YieldsIf cx.P ops.toArray (Holds cx G) o v a ∧ Fits cx f' (a.put o.dst v) ∧ K f' := by
  unfold vcTake at h
  simp only [putK_eq] at h
  obtain ⟨c, hc, h⟩ := gdv_sound hf h
  cases hd : dstOk cx.N o.dst
  · rw [hd] at h; exact h.elim
  · rw [hd] at h
    dsimp only [cond] at h
    cases hm : isMem o.op
    · rw [hm] at h
      obtain ⟨v, hv, h⟩ := vcOp_sound hok.T hf h
      by_cases hch : c.holds
      · exact ⟨v.real, _, .inl ⟨hc.2 hch, fun w hw => hv hch o rfl w hw⟩, hf.put_ hd (fun _ => rfl) (fun hn => absurd hch hn), h⟩
      · refine ⟨undef, _, .inr ⟨?_, rfl⟩, hf.put_ hd (fun hy => absurd hy hch) (fun _ => rfl), h⟩
        cases hwn : Region.wanted o (yielded ops.toArray a.tmps)
        · rfl
        · exact absurd (hc.1 hwn) hch
    · rw [hm] at h; exact h.elim
/-- whatever order comes, S holds behind each operation -/
def heldIn (R : Option Nat) (P : Program) (ops : Array Oper) (X : Act → World → Prop) (S : World → Prop) : Nat → Array Bool → Act → World → Prop
  | 0, listed, a, w => Region.ready .any ops listed = [] ∧ X a w
  | m + 1, listed, a, w => (Region.ready .any ops listed = [] → X a w) ∧
    ∀ i ∈ Region.ready .any ops listed, wpOpIn (fen R) 0 P ops (fun e a w => match e with | .normal => X a w | _ => False) i (fun a' w' => S w' ∧ heldIn R P ops X S m (listed.setIfInBounds i true) a' w') a w
theorem any_of_held {R : Option Nat} {P : Program} {ops : Array Oper} {X : Act → World → Prop} {S : World → Prop} : ∀ (m : Nat) (listed : Array Bool) (a : Act) (w : World), heldIn R P ops X S m listed a w →
    wpAnyIn (fen R) 0 P .any ops (fun e a w => match e with | .normal => X a w | _ => False) m listed a w := by
  intro m
  induction m with
  | zero => intro listed a w h; exact h
  | succ m ih => intro listed a w h; exact ⟨h.1, fun i hi => wpOpIn_mono (fun a' w' h' => ih _ a' w' h'.2) (h.2 i hi)⟩
theorem yields_in {R : Option Nat} {P : Program} {ops : Array Oper} {Q : Exit → Act → World → Prop} {S : World → Prop} {i : Nat} {o : Oper} {v : Value} {a : Act} (hi : ops[i]? = some o) (hy : YieldsIf P ops S o v a)
    {K : Act → World → Prop} {w : World} (hS : S w) (h : K (a.put o.dst v) w) : wpOpIn (fen R) 0 P ops Q i K a w := by
  unfold wpOpIn
  simp only [hi]
  rcases hy with ⟨hw, hv⟩ | ⟨hw, rfl⟩
  · rw [if_pos hw]
    refine ⟨fun _ _ => trivial, ?_⟩
    rw [semAt_of _ (hv w hS) (by simp)]
    exact h
  · rw [if_neg (by rw [hw]; simp)]
    exact ⟨fun _ _ => trivial, h⟩
/-- an operation that looks at nothing of another one's does the same whether that one's value is there or not -/
theorem aside {R : Option Nat} {P : Program} {ops : Array Oper} {X : Act → World → Prop} {S : World → Prop} (hnd : noDef ops.toList = true) {j : Nat} {x y : Oper} {v : Value} (hj : ops[j]? = some y) (hap : x.apart ops y = true)
    (hsx : ∀ cs b, x.op ≠ .select cs b) (hsy : ∀ cs b, y.op ≠ .select cs b) {K : Act → World → Prop} {a : Act} {w : World} (hy : YieldsIf P ops S x v a)
    (h : wpOpIn (fen R) 0 P ops (fun e a w => match e with | .normal => X a w | _ => False) j K (a.put x.dst v) w) :
    wpOpIn (fen R) 0 P ops (fun e a w => match e with | .normal => X a w | _ => False) j (fun a' w' => YieldsIf P ops S x v a' ∧ K (a'.put x.dst v) w') a w := by
  obtain ⟨p1, p2, p3⟩ := Oper.apart_spec hap
  have on : ∀ u, YieldsIf P ops S x v (a.put y.dst u) := fun u => hy.of_same (execOp_put x hsx a y.dst u p3) (wanted_put x a y.dst u p3)
  have go : ∀ (u : Value) (w' : World), K ((a.put x.dst v).put y.dst u) w' → YieldsIf P ops S x v (a.put y.dst u) ∧ K ((a.put y.dst u).put x.dst v) w' := fun u w' hk => ⟨on u, by rw [← Act.put_comm a v u p2]; exact hk⟩
  have hdy := noDef_mem hnd y (by have := Array.mem_of_getElem? hj; simpa using this)
  unfold wpOpIn at h ⊢
  simp only [hj] at h ⊢
  rw [wanted_put y a x.dst v p1] at h
  by_cases hw : Region.wanted y (yielded ops a.tmps) = true
  · rw [if_pos hw] at h ⊢
    refine ⟨fun _ _ => trivial, ?_⟩
    have h2 := h.2
    rw [Oper.semAt_eq _ _ y hdy, execOp_put y hsy a x.dst v p1] at h2
    rw [Oper.semAt_eq _ _ y hdy]
    generalize (execOp a.eval y).run P w = r at h2
    cases r with
    | halt z w' => cases z <;> simp only [Oper.uponIn] at h2
    | ok z w' =>
      cases z <;> simp only [Oper.uponIn] at h2 ⊢
      case value u => exact go u w' h2
      case skip => exact go _ w' h2
      case defer d =>
        have hyd : YieldsIf P ops S x v { a with defers := d :: a.defers } := hy.of_same rfl rfl
        refine ⟨hyd.of_same (execOp_put x hsx _ y.dst undef p3) (wanted_put x _ y.dst undef p3), ?_⟩
        rw [← Act.put_comm _ v undef p2, ← Act.put_defers]
        exact h2
      case enter f args =>
        refine ⟨h2.1, h2.2.mono fun e w'' he => ?_⟩
        cases e with
        | returned u => exact go u w'' he
        | panicked c => exact he
        | outgrown => exact he
      case row row args => exact ⟨h2.1, h2.2.mono fun u w'' he => go u w'' he⟩
      case round l f tmps asg body =>
        refine ⟨h2.1, h2.2.mono fun e w'' he => ?_⟩
        cases e with
        | returned u => exact go u w'' he
        | panicked c => exact he
        | outgrown => exact he
  · rw [if_neg hw] at h ⊢
    exact ⟨fun _ _ => trivial, go _ w h.2⟩
/-- what yields its value whenever S holds may be taken first -/
theorem take_first {R : Option Nat} {P : Program} {ops : Array Oper} {X : Act → World → Prop} {S : World → Prop} (hnd : noDef ops.toList = true) (hs : Region.noSelect ops = true) {i : Nat} {x : Oper} {v : Value} (hi : ops[i]? = some x) :
    ∀ (m : Nat) (listed : Array Bool) (a : Act) (w : World),
      (∀ j y, ops[j]? = some y → j ≠ i → listed.getD j true = false → (∀ e ∈ y.after, Region.binds .any e = true → e.on ≠ i) → x.apart ops y = true) →
      i ∈ Region.ready .any ops listed → YieldsIf P ops S x v a → S w →
      heldIn R P ops X S m (listed.setIfInBounds i true) (a.put x.dst v) w → heldIn R P ops X S (m + 1) listed a w := by
  intro m
  induction m with
  | zero =>
    intro listed a w _ hr hy hS h
    refine ⟨fun e => (by rw [e] at hr; cases hr), fun j hj => ?_⟩
    by_cases e : j = i
    · subst e; exact yields_in hi hy hS ⟨hS, h⟩
    · have := ready_mono hj e
      rw [h.1] at this
      cases this
  | succ m ih =>
    intro listed a w hfree hr hy hS h
    refine ⟨fun e => (by rw [e] at hr; cases hr), fun j hj => ?_⟩
    by_cases e : j = i
    · subst e; exact yields_in hi hy hS ⟨hS, h⟩
    · obtain ⟨hj0, y, hjy, hall⟩ := mem_ready.1 hj
      have hno : ∀ e ∈ y.after, Region.binds .any e = true → e.on ≠ i := by
        intro e' he hb heq
        have h1 := hall e' he hb
        have h0 := (mem_ready.1 hr).1
        rw [heq] at h1
        rcases Nat.lt_or_ge i listed.size with h' | h'
        · simp [h'] at h0 h1; rw [h0] at h1; cases h1
        · simp [Array.getElem?_eq_none h'] at h1
      have h2 := aside hnd hjy (hfree j y hjy e hj0 hno) (fun cs b => Region.noSelect_spec hs i x cs b hi) (fun cs b => Region.noSelect_spec hs j y cs b hjy) hy (h.2 j (ready_mono hj e))
      refine wpOpIn_mono (fun a' w' h3 => ⟨h3.2.1, ih (listed.setIfInBounds j true) a' w' (fun k z hk hki hz hn => ?_) (ready_mono hr (Ne.symm e)) h3.1 h3.2.1 ?_⟩) h2
      · refine hfree k z hk hki ?_ hn
        by_cases hjk : j = k
        · subst hjk; exact hj0
        · rw [getD_set_ne true hjk] at hz; exact hz
      · rw [Array.setIfInBounds_comm _ _ e]
        exact h3.2.2
theorem oget_arr {ops : Array Oper} {i : Nat} {o : Oper} (h : oget ops.toList i = some o) : ops[i]? = some o := by
  rw [oget_eq] at h; simpa using h
theorem vcPlan_sound {cx : Cx} (hok : COk cx) {ops : Array Oper} (hs : Region.noSelect ops = true) (hnd : noDef ops.toList = true) {G : Heap} {X : Act → World → Prop} {K : Env → Heap → Prop}
    (hK : ∀ f' H' a' w', Fits cx f' a' → Holds cx H' w' → K f' H' → X a' w') :
    ∀ (p : Plan) (listed : Array Bool) (c : Bool) (fuel : Nat) (f : Env) (H : Heap) (a : Act) (w : World), planOk ops c p listed = true → p.depth ≤ fuel → vcPlan cx ops.toList G p f H K → Fits cx f a → Holds cx H w → Holds cx G w →
      (c = false → heldIn cx.R cx.P ops X (Holds cx G) fuel listed a w) ∧
      (c = true → ∀ i ∈ p.ids, ∀ m, fuel = m + 1 → wpOpIn (fen cx.R) 0 cx.P ops (fun e a w => match e with | .normal => X a w | _ => False) i (fun a' w' => Holds cx G w' ∧ heldIn cx.R cx.P ops X (Holds cx G) m (listed.setIfInBounds i true) a' w') a w) := by
  intro p
  induction p with
  | fin =>
    intro listed c fuel f H a w hp hd h hf hw hg
    simp only [planOk, Bool.and_eq_true, List.isEmpty_iff, Bool.not_eq_true'] at hp
    refine ⟨fun _ => (by cases fuel with | zero => exact ⟨hp.2, hK _ _ _ _ hf hw h⟩ | succ m => exact ⟨fun _ => hK _ _ _ _ hf hw h, by rw [hp.2]; simp⟩), fun hc => ?_⟩
    rw [hc] at hp; cases hp.1
  | no =>
    intro listed c fuel f H a w hp hd h hf hw hg
    simp only [planOk] at hp
    exact ⟨fun hc => (by rw [hc] at hp; cases hp), fun _ i hi => (by cases hi)⟩
  | take i p ih =>
    intro listed c fuel f H a w hp hd h hf hw hg
    simp only [planOk, Bool.and_eq_true, Bool.not_eq_true'] at hp
    obtain ⟨hc0, h1, h2, h3⟩ := hp
    refine ⟨fun _ => ?_, fun hc => by rw [hc] at hc0; cases hc0⟩
    simp only [Plan.depth] at hd
    obtain ⟨m, rfl⟩ : ∃ m, fuel = m + 1 := ⟨fuel - 1, by omega⟩
    unfold vcPlan at h
    split at h
    · rename_i o ho
      obtain ⟨v, f', hy, hf', hk⟩ := vcTake_sound hok h hf
      rw [Array.toArray_toList] at hy
      exact take_first hnd hs (oget_arr ho) m listed a w (Region.free_spec (oget_arr ho) h1) (by simpa using h2) hy hg ((ih _ false m f' H _ w h3 (by omega) hk hf' hw hg).1 rfl)
    · exact h.elim
  | alt i p q ihp ihq =>
    intro listed c fuel f H a w hp hd h hf hw hg
    simp only [planOk, Bool.and_eq_true] at hp
    obtain ⟨hcov, h1, h2⟩ := hp
    simp only [Plan.depth] at hd
    have hd1 : p.depth + 1 ≤ fuel := by omega
    have hd2 : q.depth ≤ fuel := by omega
    have hh : (match oget ops.toList i with
        | some o => vcStep cx ops.toList o f H fun f' H' => Kept H' G ∧ vcPlan cx ops.toList G p f' H' K
        | none => False) ∧ vcPlan cx ops.toList G q f H K := by
      cases q with
      | no => exact ⟨h, trivial⟩
      | fin => exact Two.out h
      | take _ _ => exact Two.out h
      | alt _ _ _ => exact Two.out h
    obtain ⟨hi, hq⟩ := hh
    have step : ∀ m, fuel = m + 1 → wpOpIn (fen cx.R) 0 cx.P ops (fun e a w => match e with | .normal => X a w | _ => False) i (fun a' w' => Holds cx G w' ∧ heldIn cx.R cx.P ops X (Holds cx G) m (listed.setIfInBounds i true) a' w') a w := by
      intro m hm
      split at hi
      · rename_i o ho
        have := vcStep_sound hok (Q := fun e a w => match e with | .normal => X a w | _ => False) hi hf hw (N := fun a' w' => Holds cx G w' ∧ heldIn cx.R cx.P ops X (Holds cx G) m (listed.setIfInBounds i true) a' w') (fun f' H' a' w' hf' hw' hk => by
          have hg' := hw'.sub hk.1.out
          exact ⟨hg', (ihp _ false m f' H' a' w' h1 (by omega) hk.2 hf' hw' hg').1 rfl⟩)
        unfold wpOpIn
        rw [oget_arr ho]
        rw [Array.toArray_toList] at this
        exact this
      · exact hi.elim
    have tail : ∀ j ∈ q.ids, ∀ m, fuel = m + 1 → wpOpIn (fen cx.R) 0 cx.P ops (fun e a w => match e with | .normal => X a w | _ => False) j (fun a' w' => Holds cx G w' ∧ heldIn cx.R cx.P ops X (Holds cx G) m (listed.setIfInBounds j true) a' w') a w :=
      (ihq listed true fuel f H a w h2 hd2 hq hf hw hg).2 rfl
    have all : ∀ j ∈ i :: q.ids, ∀ m, fuel = m + 1 → wpOpIn (fen cx.R) 0 cx.P ops (fun e a w => match e with | .normal => X a w | _ => False) j (fun a' w' => Holds cx G w' ∧ heldIn cx.R cx.P ops X (Holds cx G) m (listed.setIfInBounds j true) a' w') a w := by
      intro j hj m hm
      rcases List.mem_cons.1 hj with rfl | hj
      · exact step m hm
      · exact tail j hj m hm
    refine ⟨fun hc => ?_, fun _ => all⟩
    obtain ⟨m, rfl⟩ : ∃ m, fuel = m + 1 := ⟨fuel - 1, by omega⟩
    rw [hc, Bool.false_or, Bool.and_eq_true, List.all_eq_true] at hcov
    refine ⟨fun h0 => ?_, fun j hj => all j (by have := hcov.2 j hj; simpa using this) m rfl⟩
    rw [h0] at hcov
    exact absurd hcov.1 (by simp)
theorem sat_draw {cx : Cx} (hok : COk cx) {id : Nat} {ops : Array Oper} {K : Exit → Env → Heap → Prop} {f : Env} {H : Heap} (imp : List Nat) (G : Heap)
    (hc : (Region.noSelect ops && (noDef ops.toList && (planOk ops false (planOf imp ops) (Array.replicate ops.size false) && Nat.ble (planOf imp ops).depth ops.size))) = true) (hg : ∀ w, Holds cx H w → Holds cx G w)
    (h : vcPlan cx ops.toList G (planOf imp ops) f H (K .normal)) : Sat cx (.region id ops true) K f H :=
  ⟨fun a w hf hw => by
    simp only [Bool.and_eq_true, Nat.ble_eq] at hc
    have h1 := (vcPlan_sound hok hc.1 hc.2.1 (X := fun a' w' => ∃ f' H', Fits cx f' a' ∧ Holds cx H' w' ∧ K .normal f' H') (fun f' H' a' w' h1 h2 h3 => ⟨f', H', h1, h2, h3⟩) _ _ false ops.size f H a _ hc.2.2.1 hc.2.2.2 h hf (hw.drawn _) (hg _ (hw.drawn (w.drawn + 1)))).1 rfl
    refine wpIn_mono (wpIn_region_any hok.order (any_of_held _ _ _ _ h1)) ?_
    intro e a w he
    cases e with
    | normal => exact he
    | _ => exact he.elim⟩
theorem strOf_len (l : List Int) : (strOf l).size = l.length := by
  have : ∀ (l : List Int) (r : ByteArray), (l.foldl (fun r n => r.push (UInt8.ofNat n.toNat)) r).size = r.size + l.length := by
    intro l
    induction l with
    | nil => intro r; rfl
    | cons x l ih => intro r; rw [List.foldl_cons, ih, ByteArray.size_push, List.length_cons]; omega
  unfold strOf
  rw [this]
  simp
theorem one_byte {cs : List SV} {off : Nat} {x : Int} (h : cs[off]? = some (.v (.int .u8 x))) : 1 = [x].length ∧ ∀ (j : Nat) (u : Value), ([x].map (Value.int .u8))[j]? = some u → cs[off + j]? = some (.v u) :=
  ⟨rfl, fun j u hu => by
    cases j with
    | zero => simp at hu; subst hu; exact h
    | succ j => simp at hu⟩
theorem sat_drawH {cx : Cx} (hok : COk cx) {id : Nat} {ops : Array Oper} {K : Exit → Env → Heap → Prop} {f : Env} {H : Heap}
    (hc : (Region.noSelect ops && (noDef ops.toList && (planOk ops false (planOf [] ops) (Array.replicate ops.size false) && Nat.ble (planOf [] ops).depth ops.size))) = true)
    (h : vcPlan cx ops.toList H (planOf [] ops) f H (K .normal)) : Sat cx (.region id ops true) K f H :=
  sat_draw hok [] H hc (fun _ h => h) h
end Go.Proofs.YtdohcglpcgahaaaGreatDoor.Sat
namespace Go.Proofs.YtdohcglpcgahaaaGreatDoor.Sat
open Go Go.RowKit Go.PlainAid
theorem ownsRow_base {w : World} {B B' : Nat} {e : TypeId} {size : Nat} {v : Value} {n : Nat} {xs : List Value} (h : w.ownsRow B e size v n xs) (hb : B' ≤ B) : w.ownsRow B' e size v n xs := by
  refine ⟨h.1, ?_⟩
  rcases h.2 with h2 | ⟨g, cap, cur, h1, h2, h3⟩
  · exact .inl h2
  · exact .inr ⟨g, cap, cur, h1, Nat.le_trans hb h2, h3⟩
theorem Holds.fresh {cx : Cx} {H : Heap} {w w' : World} (h : Holds cx H w) (hb : Below w.heap.size w w') (d : Nat) {A : Option (Nat × Nat)} {e size n cap : Nat} {xs : List Value} (hr : w'.ownsRow w.heap.size e size (.slice (adr A) n cap) n xs) :
    Holds cx ((d, .row A e size n cap xs) :: hdel H d) w' := by
  have hn : cx.n0 ≤ w.heap.size := Nat.le_trans h.n0 h.keep.size
  refine h.turn d _ ⟨hb.os, hb.tape, hb.output, hb.size, fun k hk _ => hb.block k (by omega)⟩ (ownsRow_base hr hn) fun x hx g hg => ?_
  have hlt := HB.lt (h.ent x (hdel_mem hx).1) hg
  refine ⟨hb.block g hlt, fun hm => ?_⟩
  simp only [HB.gs, Option.mem_toList] at hm
  have := (hr.lt g (by cases A with | none => cases hm | some p => exact hm)).1
  omega
/-- a callee that adds memory alone and returns a value that is known; asked where the entries are held -/
theorem called_at {cx : Cx} {n : Nat} {args : List SV} {H : Heap} {K : SV → Heap → Prop} {v : Value} (r : SV) (hr : r.real = v)
    (h : ∀ w, Holds cx H w → Calls cx.P n (args.map SV.real).toArray w fun e w' => e = .returned v ∧ Below w.heap.size w w') (hk : K r H) : Called cx n args H K :=
  ⟨fun w hw => (h w hw).mono fun _ w' ⟨he, hb⟩ => ⟨r, H, by rw [he, hr], hw.below hb, hk⟩⟩
theorem calledQ_at {cx : Cx} {c : Grd} {n : Nat} {args : List SV} {H : Heap} {K : SV → Prop} {v : Value} (r : SV) (hr : r.real = v)
    (h : c.holds → ∀ w, Holds cx H w → Calls cx.P n (args.map SV.real).toArray w fun e w' => e = .returned v ∧ Below w.heap.size w w') (hk : K r) : CalledQ cx c n args H K :=
  ⟨r, fun hc w hw => (h hc w hw).mono fun _ w' ⟨he, hb⟩ => ⟨by rw [he, hr], hw.below hb⟩, hk⟩
/-- a callee that returns a slice of its own, among other values -/
theorem called_row {cx : Cx} {n : Nat} {args : List SV} {H : Heap} {K : SV → Heap → Prop} (d : Nat) {e size m : Nat} {xs : List Value} (mk : Value → Value) (r : Option (Nat × Nat) → Nat → SV) (hr : ∀ A cap, (r A cap).real = mk (.slice (adr A) m cap))
    (h : ∀ w, Holds cx H w → Calls cx.P n (args.map SV.real).toArray w fun e' w' => ∃ v, e' = .returned (mk v) ∧ w'.ownsRow w.heap.size e size v m xs ∧ Below w.heap.size w w')
    (hk : ∀ A cap, K (r A cap) ((d, .row A e size m cap xs) :: hdel H d)) : Called cx n args H K :=
  ⟨fun w hw => (h w hw).mono fun _ w' ⟨v, he, hv, hb⟩ => by
    obtain ⟨A, cap, rfl, _⟩ := own_val hv
    exact ⟨r A cap, _, by rw [he, hr], hw.fresh hb d hv, hk A cap⟩⟩
theorem below_of {cx : Cx} {H : Heap} {w : World} (hn : cx.n0 = cx.W.heap.size) (hM : cx.M = []) (hw : Holds cx H w) : Below cx.W.heap.size cx.W w := by
  have := hw.keep
  rw [hM] at this
  rw [← hn]
  exact this.below
/-- the function returns a slice of its own, among other values -/
theorem done_row {cx : Cx} {v : SV} {H : Heap} {e size m : Nat} {xs : List Value} {mk : Value → Value} (hn : cx.n0 = cx.W.heap.size) (hM : cx.M = []) (d : Nat) (A : Option (Nat × Nat)) (cap : Nat) (hf : hfind H d = some (.row A e size m cap xs)) (h : v.real = mk (.slice (adr A) m cap)) :
    Done cx (fun e' w' => ∃ v, e' = .returned (mk v) ∧ w'.ownsRow cx.W.heap.size e size v m xs ∧ Below cx.W.heap.size cx.W w') v H :=
  ⟨fun w hw => ⟨_, by rw [h], (by have h1 : (HB.row A e size m cap xs).holds cx w := hw.at_ hf
                                  rw [← hn]; exact h1), below_of hn hM hw⟩⟩
end Go.Proofs.YtdohcglpcgahaaaGreatDoor.Sat
namespace Go.Proofs.YtdohcglpcgahaaaGreatDoor.Sat
open Go Go.RowKit Go.PlainAid
end Go.Proofs.YtdohcglpcgahaaaGreatDoor.Sat
namespace Go.Proofs.YtdohcglpcgahaaaGreatDoor.Sat
open Go Go.RowKit Go.PlainAid
instance lawfulBytes : LawfulBEq ByteArray where
  eq_of_beq {a b} h := by
    cases a; cases b
    have : (_ == _) = true := h
    exact congrArg ByteArray.mk (eq_of_beq (α := Array UInt8) this)
  rfl {a} := by
    cases a
    exact (beq_self_eq_true (α := Array UInt8) _)
/-- cells that can be read: a slice that a callee is lent -/
def Ro (w : World) (A : Option (Nat × Nat)) (n size : Nat) (xs : List Value) : Prop :=
  xs.length = n * size ∧ (0 < n → ∃ p, A = some p ∧ p.1 < w.heap.size ∧ ∀ (j : Nat) (u : Value), xs[j]? = some u → w.cell? ⟨p.1, p.2 + j, none⟩ = some u)
theorem Ro.nil_ (w : World) (A : Option (Nat × Nat)) (size : Nat) : Ro w A 0 size [] := ⟨by simp, fun h => absurd h (by omega)⟩
theorem Ro.below {w w' : World} {A : Option (Nat × Nat)} {n size : Nat} {xs : List Value} (h : Ro w A n size xs) (hb : Below w.heap.size w w') : Ro w' A n size xs := by
  refine ⟨h.1, fun hn => ?_⟩
  obtain ⟨p, hp, hl, hc⟩ := h.2 hn
  refine ⟨p, hp, Nat.lt_of_lt_of_le hl hb.size, fun j u hu => ?_⟩
  rw [← hc j u hu]
  exact World.cell?_of_block (hb.block p.1 hl)
theorem Ro.mono {w w' : World} {A : Option (Nat × Nat)} {n size B : Nat} {xs : List Value} (h : Ro w A n size xs) (hb : Below B w w') (hB : w.heap.size ≤ B) : Ro w' A n size xs := by
  refine ⟨h.1, fun hn => ?_⟩
  obtain ⟨p, hp, hl, hc⟩ := h.2 hn
  refine ⟨p, hp, Nat.lt_of_lt_of_le hl hb.size, fun j u hu => ?_⟩
  rw [← hc j u hu]
  exact World.cell?_of_block (hb.block p.1 (Nat.lt_of_lt_of_le hl hB))
theorem Ro.drop_ {w : World} {A : Option (Nat × Nat)} {n size : Nat} {xs : List Value} (h : Ro w A n size xs) {i m : Nat} (hm : i + m ≤ n) : Ro w (some ((A.getD (0, 0)).1, (A.getD (0, 0)).2 + i * size)) m size ((xs.drop (i * size)).take (m * size)) := by
  have hle : i * size + m * size ≤ n * size := by rw [← Nat.add_mul]; exact Nat.mul_le_mul_right _ hm
  refine ⟨by rw [List.length_take, List.length_drop, h.1]; omega, fun h0 => ?_⟩
  obtain ⟨p, rfl, hl, hc⟩ := h.2 (by omega)
  refine ⟨_, rfl, hl, fun j u hu => ?_⟩
  rw [List.getElem?_take] at hu
  split at hu
  · rw [List.getElem?_drop] at hu
    have := hc _ u hu
    rw [← this]
    simp only [Option.getD_some]
    rw [Nat.add_assoc]
  · cases hu
theorem ro_of_row {cx : Cx} {H : Heap} {w : World} (hw : Holds cx H w) {id : Nat} {A : Option (Nat × Nat)} {e size n cap : Nat} {xs : List Value} (h : hfind H id = some (.row A e size n cap xs)) : Ro w A n size xs := by
  have hr : w.ownsRow cx.n0 e size (.slice (adr A) n cap) n xs := hw.at_ h
  refine ⟨hr.1, fun hn => ?_⟩
  cases A with
  | none =>
    rcases hr.2 with ⟨hv, h0⟩ | ⟨g, cap', cur, hv, _⟩
    · omega
    · cases hv
  | some p =>
    refine ⟨p, rfl, (hr.lt p.1 rfl).2, fun j u hu => ?_⟩
    have := row_cell hr hu
    rw [Option.getD_some, Nat.add_comm] at this
    exact this
def IsRo (W : World) : HB → Prop
  | .ro A n size xs => Ro W A n size xs
  | _ => False
def AllRo (W : World) : Heap → Prop
  | [] => True
  | (_, b) :: H => IsRo W b ∧ AllRo W H
theorem AllRo.mem {W : World} {H : Heap} (h : AllRo W H) : ∀ e ∈ H, IsRo W e.2 := by
  induction H with
  | nil => intro e he; cases he
  | cons x H ih =>
    intro e he
    rcases List.mem_cons.1 he with rfl | he
    · exact h.1
    · exact ih h.2 e he
end Go.Proofs.YtdohcglpcgahaaaGreatDoor.Sat
namespace Go.Proofs.YtdohcglpcgahaaaGreatDoor.Sat
open Go Go.RowKit Go.PlainAid
/-- the same context for another frame -/
def Cx.with_ (cx : Cx) (N : Nat) (R : Option Nat) : Cx := ⟨cx.P, cx.T, cx.F, N, cx.SR, cx.SB, cx.SC, cx.n0, cx.M, cx.W, R⟩
theorem COk.with_ {cx : Cx} (h : COk cx) (N : Nat) (R : Option Nat) : COk (cx.with_ N R) := ⟨h.T, h.F, h.order⟩
theorem Holds.with_ {cx : Cx} {H : Heap} {w : World} (h : Holds cx H w) (N : Nat) (R : Option Nat) : Holds (cx.with_ N R) H w :=
  ⟨⟨h.keep.os, h.keep.tape, h.keep.output, h.keep.size, h.keep.block⟩, h.n0, fun e he => by
    have := h.ent e he
    obtain ⟨i, b⟩ := e
    cases b <;> exact this, h.sep⟩
theorem Holds.back_ {cx : Cx} {H : Heap} {w : World} {N : Nat} {R : Option Nat} (h : Holds (cx.with_ N R) H w) : Holds cx H w :=
  ⟨⟨h.keep.os, h.keep.tape, h.keep.output, h.keep.size, h.keep.block⟩, h.n0, fun e he => by
    have := h.ent e he
    obtain ⟨i, b⟩ := e
    cases b <;> exact this, h.sep⟩
/-- what a function that is entered hands back to its caller -/
def InK (cx : Cx) (K : SV → Heap → Prop) : Ending → World → Prop := fun e w' => ∃ v H', e = .returned v.real ∧ Holds cx H' w' ∧ K v H'
theorem done_in {cx : Cx} {N : Nat} {K : SV → Heap → Prop} {v : SV} {H : Heap} (h : K v H) : Done (cx.with_ N none) (InK cx K) v H := ⟨fun _ hw => ⟨v, H, rfl, hw.back_, h⟩⟩
/-- a callee that is walked in its place -/
theorem called_in {cx : Cx} (hok : COk cx) {n : Nat} {fn : Func} {c : Code} (hfn : cx.P.funcs[n]? = some fn) (hb : fn.body = some c) {args : List SV} (hle : args.length ≤ fn.ntmps) {H : Heap} {K : SV → Heap → Prop}
    (h : Walk (cx.with_ fn.ntmps none) c (retK (cx.with_ fn.ntmps none) fn (InK cx K)) (argEnv 0 args) H) : Called cx n args H K :=
  ⟨fun w hw => calls_sat (cx := cx.with_ fn.ntmps none) (hok.with_ _ _) hfn hb args rfl hle H (hw.with_ _ _) h rfl⟩
def pairEnv : List Tmp → List SV → Env → Env
  | p :: ps, v :: vs, f => pairEnv ps vs ((p, .yes, v) :: f)
  | _, _, f => f
theorem FitsT.set_ {N : Nat} {f : Env} {tmps : Array Value} (h : FitsT N f tmps) {p : Nat} (hp : p < N) (v : SV) : FitsT N ((p, .yes, v) :: f) (tmps.setIfInBounds p v.real) := by
  refine ⟨by simp [h.size], fun t c x e hc => ?_, fun t c x e hc => ?_⟩
  · simp only [find] at e
    cases hq : Nat.beq p t
    · rw [hq] at e
      have hne : p ≠ t := fun e' => by rw [e', show Nat.beq t t = true from by simp] at hq; cases hq
      rw [Array.getD_eq_getD_getElem?, Array.getElem?_setIfInBounds_ne hne, ← Array.getD_eq_getD_getElem?]
      exact h.slot t c x e hc
    · rw [hq] at e
      obtain rfl := Nat.eq_of_beq_eq_true hq
      injection e with e
      injection e with e1 e2
      subst e2
      rw [Array.getD_eq_getD_getElem?, Array.getElem?_setIfInBounds_self_of_lt (by rw [h.size]; exact hp)]
      rfl
  · simp only [find] at e
    cases hq : Nat.beq p t
    · rw [hq] at e
      have hne : p ≠ t := fun e' => by rw [e', show Nat.beq t t = true from by simp] at hq; cases hq
      rw [Array.getD_eq_getD_getElem?, Array.getElem?_setIfInBounds_ne hne, ← Array.getD_eq_getD_getElem?]
      exact h.none_ t c x e hc
    · rw [hq] at e
      injection e with e
      injection e with e1 e2
      subst e1
      exact absurd trivial hc
theorem FitsT.pairs {N : Nat} : ∀ (ps : List Tmp) (vs : List SV) (f : Env) (tmps : Array Value), ps.all (fun p => Nat.blt p N) = true → FitsT N f tmps →
    FitsT N (pairEnv ps vs f) ((ps.zip (vs.map SV.real)).foldl (fun tmps p => tmps.setIfInBounds p.1 p.2) tmps) := by
  intro ps
  induction ps with
  | nil => intro vs f tmps _ h; exact h
  | cons p ps ih =>
    intro vs f tmps hp h
    cases vs with
    | nil => exact h
    | cons v vs =>
      rw [List.all_cons, Bool.and_eq_true] at hp
      simp only [List.map_cons, List.zip_cons_cons, List.foldl_cons, pairEnv]
      exact ih vs _ _ hp.2 (h.set_ (by have := hp.1; rw [Nat.blt_eq] at this; exact this) v)
/-- a round's end -/
def roundEnd (id : Nat) (K : SV → Heap → Prop) (e : Exit) (H : Heap) : Prop :=
  match hfind H id with
  | some (.lp l N f ps asg body D _ _) => (match e with
    | .normal => K (.v (.bool true)) ((id, .lp l N f ps asg body D .ready none) :: hdel H id)
    | .ret => K (.v (.bool false)) ((id, .lp l N f ps asg body D .done (some .ret)) :: hdel H id)
    | .exit i => K (.v (.bool false)) ((id, .lp l N f ps asg body D .done (some (.exit i))) :: hdel H id)
    | _ => False)
  | _ => False
/-- one round, behind the assignments -/
def roundBody (cx : Cx) (l id : Nat) (body : Code) (K : SV → Heap → Prop) (e : Exit) (f : Env) (H : Heap) : Prop :=
  match e with
  | .normal => (match hfind H id with
    | some (.lp l' N f' ps asg body' D st pend) => (l' = l ∧ st = .ready) ∧ Walk cx body (fun e _ H => (match hfind H id with
        | some (.lp l' _ _ _ _ _ _ _ _) => l' = l
        | _ => False) ∧ roundEnd id K e H) f ((id, .lp l' N f' ps asg body' D .busy pend) :: hdel H id)
    | _ => False)
  | _ => False
theorem yielded {cx : Cx} (hok : COk cx) {l id N D : Nat} {f : Env} {ps : Array Tmp} {asg body : Code} {pend : Option Code} {args : List SV} {H : Heap} {K : SV → Heap → Prop} (hH : hfind H id = some (.lp l N f ps asg body D .ready pend))
    (hsz : args.length = ps.size) (hm : marksOf N (pairEnv ps.toList args f) = []) (hp : ps.toList.all (fun p => Nat.blt p N) = true)
    (h : Walk (cx.with_ N (some l)) asg (roundBody (cx.with_ N (some l)) l id body K) (pairEnv ps.toList args f) H) : Yielded cx l args H K := by
  refine ⟨fun w hw => ?_⟩
  obtain ⟨hg, fn, tmps, hobj, hft⟩ : (HB.lp l N f ps asg body D .ready pend).holds cx w := hw.at_ hH
  refine ⟨_, _, _, _, run_yield hobj (by simpa using hsz), roundIn_of_wpIn trivial ?_⟩
  have ht := FitsT.pairs ps.toList args f tmps hp hft
  have hfold : ((ps.zip (args.map SV.real).toArray).foldl (fun tmps (x : Tmp × Value) => match x with | (t, a) => tmps.setIfInBounds t a) tmps) = ((ps.toList.zip (args.map SV.real)).foldl (fun tmps p => tmps.setIfInBounds p.1 p.2) tmps) := by
    rw [← Array.foldl_toList, Array.toList_zip]
  have hfit : Fits (cx.with_ N (some l)) (pairEnv ps.toList args f) { tmps := (ps.zip (args.map SV.real).toArray).foldl (fun tmps (x : Tmp × Value) => match x with | (t, a) => tmps.setIfInBounds t a) tmps, defers := [] } := by
    rw [hfold]
    exact ⟨by rw [show (cx.with_ N (some l)).N = N from rfl, hm]; rfl, ht.size, ht.slot, ht.none_⟩
  have h0 := h.out.out _ w hfit (hw.with_ _ _)
  refine wpIn_mono h0 ?_
  rintro e a1 w1 ⟨f1, H1, hf1, hw1, hk⟩
  unfold roundBody at hk
  split at hk
  · split at hk
    · rename_i l' N' f' ps' asg' body' D' st pend' hl
      obtain ⟨⟨rfl, rfl⟩, hk⟩ := hk
      obtain ⟨hg1, fn1, tmps1, hobj1, hft1⟩ : (HB.lp l' N' f' ps' asg' body' D' .ready pend').holds (cx.with_ N (some l')) w1 := hw1.at_ hl
      refine ⟨_, run_beginRound hobj1 rfl, ?_⟩
      have hw2 := hw1.put_ (b' := .lp l' N' f' ps' asg' body' D' .busy pend') hl rfl rfl hg1 (.loop { state := .busy, pending := pend', fn := fn1, tmps := tmps1, params := ps', assign := asg', body := body', defers := D' })
        ⟨hg1, fn1, tmps1, World.putObj_heap_same (heap_lt hobj1), hft1⟩
      refine wpIn_mono (hk.out.out a1 _ hf1 hw2) ?_
      rintro e2 a2 w3 ⟨f2, H3, hf2, hw3, hl3, hk3⟩
      unfold roundEnd at hk3
      split at hk3
      · rename_i l3 N3 f3 ps3 asg3 body3 D3 st3 pend3 e3
        rw [e3] at hl3
        dsimp only at hl3
        subst hl3
        obtain ⟨hg3, fn3, tmps3, hobj3, hft3⟩ : (HB.lp l3 N3 f3 ps3 asg3 body3 D3 st3 pend3).holds (cx.with_ N (some l3)) w3 := hw3.at_ e3
        have turn : ∀ (st : LoopState) (jump : Option Code), Holds cx ((id, .lp l3 N3 f3 ps3 asg3 body3 D3 st jump) :: hdel H3 id) (w3.putObj l3 (.loop { state := st, pending := jump, fn := fn3, tmps := tmps3, params := ps3, assign := asg3, body := body3, defers := D3 })) := fun st jump =>
          (hw3.put_ (b' := .lp l3 N3 f3 ps3 asg3 body3 D3 st jump) e3 rfl rfl hg3 _ ⟨hg3, fn3, tmps3, World.putObj_heap_same (heap_lt hobj3), hft3⟩).back_
        split at hk3
        · exact ⟨_, _, run_endRound none hobj3, _, _, rfl, turn .ready none, hk3⟩
        · exact ⟨_, _, run_endRound (some .ret) hobj3, _, _, rfl, turn .done (some .ret), hk3⟩
        · exact ⟨_, _, run_endRound (some (.exit _)) hobj3, _, _, rfl, turn .done (some (.exit _)), hk3⟩
        · exact hk3.elim
      · exact hk3.elim
    · exact hk.elim
  · exact hk.elim
end Go.Proofs.YtdohcglpcgahaaaGreatDoor.Sat
namespace Go.Proofs.YtdohcglpcgahaaaGreatDoor.Sat
open Go Go.RowKit Go.PlainAid
/-- the world has turned at block g alone, and above -/
structure Mod (g : Nat) (w w' : World) : Prop where
  os : w'.os = w.os
  tape : w'.tape = w.tape
  output : w'.output = w.output
  size : w.heap.size ≤ w'.heap.size
  block : ∀ k, k < w.heap.size → k ≠ g → w'.heap[k]? = w.heap[k]?
theorem mod_of {cx : Cx} {H : Heap} {w : World} {g : Nat} (hn : cx.n0 = cx.W.heap.size) (hM : cx.M = [g]) (hw : Holds cx H w) : Mod g cx.W w := by
  have := hw.keep
  rw [hM, hn] at this
  exact ⟨this.os, this.tape, this.output, this.size, fun k hk hne => this.block k hk (by simpa using hne)⟩
end Go.Proofs.YtdohcglpcgahaaaGreatDoor.Sat
namespace Go.Proofs.YtdohcglpcgahaaaGreatDoor.Sat
open Go Go.RowKit Go.PlainAid
/-- what an owned slice's capacity and place are known to be -/
theorem sat_row {cx : Cx} {c : Code} {K : Exit → Env → Heap → Prop} {f : Env} {H : Heap} (id : Nat) {A : Option (Nat × Nat)} {e sz n cap : Nat} {xs : List Value} (hf : hfind H id = some (.row A e sz n cap xs))
    (h : n ≤ cap → (0 < n → ∃ p, A = some p) → Sat cx c K f H) : Sat cx c K f H := by
  refine ⟨fun a w hfit hw => ?_⟩
  have hr : w.ownsRow cx.n0 e sz (.slice (adr A) n cap) n xs := hw.at_ hf
  refine (h ?_ ?_).out a w hfit hw
  · rcases hr.2 with ⟨hv, hn⟩ | ⟨g, cap', cur, hv, _, _, hc, _⟩
    · omega
    · injection hv with _ _ hc'
      omega
  · intro h0
    rcases hr.2 with ⟨hv, hn⟩ | ⟨g, cap', cur, hv, _⟩
    · omega
    · cases A with
      | none => cases hv
      | some p => exact ⟨p, rfl⟩
end Go.Proofs.YtdohcglpcgahaaaGreatDoor.Sat
namespace Go.Proofs.YtdohcglpcgahaaaGreatDoor.Sat
open Go Go.RowKit Go.PlainAid
end Go.Proofs.YtdohcglpcgahaaaGreatDoor.Sat
namespace Go.Proofs.YtdohcglpcgahaaaGreatDoor.Sat
open Go Go.RowKit Go.PlainAid
/-- what is held asks of the context for the bound, for the blocks that may turn, and for the world alone -/
theorem Holds.cx_ {cx cx' : Cx} (h0 : cx.n0 = cx'.n0) (hM : cx.M = cx'.M) (hW : cx.W = cx'.W) {H : Heap} {w : World} (h : Holds cx H w) : Holds cx' H w := by
  obtain ⟨P, T, F, N, SR, SB, SC, n0, M, W, R⟩ := cx
  obtain ⟨P', T', F', N', SR', SB', SC', n0', M', W', R'⟩ := cx'
  dsimp only at h0 hM hW
  subst h0 hM hW
  exact ⟨⟨h.keep.os, h.keep.tape, h.keep.output, h.keep.size, h.keep.block⟩, h.n0, fun e he => by
    have := h.ent e he
    obtain ⟨i, b⟩ := e
    cases b <;> exact this, h.sep⟩
theorem Called.cx_ {cx cx' : Cx} (hP : cx.P = cx'.P) (h0 : cx.n0 = cx'.n0) (hM : cx.M = cx'.M) (hW : cx.W = cx'.W) {n : Nat} {args : List SV} {H : Heap} {K : SV → Heap → Prop} (h : Called cx n args H K) : Called cx' n args H K :=
  ⟨fun w hw => by
    rw [← hP]
    exact (h.out w (hw.cx_ h0.symm hM.symm hW.symm)).mono fun e w' ⟨v, H', he, hw', hk⟩ => ⟨v, H', he, hw'.cx_ h0 hM hW, hk⟩⟩
theorem memN_iff {l : List Nat} {i : Nat} : memN l i = true ↔ i ∈ l := by
  induction l with
  | nil => simp [memN]
  | cons x l ih =>
    unfold memN
    cases hb : Nat.beq x i
    · have hne : x ≠ i := fun e => by rw [e, show Nat.beq i i = true from by simp] at hb; cases hb
      simp only [cond, ih, List.mem_cons]
      constructor
      · exact .inr
      · rintro (h | h)
        · exact absurd h.symm hne
        · exact h
    · have he := Nat.eq_of_beq_eq_true hb
      simp [he]
end Go.Proofs.YtdohcglpcgahaaaGreatDoor.Sat
namespace Go.Proofs.YtdohcglpcgahaaaGreatDoor.Sat
open Go Go.RowKit Go.PlainAid
theorem done_row2 {cx : Cx} {v : SV} {H : Heap} {e size m m' : Nat} {xs xs' : List Value} {mk : Value → Value} (hn : cx.n0 = cx.W.heap.size) (hM : cx.M = []) (d : Nat) (A : Option (Nat × Nat)) (cap : Nat) (hf : hfind H d = some (.row A e size m' cap xs')) (hm : m' = m) (hx : xs' = xs) (h : v.real = mk (.slice (adr A) m' cap)) :
    Done cx (fun e' w' => ∃ v, e' = .returned (mk v) ∧ w'.ownsRow cx.W.heap.size e size v m xs ∧ Below cx.W.heap.size cx.W w') v H := by
  subst hm; subst hx
  exact done_row hn hM d A cap hf h
theorem sat_own {cx : Cx} {c : Code} {K : Exit → Env → Heap → Prop} {f : Env} {H : Heap} (id : Nat) {g e size n : Nat} {cs : List SV} (hf : hfind H id = some (.blk g e cs)) (hM : cx.M = []) (hc : cs.length = n * size) (hm : n ≤ maxLen)
    (h : Sat cx c K f ((id, .row (some (g, 0)) e size n n (cs.map SV.r1)) :: hdel H id)) : Sat cx c K f H := by
  refine ⟨fun a w hfit hw => h.out a w hfit ?_⟩
  have hb : (HB.blk g e cs).holds cx w := hw.at_ hf
  have hg : cx.n0 ≤ g := by
    rcases hb.1 with h1 | h1
    · exact h1
    · rw [hM] at h1; cases h1
  refine hw.turn id _ (Keep.refl _ _ _) ⟨by rw [List.length_map]; exact hc, .inr ⟨g, n, _, rfl, hg, hb.2, Nat.le_refl _, hm, by simp [hc], by rw [← hc]; simp [List.take_of_length_le]⟩⟩ fun x hx g' hg' => ⟨rfl, ?_⟩
  simp only [HB.gs, Option.map_some, Option.toList_some, List.mem_singleton]
  rintro rfl
  exact hw.sep _ _ _ _ (hdel_mem hx).1 (hfind_mem hf) (hdel_mem hx).2 _ hg' (List.mem_singleton_self _)
theorem sat_to {cx : Cx} {c : Code} {K : Exit → Env → Heap → Prop} {f : Env} {H : Heap} (S : Env × Heap) (hy : allYes cx.N S.1 = true) (h1 : fsub f S.1) (h2 : hsub H S.2) (h3 : marksOf cx.N f = marksOf cx.N S.1) (h : Sat cx c K S.1 S.2) : Sat cx c K f H :=
  ⟨fun a w hf hw => h.out a w (hf.sub h1 hy h3) (hw.sub h2)⟩
def up (L : Heap) : Heap := L.map fun e => (e.1 + 1000, e.2)
end Go.Proofs.YtdohcglpcgahaaaGreatDoor.Sat
namespace Go.Proofs.YtdohcglpcgahaaaGreatDoor.Sat
open Go Go.RowKit Go.PlainAid
end Go.Proofs.YtdohcglpcgahaaaGreatDoor.Sat
namespace Go.Proofs.YtdohcglpcgahaaaGreatDoor.Sat
open Go Go.RowKit Go.PlainAid
end Go.Proofs.YtdohcglpcgahaaaGreatDoor.Sat
namespace Go.Proofs.YtdohcglpcgahaaaGreatDoor.Sat
open Go Go.RowKit Go.PlainAid
theorem side2 {p q : Prop} (k : q) (h : p := by (first | eq_refl | with_reducible assumption | exact trivial | omega | (refine ⟨?_, ?_, rfl⟩ <;> omega) | (simp only [Grd.ob, adr, Option.map_some, Option.isSome_some, and_true] <;> (first | omega | (intro _; omega) | (intro _; refine ⟨?_, ?_⟩ <;> omega))) | (simp only [Grd.ob, Grd.and, InR, kb, Int.toNat_natCast, ByteArray.size_append, ByteArray.size_extract, Sat.strOf_len, List.length_cons, List.length_nil] <;> omega) | exact ⟨rfl, rfl⟩ | exact ⟨⟨rfl, rfl⟩, rfl⟩ | exact ⟨⟨rfl, rfl, rfl, rfl⟩, rfl, rfl⟩ | (intro h; exact h) | (intro h; exact absurd h Bool.false_ne_true) | exact h | exact congrArg Bool.not h | exact ⟨rfl, rfl, rfl, rfl⟩ | exact ⟨⟨rfl, rfl⟩, rfl, rfl⟩ | exact ⟨rfl, Nat.le_of_ble_eq_true rfl, rfl⟩ | exact Nat.le_of_ble_eq_true rfl | (intro _; exact Nat.le_of_ble_eq_true rfl) | (simp only [Grd.ob, Grd.and, InR, kb, Int.toNat_natCast, ByteArray.size_append, ByteArray.size_extract, Sat.strOf_len, List.length_cons, List.length_nil]; intro h; simp at h <;> omega) | (refine And.intro (by omega) ?_; simp only [ByteArray.size, List.size_toArray, List.length_cons, List.length_nil]; omega) | exact ⟨rfl, rfl, rfl, rfl, rfl⟩ | exact ⟨rfl, rfl, rfl, rfl, rfl, rfl⟩ | ((try dsimp only); unfold maxLen; omega) | (intro h; exact LoopState.noConfusion h) | (intro h; exact absurd (of_decide_eq_true h) (by omega)) | kernel_rfl)) : p ∧ q := ⟨h, k⟩
theorem sideL2 {p q r : Prop} (k : q) (h : p := by (first | eq_refl | with_reducible assumption | exact trivial | omega | (refine ⟨?_, ?_, rfl⟩ <;> omega) | (simp only [Grd.ob, adr, Option.map_some, Option.isSome_some, and_true] <;> (first | omega | (intro _; omega) | (intro _; refine ⟨?_, ?_⟩ <;> omega))) | (simp only [Grd.ob, Grd.and, InR, kb, Int.toNat_natCast, ByteArray.size_append, ByteArray.size_extract, Sat.strOf_len, List.length_cons, List.length_nil] <;> omega) | exact ⟨rfl, rfl⟩ | exact ⟨⟨rfl, rfl⟩, rfl⟩ | exact ⟨⟨rfl, rfl, rfl, rfl⟩, rfl, rfl⟩ | (intro h; exact h) | (intro h; exact absurd h Bool.false_ne_true) | exact h | exact congrArg Bool.not h | exact ⟨rfl, rfl, rfl, rfl⟩ | exact ⟨⟨rfl, rfl⟩, rfl, rfl⟩ | exact ⟨rfl, Nat.le_of_ble_eq_true rfl, rfl⟩ | exact Nat.le_of_ble_eq_true rfl | (intro _; exact Nat.le_of_ble_eq_true rfl) | (simp only [Grd.ob, Grd.and, InR, kb, Int.toNat_natCast, ByteArray.size_append, ByteArray.size_extract, Sat.strOf_len, List.length_cons, List.length_nil]; intro h; simp at h <;> omega) | (refine And.intro (by omega) ?_; simp only [ByteArray.size, List.size_toArray, List.length_cons, List.length_nil]; omega) | exact ⟨rfl, rfl, rfl, rfl, rfl⟩ | exact ⟨rfl, rfl, rfl, rfl, rfl, rfl⟩ | ((try dsimp only); unfold maxLen; omega) | (intro h; exact LoopState.noConfusion h) | (intro h; exact absurd (of_decide_eq_true h) (by omega)) | kernel_rfl)) : (p ∧ q) ∨ r := .inl ⟨h, k⟩
theorem cndT {p : Prop} [Decidable p] {α : Prop} (h : decide p = true) (k : ¬p) : α := absurd (of_decide_eq_true h) k
theorem cndF {p : Prop} [Decidable p] {α : Prop} (h : decide p = false) (k : p) : α := absurd k (of_decide_eq_false h)
theorem xi {α : Sort _} {p q : α → Prop} (a : α) (h : p a) (k : q a) : ∃ x, p x ∧ q x := ⟨a, h, k⟩
theorem kp {H G : Heap} {q : Prop} (h : hsub H G) (k : q) : Kept H G ∧ q := ⟨⟨h⟩, k⟩
theorem tw {p q : Prop} (h : p) (k : q) : Two p q := ⟨⟨h, k⟩⟩
/-- ways that meet again, all of them at the end of a piece of code without other exits -/
theorem sat_join0 {cx : Cx} {α : Type} (S : α → Env × Heap) (I : α → Prop) (hy : ∀ a, allYes cx.N (S a).1 = true) {c : Code} {K : Exit → Env → Heap → Prop} {f : Env} {H : Heap}
    (h : Sat cx c (fun e f H => match e with
      | .normal => Into cx S I f H
      | _ => False) f H) (hk : ∀ a, I a → K .normal (S a).1 (S a).2) : Sat cx c K f H := by
  refine ⟨fun a w hf hw => wpIn_mono (h.out a w hf hw) ?_⟩
  rintro e a2 w2 ⟨f2, H2, hf2, hw2, hq⟩
  cases e with
  | normal =>
    obtain ⟨y, hy1, h3, h4, h5⟩ := hq
    exact ⟨_, _, hf2.sub h3 (hy y) h5, hw2.sub h4, hk y hy1⟩
  | _ => exact hq.elim
end Go.Proofs.YtdohcglpcgahaaaGreatDoor.Sat
namespace Go.Proofs.YtdohcglpcgahaaaGreatDoor.Sat
open Go Go.RowKit Go.PlainAid
/-- two slices of one's own, in memory of their own -/
structure Rows2 (w' : World) (B e s : Nat) (v u : Value) (m1 : Nat) (xs1 : List Value) (m2 : Nat) (xs2 : List Value) : Prop where
  one : w'.ownsRow B e s v m1 xs1
  two : w'.ownsRow B e s u m2 xs2
  apart : ∀ g, v.ownBlock = some g → u.ownBlock ≠ some g
end Go.Proofs.YtdohcglpcgahaaaGreatDoor.Sat
namespace Go.Proofs.YtdohcglpcgahaaaGreatDoor.Sat
open Go Go.RowKit Go.PlainAid
theorem Done.mono {cx : Cx} {R R' : Ending → World → Prop} {v : SV} {H : Heap} (h : Done cx R v H) (hm : ∀ e w, R e w → R' e w) : Done cx R' v H := ⟨fun w hw => hm _ _ (h.out w hw)⟩
end Go.Proofs.YtdohcglpcgahaaaGreatDoor.Sat
namespace Go.Proofs.YtdohcglpcgahaaaGreatDoor.Sat
open Go Go.RowKit Go.PlainAid
end Go.Proofs.YtdohcglpcgahaaaGreatDoor.Sat
namespace Go.Proofs.YtdohcglpcgahaaaGreatDoor.Sat
open Go Go.RowKit Go.PlainAid
theorem heq_refl (b : HB) : heq b b := by cases b <;> simp [heq]
theorem hsub_of {H : Heap} : ∀ {G : Heap}, (G.map fun e => hfind H e.1) = (G.map fun e => some e.2) → hsub H G := by
  intro G
  induction G with
  | nil => intro _; trivial
  | cons x G ih =>
    intro h
    obtain ⟨i, b⟩ := x
    simp only [List.map_cons, List.cons.injEq] at h
    refine ⟨?_, ih h.2⟩
    unfold hent
    rw [h.1]
    exact heq_refl b
end Go.Proofs.YtdohcglpcgahaaaGreatDoor.Sat
namespace Go.Proofs.YtdohcglpcgahaaaGreatDoor.Sat
open Go Go.RowKit Go.PlainAid
def apartB : List Nat → Bool
  | [] => true
  | i :: l => !(memN l i) && apartB l
theorem find_of {H : Heap} : ∀ {L : List (Nat × Nat × HB)}, (L.map fun x => hfind H x.2.1) = (L.map fun x => some x.2.2) → ∀ x ∈ L, hfind H x.2.1 = some x.2.2 := by
  intro L
  induction L with
  | nil => intro _ x hx; cases hx
  | cons y L ih =>
    intro h x hx
    simp only [List.map_cons, List.cons.injEq] at h
    rcases List.mem_cons.1 hx with rfl | hx
    · exact h.1
    · exact ih h.2 x hx
theorem apart_of : ∀ {L : List (Nat × Nat × HB)}, apartB (L.map fun x => x.2.1) = true → ∀ x ∈ L, ∀ y ∈ L, x.1 ≠ y.1 → x.2.1 ≠ y.2.1 := by
  intro L
  induction L with
  | nil => intro _ x hx; cases hx
  | cons z L ih =>
    intro h x hx y hy hne e
    simp only [List.map_cons, apartB, Bool.and_eq_true, Bool.not_eq_true'] at h
    have key : ∀ u ∈ L, u.2.1 ≠ z.2.1 := by
      intro u hu e
      have : memN (L.map fun x => x.2.1) z.2.1 = true := memN_iff.2 (List.mem_map.2 ⟨u, hu, e⟩)
      rw [this] at h
      exact absurd h.1 (by decide)
    rcases List.mem_cons.1 hx with h5 | h5
    · rcases List.mem_cons.1 hy with h6 | h6
      · exact hne (by rw [h5, h6])
      · exact key y h6 (by rw [← h5]; exact e.symm)
    · rcases List.mem_cons.1 hy with h6 | h6
      · exact key x h5 (by rw [← h6]; exact e)
      · exact ih h.2 x h5 y h6 hne e
theorem holds_ren {cx : Cx} {H : Heap} {w : World} (h : Holds cx H w) (L : List (Nat × Nat × HB)) (h1 : (L.map fun x => hfind H x.2.1) = (L.map fun x => some x.2.2)) (h2 : apartB (L.map fun x => x.2.1) = true) : Holds cx (L.map fun x => (x.1, x.2.2)) w := by
  have hf := find_of h1
  refine ⟨h.keep, h.n0, fun e he => ?_, fun i b j b' hi hj hne g hg hg' => ?_⟩
  · obtain ⟨x, hx, rfl⟩ := List.mem_map.1 he
    exact h.ent (x.2.1, x.2.2) (hfind_mem (hf x hx))
  · obtain ⟨x, hx, e1⟩ := List.mem_map.1 hi
    obtain ⟨y, hy, e2⟩ := List.mem_map.1 hj
    cases e1
    cases e2
    exact h.sep x.2.1 x.2.2 y.2.1 y.2.2 (hfind_mem (hf x hx)) (hfind_mem (hf y hy)) (apart_of h2 x hx y hy hne) g hg hg'
/-- goes on from a state that is laid anew, entries under other names -/
theorem sat_ren {cx : Cx} {c : Code} {K : Exit → Env → Heap → Prop} {f : Env} {H : Heap} (S : Env) (L : List (Nat × Nat × HB)) (h1 : (L.map fun x => hfind H x.2.1) = (L.map fun x => some x.2.2)) (h2 : apartB (L.map fun x => x.2.1) = true) (hy : allYes cx.N S = true) (h3 : marksOf cx.N f = marksOf cx.N S) (h4 : fsub f S) (h : Sat cx c K S (L.map fun x => (x.1, x.2.2))) : Sat cx c K f H :=
  ⟨fun a w hf hw => h.out a w (hf.sub h4 hy h3) (holds_ren hw L h1 h2)⟩
end Go.Proofs.YtdohcglpcgahaaaGreatDoor.Sat
namespace Go.Proofs.YtdohcglpcgahaaaGreatDoor.Sat
open Go Go.RowKit Go.PlainAid
/-! A region that draws its order, some of whose operations each yield one value whatever came before: a table of values. -/
structure TabEnd (f' f : Env) (H' H : Heap) : Prop where
  e : f' = f
  h : H' = H
def dstOf (ops : List Oper) (i : Nat) : Option Nat := (oget ops i).bind (·.dst)
/-- what is listed holds all that it comes behind -/
def Closed (ops : Array Oper) (listed : Array Bool) : Prop := ∀ k o, listed.getD k false = true → ops[k]? = some o → ∀ e ∈ o.after, Region.binds .any e = true → listed.getD e.on false = true
structure TabInv (cx : Cx) (ops : Array Oper) (f0 : Env) (T : List (Nat × SV)) (L0 listed : Array Bool) (f : Env) : Prop where
  size : listed.size = ops.size
  old : ∀ k, k < ops.size → k ∉ T.map (·.1) → listed.getD k false = L0.getD k false
  closed : Closed ops listed
  base : ∀ e ∈ f0, find f e.1 = some (.yes, e.2.2)
  tab : ∀ i v d, listed.getD i false = true → (i, v) ∈ T → dstOf ops.toList i = some d → find f d = some (.yes, v)
  marks : marksOf cx.N f = []
structure PreEnd (cx : Cx) (f0 f : Env) : Prop where
  e : (f0.map fun e => find f e.1) = (f0.map fun e => some (Grd.yes, e.2.2))
  m : marksOf cx.N f = []
end Go.Proofs.YtdohcglpcgahaaaGreatDoor.Sat
