import Derived.WalkKit
import Derived.Deep.Quiet
import Derived.Deep.Draws
import Derived.KernelRfl
import Derived.PlainAid
import Derived.Lib.MinMax
import Derived.RangeFuncRecord
import Derived.WideLaws
set_option linter.unusedSimpArgs false
set_option linter.unusedVariables false
namespace Go.Proofs.YtdohcglpcgahaaaGreatDoor.Sat
open Go Go.RowKit Go.PlainAid

inductive SV where
  | v (x : Value)
  | p (id g b off : Nat)
  | s (id g b off n cap : Nat)
  | o (id : Nat) (A : Option (Nat × Nat)) (n cap : Nat)
  | a (l : List SV)
  | t (l : List SV)
  | fn (F : Fn) (us vs : List SV)
def adr (A : Option (Nat × Nat)) : Option Addr := A.map fun p => ⟨p.1, p.2, none⟩
def SV.r0 : SV → Value
  | .v x => x
  | .p _ g b off => .pointer (some ⟨g, off + b, none⟩)
  | .s _ g b off n cap => .slice (some ⟨g, off + b, none⟩) n cap
  | .o _ A n cap => .slice (adr A) n cap
  | _ => undef
def SV.r1 : SV → Value
  | .fn F us vs => .func F (us.map SV.r0).toArray (vs.map SV.r0).toArray
  | .v x => x
  | .p _ g b off => .pointer (some ⟨g, off + b, none⟩)
  | .s _ g b off n cap => .slice (some ⟨g, off + b, none⟩) n cap
  | .o _ A n cap => .slice (adr A) n cap
  | _ => undef
def SV.base : SV → Bool
  | .v _ => true
  | .p _ _ _ _ => true
  | .s _ _ _ _ _ _ => true
  | .o _ _ _ _ => true
  | _ => false
def SV.r2 : SV → Value
  | .a l => .agg (l.map SV.r1).toArray
  | x => x.r1
def SV.real : SV → Value
  | .t l => .tuple (l.map SV.r2).toArray
  | x => x.r2
theorem SV.base_real {x : SV} (h : x.base = true) : x.real = x.r0 := by cases x <;> first | rfl | cases h
theorem SV.base_map {l : List SV} (h : l.all SV.base = true) : l.map SV.real = l.map SV.r0 := by
  rw [List.all_eq_true] at h
  exact List.map_congr_left fun x hx => SV.base_real (h x hx)
inductive Grd where
  | yes
  | wh (b : Bool)
def Grd.holds : Grd → Prop
  | .yes => True
  | .wh b => b = true
def Grd.ob : Grd → Prop → Prop
  | .yes, p => p
  | .wh b, p => b = true → p
def Grd.and : Grd → Bool → Grd
  | .yes, b => .wh b
  | .wh c, b => .wh (c && b)
theorem Grd.ob_iff {c : Grd} {p : Prop} : c.ob p ↔ (c.holds → p) := by cases c <;> simp [Grd.ob, Grd.holds]
theorem Grd.and_holds {c : Grd} {b : Bool} : (c.and b).holds ↔ (c.holds ∧ b = true) := by cases c <;> simp [Grd.and, Grd.holds]
abbrev Env := List (Nat × Grd × SV)
def find : Env → Nat → Option (Grd × SV)
  | [], _ => none
  | (t', e) :: f, t => bif Nat.beq t' t then some e else find f t
/-! the marks of loops over functions stand in a frame's slots from N on -/
def marksOf (N : Nat) : Env → List (Nat × Nat)
  | [] => []
  | (t, _, v) :: f => bif Nat.blt t N then marksOf N f else (match v with
    | .p id g _ _ => (id, g) :: marksOf N f
    | _ => marksOf N f)
def markD (p : Nat × Nat) : Deferred := { target := .collected p.2, args := #[] }
structure FitsT (N : Nat) (f : Env) (tmps : Array Value) : Prop where
  size : tmps.size = N
  slot : ∀ t c v, find f t = some (c, v) → c.holds → tmps.getD t undef = v.real
  none_ : ∀ t c v, find f t = some (c, v) → ¬ c.holds → tmps.getD t undef = undef
/-! types -/
inductive Sh where
  | int (k : IntKind) | bool | str | slice (e : Nat) | arr (n e : Nat) | st (fs : List (Nat × Nat)) | ptr (e : Nat) | ifc | other
def Sh.of : TypeDesc → Sh
  | .int k => .int k
  | .bool => .bool
  | .string => .str
  | .slice e => .slice e
  | .array n e => .arr n e
  | .struct fs => .st (fs.toList.map fun f => (f.type, f.offset))
  | .pointer e => .ptr e
  | .interface _ => .ifc
  | _ => .other
def Sh.agg : Sh → Bool
  | .arr _ _ => true
  | .st _ => true
  | _ => false
structure TyI where
  sh : Sh
  size : Nat
  bytes : Nat
  zero : Value
abbrev TT := List (Nat × TyI)
structure Cx where
  P : Program
  T : TT
  F : List Nat
  N : Nat
  SR : List Nat
  SB : List Nat
  SC : List Nat
  n0 : Nat
  M : List Nat
  W : World
  R : Option Nat
structure Keep (n0 : Nat) (M : List Nat) (W w : World) : Prop where
  os : w.os = W.os
  tape : w.tape = W.tape
  output : w.output = W.output
  size : W.heap.size ≤ w.heap.size
  block : ∀ k, k < n0 → k ∉ M → w.heap[k]? = W.heap[k]?
inductive HB where
  | blk (g ty : Nat) (cs : List SV)
  | row (A : Option (Nat × Nat)) (e size n cap : Nat) (xs : List Value)
  | ro (A : Option (Nat × Nat)) (n size : Nat) (xs : List Value)
  | dfr (D : Nat)
  | lp (g N : Nat) (f : Env) (ps : Array Tmp) (asg body : Code) (D : Nat) (st : LoopState) (pend : Option Code)
  | own (gs : List Nat) (P : World → Prop)
def HB.gs : HB → List Nat
  | .blk g _ _ => [g]
  | .row A _ _ _ _ _ => (A.map Prod.fst).toList
  | .ro _ _ _ _ => []
  | .dfr D => [D]
  | .lp g _ _ _ _ _ _ _ _ => [g]
  | .own gs _ => gs
def HB.holds (cx : Cx) (w : World) : HB → Prop
  | .blk g ty cs => (cx.n0 ≤ g ∨ g ∈ cx.M) ∧ w.heap[g]? = some (.cells (cs.map SV.r1).toArray ty (0, 0))
  | .row A e size n cap xs => w.ownsRow cx.n0 e size (.slice (adr A) n cap) n xs
  | .ro A n size xs => xs.length = n * size ∧ (0 < n → ∃ p, A = some p ∧ p.1 < cx.n0 ∧ p.1 ∉ cx.M ∧ ∀ (j : Nat) (u : Value), xs[j]? = some u → cx.W.cell? ⟨p.1, p.2 + j, none⟩ = some u)
  | .dfr D => cx.n0 ≤ D ∧ w.heap[D]? = some (.deferred (some []))
  | .lp g N f ps asg body D st pend => cx.n0 ≤ g ∧ ∃ fn tmps, w.heap[g]? = some (.loop { state := st, pending := pend, fn := fn, tmps := tmps, params := ps, assign := asg, body := body, defers := D }) ∧ FitsT N f tmps
  | .own gs P => (∀ g, g ∈ gs → cx.n0 ≤ g ∧ g < w.heap.size) ∧ P w ∧ ∀ w' : World, (∀ g, g ∈ gs → w'.heap[g]? = w.heap[g]?) → P w'
abbrev Heap := List (Nat × HB)
structure Holds (cx : Cx) (H : Heap) (w : World) : Prop where
  keep : Keep cx.n0 cx.M cx.W w
  n0 : cx.n0 ≤ cx.W.heap.size
  ent : ∀ e ∈ H, e.2.holds cx w
  sep : ∀ (i : Nat) (b : HB) (j : Nat) (b' : HB), (i, b) ∈ H → (j, b') ∈ H → i ≠ j → ∀ g, g ∈ b.gs → g ∈ b'.gs → False
def hfind : Heap → Nat → Option HB
  | [], _ => none
  | (i, h) :: H, j => bif Nat.beq i j then some h else hfind H j
theorem hfind_mem {H : Heap} {i : Nat} {h : HB} (e : hfind H i = some h) : (i, h) ∈ H := by
  induction H with
  | nil => cases e
  | cons x H ih =>
    obtain ⟨k, h'⟩ := x
    simp only [hfind] at e
    cases hb : Nat.beq k i
    · rw [hb] at e
      exact List.mem_cons_of_mem _ (ih e)
    · rw [hb] at e
      cases e
      obtain rfl := Nat.eq_of_beq_eq_true hb
      exact List.mem_cons_self ..
theorem Holds.at_ {cx : Cx} {H : Heap} {w : World} (h : Holds cx H w) {i : Nat} {b : HB} (e : hfind H i = some b) : b.holds cx w := by
  exact h.ent _ (hfind_mem e)
structure Fits (cx : Cx) (f : Env) (a : Act) : Prop where
  defers : a.defers = (marksOf cx.N f).map markD
  size : a.tmps.size = cx.N
  slot : ∀ t c v, find f t = some (c, v) → c.holds → a.tmps.getD t undef = v.real
  none_ : ∀ t c v, find f t = some (c, v) → ¬ c.holds → a.tmps.getD t undef = undef
theorem Keep.refl (n0 : Nat) (M : List Nat) (W : World) : Keep n0 M W W := ⟨rfl, rfl, rfl, Nat.le_refl _, fun _ _ _ => rfl⟩
theorem Keep.trans {n0 : Nat} {M : List Nat} {a b c : World} (h : Keep n0 M a b) (k : Keep n0 M b c) : Keep n0 M a c :=
  ⟨k.os.trans h.os, k.tape.trans h.tape, k.output.trans h.output, Nat.le_trans h.size k.size, fun i hi hm => (k.block i hi hm).trans (h.block i hi hm)⟩
theorem Keep.of_below {n0 B : Nat} {M : List Nat} {a b : World} (h : Below B a b) (hB : n0 ≤ B) : Keep n0 M a b :=
  ⟨h.os, h.tape, h.output, h.size, fun i hi _ => h.block i (by omega)⟩
theorem Keep.below {n0 : Nat} {a b : World} (h : Keep n0 [] a b) : Below n0 a b :=
  ⟨h.os, h.tape, h.output, h.size, fun i hi => h.block i hi (by simp)⟩
theorem heap_lt {w : World} {g : Nat} {o : Obj} (h : w.heap[g]? = some o) : g < w.heap.size := by
  rcases Nat.lt_or_ge g w.heap.size with h1 | h1
  · exact h1
  · rw [Array.getElem?_eq_none h1] at h; cases h
/-- what only adds memory keeps what is known -/
theorem Holds.below {cx : Cx} {H : Heap} {w w' : World} (h : Holds cx H w) (hb : Below w.heap.size w w') : Holds cx H w' := by
  have hn : cx.n0 ≤ w.heap.size := Nat.le_trans h.n0 h.keep.size
  refine ⟨h.keep.trans (Keep.of_below hb hn), h.n0, fun e he => ?_, h.sep⟩
  have := h.ent e he
  obtain ⟨i, b⟩ := e
  cases b with
  | blk g ty cs => exact ⟨this.1, (hb.block g (heap_lt this.2)).trans this.2⟩
  | row A e size n cap xs =>
    obtain ⟨h1, h2⟩ := this
    refine ⟨h1, ?_⟩
    rcases h2 with h2 | ⟨g, cap, cur, h2, h3, h4, h5⟩
    · exact .inl h2
    · exact .inr ⟨g, cap, cur, h2, h3, (hb.block g (heap_lt h4)).trans h4, h5⟩
  | ro A n size xs => exact this
  | dfr D => exact ⟨this.1, (hb.block D (heap_lt this.2)).trans this.2⟩
  | lp g N f ps asg body D st pend =>
    obtain ⟨h1, fn, tmps, h2, h3⟩ := this
    exact ⟨h1, fn, tmps, (hb.block g (heap_lt h2)).trans h2, h3⟩
  | own gs P =>
    obtain ⟨h1, h2, h3⟩ := this
    have hk : ∀ g, g ∈ gs → w'.heap[g]? = w.heap[g]? := fun g hg => hb.block g (h1 g hg).2
    exact ⟨fun g hg => ⟨(h1 g hg).1, Nat.lt_of_lt_of_le (h1 g hg).2 hb.size⟩, h3 w' hk, fun w2 hk2 => h3 w2 fun g hg => (hk2 g hg).trans (hk g hg)⟩
theorem Fits.t {cx : Cx} {f : Env} {a : Act} (h : Fits cx f a) : FitsT cx.N f a.tmps := ⟨h.size, h.slot, h.none_⟩
theorem Holds.drawn {cx : Cx} {H : Heap} {w : World} (h : Holds cx H w) (n : Nat) : Holds cx H { w with drawn := n } :=
  ⟨⟨h.keep.os, h.keep.tape, h.keep.output, h.keep.size, h.keep.block⟩, h.n0, fun e he => by
    have := h.ent e he
    obtain ⟨i, b⟩ := e
    cases b with
    | own gs P => exact ⟨this.1, this.2.2 _ fun _ _ => rfl, fun w2 hk2 => this.2.2 w2 hk2⟩
    | _ => exact this, h.sep⟩
def kn : IntKind → Nat
  | .i8 => 0 | .i16 => 1 | .i32 => 2 | .i64 => 3 | .u8 => 4 | .u16 => 5 | .u32 => 6 | .u64 => 7
/-- the string of a list of bytes -/
def strOf (l : List Int) : ByteArray := l.foldl (fun r n => r.push (UInt8.ofNat n.toNat)) ByteArray.empty
theorem kn_inj {a b : IntKind} (h : Nat.beq (kn a) (kn b) = true) : a = b := by
  cases a <;> cases b <;> first | rfl | (revert h; decide)
def kb : IntKind → Int
  | .i8 => 8 | .i16 => 16 | .i32 => 32 | .i64 => 64 | .u8 => 8 | .u16 => 16 | .u32 => 32 | .u64 => 64
theorem kb_eq (k : IntKind) : kb k = (k.bits : Int) := by cases k <;> rfl
def InR : IntKind → Int → Prop
  | .i8, e => -128 ≤ e ∧ e ≤ 127
  | .i16, e => -32768 ≤ e ∧ e ≤ 32767
  | .i32, e => -2147483648 ≤ e ∧ e ≤ 2147483647
  | .i64, e => -9223372036854775808 ≤ e ∧ e ≤ 9223372036854775807
  | .u8, e => 0 ≤ e ∧ e ≤ 255
  | .u16, e => 0 ≤ e ∧ e ≤ 65535
  | .u32, e => 0 ≤ e ∧ e ≤ 4294967295
  | .u64, e => 0 ≤ e ∧ e ≤ 18446744073709551615
theorem wrap_in {k : IntKind} {e : Int} (h : InR k e) : k.wrap e = e := by
  cases k <;> simp only [InR] at h <;> simp only [IntKind.wrap, IntKind.signed, IntKind.bits] <;> simp <;> omega
theorem InR.less {k : IntKind} {a b : Int} (h : InR k a) (h0 : 0 ≤ b) (h1 : b ≤ a) : InR k b := by
  cases k <;> simp only [InR] at h ⊢ <;> omega

def TyOk (P : Program) (t : Nat) (i : TyI) : Prop :=
  (P.info? t).map (fun j => (j.zero, j.size, j.bytes)) = some (some i.zero, i.size, i.bytes) ∧ (P.underlying t).map Sh.of = some i.sh ∧ i.zero.cells.size = i.size
def TOk (P : Program) : TT → Prop
  | [] => True
  | (t, i) :: T => TyOk P t i ∧ TOk P T
def tfind : TT → Nat → Option TyI
  | [], _ => none
  | (t', i) :: T, t => bif Nat.beq t' t then some i else tfind T t
theorem TOk.at_ {P : Program} {T : TT} (h : TOk P T) {t : Nat} {i : TyI} (e : tfind T t = some i) : TyOk P t i := by
  induction T with
  | nil => cases e
  | cons x T ih =>
    obtain ⟨k, i'⟩ := x
    obtain ⟨h1, h2⟩ := h
    simp only [tfind] at e
    cases hb : Nat.beq k t
    · rw [hb] at e; exact ih h2 e
    · rw [hb] at e; cases e; obtain rfl := Nat.eq_of_beq_eq_true hb; exact h1
theorem TyOk.und {P : Program} {t : Nat} {i : TyI} (h : TyOk P t i) : ∃ d, P.underlying t = some d ∧ Sh.of d = i.sh := by
  have := h.2.1
  rw [Option.map_eq_some_iff] at this
  exact this
theorem TyOk.info {P : Program} {t : Nat} {i : TyI} (h : TyOk P t i) : ∃ j, P.info? t = some j ∧ j.zero = some i.zero ∧ j.size = i.size ∧ j.bytes = i.bytes := by
  have := h.1
  rw [Option.map_eq_some_iff] at this
  obtain ⟨j, h1, h2⟩ := this
  simp only [Prod.mk.injEq] at h2
  exact ⟨j, h1, h2.1, h2.2.1, h2.2.2⟩
theorem TyOk.run_size {P : Program} {t : Nat} {i : TyI} (h : TyOk P t i) (w : World) : (sizeOf t).run P w = .ok i.size w := by
  obtain ⟨j, h1, _, h2, _⟩ := h.info
  simp [sizeOf, typeInfo, h1, h2]
theorem TyOk.run_zero {P : Program} {t : Nat} {i : TyI} (h : TyOk P t i) (w : World) : (zeroValue t).run P w = .ok i.zero w := by
  obtain ⟨j, h1, h2, _⟩ := h.info
  simp [zeroValue, typeInfo, h1, h2]
theorem TyOk.run_und {P : Program} {t : Nat} {i : TyI} (h : TyOk P t i) (w : World) : ∃ d, (underlying t).run P w = .ok d w ∧ Sh.of d = i.sh := by
  obtain ⟨d, h1, h2⟩ := h.und
  exact ⟨d, run_underlying h1 w, h2⟩
theorem TyOk.run_agg {P : Program} {t : Nat} {i : TyI} (h : TyOk P t i) (w : World) : (isAgg t).run P w = .ok i.sh.agg w := by
  obtain ⟨d, h1, h2⟩ := h.run_und w
  simp only [isAgg, Sem.run_bind, h1, Result.andThen_ok, ← h2]
  cases d <;> rfl
theorem und_slice {P : Program} {t : Nat} {i : TyI} (h : TyOk P t i) {e : Nat} (hs : i.sh = .slice e) : P.underlying t = some (.slice e) := by
  obtain ⟨d, h1, h2⟩ := h.und
  rw [hs] at h2
  cases d <;> simp [Sh.of] at h2
  rw [h1, h2]
theorem und_arr {P : Program} {t : Nat} {i : TyI} (h : TyOk P t i) {n e : Nat} (hs : i.sh = .arr n e) : P.underlying t = some (.array n e) := by
  obtain ⟨d, h1, h2⟩ := h.und
  rw [hs] at h2
  cases d <;> simp [Sh.of] at h2
  rw [h1, h2.1, h2.2]
theorem und_str {P : Program} {t : Nat} {i : TyI} (h : TyOk P t i) (hs : i.sh = .str) : P.underlying t = some .string := by
  obtain ⟨d, h1, h2⟩ := h.und
  rw [hs] at h2
  cases d <;> simp [Sh.of] at h2
  exact h1
theorem und_bool {P : Program} {t : Nat} {i : TyI} (h : TyOk P t i) (hs : i.sh = .bool) : P.underlying t = some .bool := by
  obtain ⟨d, h1, h2⟩ := h.und
  rw [hs] at h2
  cases d <;> simp [Sh.of] at h2
  exact h1
theorem und_int {P : Program} {t : Nat} {i : TyI} (h : TyOk P t i) {k : IntKind} (hs : i.sh = .int k) : P.underlying t = some (.int k) := by
  obtain ⟨d, h1, h2⟩ := h.und
  rw [hs] at h2
  cases d <;> simp [Sh.of] at h2
  rw [h1, h2]
theorem und_st {P : Program} {t : Nat} {i : TyI} (h : TyOk P t i) {l : List (Nat × Nat)} (hs : i.sh = .st l) : ∃ fs : Array Field, P.underlying t = some (.struct fs) ∧ fs.toList.map (fun f => (f.type, f.offset)) = l := by
  obtain ⟨d, h1, h2⟩ := h.und
  rw [hs] at h2
  cases d <;> simp [Sh.of] at h2
  exact ⟨_, h1, h2⟩
theorem und_ifc {P : Program} {t : Nat} {i : TyI} (h : TyOk P t i) (hs : i.sh = .ifc) : P.underlying t = some (.interface (P.methodsAt t)) := by
  obtain ⟨d, h1, h2⟩ := h.und
  rw [hs] at h2
  cases d <;> simp [Sh.of] at h2
  unfold Program.methodsAt
  rw [h1]
/-! operands -/
def ev (f : Env) (c : Grd) (x : Operand) (K : SV → Prop) : Prop :=
  match x with
  | .const v => K (.v v)
  | .tmp t => match find f t with
    | some (.yes, v) => K v
    | some (.wh d, v) => c.ob (d = true) ∧ K v
    | none => False
  | .global g => K (.p (2000000 + g) g 0 0)
  | .func F => K (.v (.func (.func F) #[] #[]))
theorem ev_sound {cx : Cx} {f : Env} {a : Act} (hf : Fits cx f a) {c : Grd} {x : Operand} {K : SV → Prop} (h : ev f c x K) : ∃ v, (c.holds → a.eval x = v.real) ∧ K v := by
  cases x with
  | const v => exact ⟨_, fun _ => rfl, h⟩
  | global g => exact ⟨_, fun _ => rfl, h⟩
  | func F => exact ⟨_, fun _ => rfl, h⟩
  | tmp t =>
    simp only [ev] at h
    split at h
    · rename_i v e
      exact ⟨v, fun _ => hf.slot t _ v e trivial, h⟩
    · rename_i d v e
      exact ⟨v, fun hc => hf.slot t _ v e (Grd.ob_iff.1 h.1 hc), h.2⟩
    · exact h.elim
def evL (f : Env) (c : Grd) : List Operand → (List SV → Prop) → Prop
  | [], K => K []
  | x :: l, K => ev f c x fun v => evL f c l fun vs => K (v :: vs)
theorem evL_sound {cx : Cx} {f : Env} {a : Act} (hf : Fits cx f a) {c : Grd} {l : List Operand} {K : List SV → Prop} (h : evL f c l K) : ∃ vs, (c.holds → l.map a.eval = vs.map SV.real) ∧ K vs := by
  induction l generalizing K with
  | nil => exact ⟨[], fun _ => rfl, h⟩
  | cons x l ih =>
    obtain ⟨v, hv, h⟩ := ev_sound hf h
    obtain ⟨vs, hvs, h⟩ := ih h
    exact ⟨v :: vs, fun hc => by rw [List.map_cons, List.map_cons, hv hc, hvs hc], h⟩
/-! integers -/
def vcI (c : Grd) (k : IntKind) (e : Int) (K : SV → Prop) : Prop := (c.ob (InR k e) ∧ K (.v (.int k e))) ∨ K (.v (.int k (k.wrap e)))
theorem vcI_sound {c : Grd} {k : IntKind} {e : Int} {K : SV → Prop} (h : vcI c k e K) : ∃ n, (c.holds → k.wrap e = n) ∧ K (.v (.int k n)) := by
  rcases h with ⟨h1, h2⟩ | h
  · exact ⟨e, fun hc => wrap_in (Grd.ob_iff.1 h1 hc), h2⟩
  · exact ⟨_, fun _ => rfl, h⟩
def vcBinI2 (c : Grd) (op : BinOp) (k : IntKind) (a b : Int) (K : SV → Prop) : Prop :=
  match op with
  | .add => vcI c k (a + b) K
  | .sub => vcI c k (a - b) K
  | .mul => vcI c k (a * b) K
  | .quo => (c.ob (0 ≤ a ∧ 1 ≤ b ∧ InR k a) ∧ K (.v (.int k (a / b)))) ∨ (c.ob (b ≠ 0) ∧ K (.v (.int k (k.wrap (a.tdiv b)))))
  | .rem => (c.ob (0 ≤ a ∧ b ≠ 0) ∧ K (.v (.int k (a % b)))) ∨ (c.ob (b ≠ 0) ∧ K (.v (.int k (a.tmod b))))
  | .eql => K (.v (.bool (a == b)))
  | .neq => K (.v (.bool (a != b)))
  | .lss => K (.v (.bool (decide (a < b))))
  | .leq => K (.v (.bool (decide (a ≤ b))))
  | .gtr => K (.v (.bool (decide (b < a))))
  | .geq => K (.v (.bool (decide (b ≤ a))))
  | op => K (.v (.int k (bits op k a b)))
def vcBinI (c : Grd) (op : BinOp) (k : IntKind) (a : Int) (k' : IntKind) (b : Int) (K : SV → Prop) : Prop :=
  match op with
  | .shl => c.ob (0 ≤ b ∧ b ≤ kb k) ∧ vcI c k (a * 2 ^ b.toNat) K
  | .shr => c.ob (0 ≤ b ∧ b ≤ kb k) ∧ K (.v (.int k (a / 2 ^ b.toNat)))
  | op => bif Nat.beq (kn k) (kn k') then vcBinI2 c op k a b K else False
def vcBinS (c : Grd) (op : BinOp) (a b : ByteArray) (K : SV → Prop) : Prop :=
  match op with
  | .add => c.ob (a.size + b.size ≤ 9223372036854775807) ∧ K (.v (.string (a ++ b)))
  | .eql => K (.v (.bool (a == b)))
  | .neq => K (.v (.bool (!(a == b))))
  | .lss => K (.v (.bool (Op.bytesLess a.toList b.toList)))
  | _ => False
theorem run_binI (P : Program) (t : TypeId) {c : Grd} {op : BinOp} {k : IntKind} {a : Int} {k' : IntKind} {b : Int} {K : SV → Prop} (h : vcBinI c op k a k' b K) :
    ∃ v, (c.holds → ∀ w, (binOp op t (.int k a) (.int k' b)).run P w = .ok v w) ∧ K (.v v) := by
  have same : ∀ op', (bif Nat.beq (kn k) (kn k') then op' else False) → k = k' ∧ op' := by
    intro op' h
    cases hb : Nat.beq (kn k) (kn k')
    · rw [hb] at h; exact h.elim
    · rw [hb] at h; exact ⟨kn_inj hb, h⟩
  cases op
  case shl =>
    obtain ⟨h0, h⟩ := h
    obtain ⟨n, hn, h⟩ := vcI_sound h
    refine ⟨_, fun hc w => ?_, h⟩
    obtain ⟨h1, h2⟩ := Grd.ob_iff.1 h0 hc
    rw [kb_eq] at h2
    rw [binOp_shl, shift_shl k k' a b h1 h2, Sem.run_pure, hn hc]
  case shr =>
    obtain ⟨h0, h⟩ := h
    refine ⟨_, fun hc w => ?_, h⟩
    obtain ⟨h1, h2⟩ := Grd.ob_iff.1 h0 hc
    rw [kb_eq] at h2
    rw [binOp_shr, shift_shr k k' a b h1 h2, Sem.run_pure]
  all_goals (simp only [vcBinI] at h; have hs := same _ h; clear h; obtain ⟨rfl, h⟩ := hs; simp only [vcBinI2] at h)
  case add => obtain ⟨n, hn, h⟩ := vcI_sound h; exact ⟨_, fun hc w => by rw [binOp_add, ← hn hc]; rfl, h⟩
  case sub => obtain ⟨n, hn, h⟩ := vcI_sound h; exact ⟨_, fun hc w => by rw [binOp_sub, ← hn hc]; rfl, h⟩
  case mul => obtain ⟨n, hn, h⟩ := vcI_sound h; exact ⟨_, fun hc w => by rw [binOp_mul, ← hn hc]; rfl, h⟩
  case quo =>
    rcases h with ⟨h0, h⟩ | ⟨h0, h⟩
    · refine ⟨_, fun hc w => ?_, h⟩
      obtain ⟨h1, h2, h3⟩ := Grd.ob_iff.1 h0 hc
      rw [binOp_quo, Op.intDiv, if_neg (by omega)]
      simp only [Sem.run_pure]
      rw [Int.tdiv_eq_ediv_of_nonneg h1, wrap_in (h3.less (Int.ediv_nonneg h1 (by omega)) (Int.ediv_le_self _ h1))]
    · refine ⟨_, fun hc w => ?_, h⟩
      rw [binOp_quo, Op.intDiv, if_neg (Grd.ob_iff.1 h0 hc)]; rfl
  case rem =>
    rcases h with ⟨h0, h⟩ | ⟨h0, h⟩
    · refine ⟨_, fun hc w => ?_, h⟩
      obtain ⟨h1, h2⟩ := Grd.ob_iff.1 h0 hc
      rw [binOp_rem, Op.intDiv, if_neg h2]
      simp only [Sem.run_pure]
      rw [Int.tmod_eq_emod_of_nonneg h1]
    · refine ⟨_, fun hc w => ?_, h⟩
      rw [binOp_rem, Op.intDiv, if_neg (Grd.ob_iff.1 h0 hc)]; rfl
  case eql => exact ⟨_, fun _ w => by rw [binOp_eql]; rfl, h⟩
  case neq => exact ⟨_, fun _ w => by rw [binOp_neq]; rfl, h⟩
  case lss => exact ⟨_, fun _ w => by rw [binOp_lss]; rfl, h⟩
  case leq => exact ⟨_, fun _ w => by rw [binOp_leq]; rfl, h⟩
  case gtr => exact ⟨_, fun _ w => by rw [binOp_gtr]; rfl, h⟩
  case geq => exact ⟨_, fun _ w => by rw [binOp_geq]; rfl, h⟩
  case and => exact ⟨_, fun _ w => by rw [binOp_and]; rfl, h⟩
  case or => exact ⟨_, fun _ w => by rw [binOp_or]; rfl, h⟩
  case xor => exact ⟨_, fun _ w => by rw [binOp_xor]; rfl, h⟩
  case andNot => exact ⟨_, fun _ w => by rw [binOp_andNot]; rfl, h⟩
theorem run_binS (P : Program) (t : TypeId) {c : Grd} {op : BinOp} {a b : ByteArray} {K : SV → Prop} (h : vcBinS c op a b K) :
    ∃ v, (c.holds → ∀ w, (binOp op t (.string a) (.string b)).run P w = .ok v w) ∧ K (.v v) := by
  cases op <;> simp only [vcBinS] at h
  case add =>
    obtain ⟨h0, h⟩ := h
    exact ⟨_, fun hc w => run_string_add_sum w a b (Grd.ob_iff.1 h0 hc), h⟩
  case eql => exact ⟨_, fun _ w => by show Result.ok _ _ = _; rw [beq_toListBytes], h⟩
  case neq => exact ⟨_, fun _ w => by show Result.ok _ _ = _; rw [beq_toListBytes], h⟩
  case lss => exact ⟨_, fun _ w => rfl, h⟩
end Go.Proofs.YtdohcglpcgahaaaGreatDoor.Sat
namespace Go.Proofs.YtdohcglpcgahaaaGreatDoor.Sat
open Go Go.RowKit Go.PlainAid
/-- the value of an operation that only reads -/
def Okv (cx : Cx) (H : Heap) (c : Grd) (a : Act) (op : Op) (v : SV) : Prop := c.holds → ∀ o : Oper, o.op = op → ∀ w, Holds cx H w → (execOp a.eval o).run cx.P w = .ok (.value v.real) w
def lget : List SV → Nat → Option SV
  | x :: _, 0 => some x
  | _ :: l, n + 1 => lget l n
  | [], _ => none
theorem lget_eq (l : List SV) (n : Nat) : lget l n = l[n]? := by
  induction l generalizing n with
  | nil => rfl
  | cons x l ih => cases n <;> simp [lget, ih]
def SV.scal : SV → Bool
  | .a _ => false
  | .t _ => false
  | _ => true
theorem SV.real_scal {v : SV} (h : v.scal = true) : v.real = v.r1 := by cases v <;> first | rfl | cases h
theorem SV.real_nt {v : SV} (h : ∀ l, v ≠ .t l) : v.real = v.r2 := by cases v <;> first | rfl | exact absurd rfl (h _)
def vcPick (f : Env) (c : Grd) (cc x y : Operand) (K : SV → Prop) : Prop :=
  ev f c cc fun b => match b with
    | .v (.bool b) =>
      match x, y with
      | .const (.bool true), y => ev f (c.and (!b)) y fun v => match v with
        | .v (.bool z) => K (.v (.bool (b || z)))
        | _ => False
      | x, .const (.bool false) => ev f (c.and b) x fun v => match v with
        | .v (.bool z) => K (.v (.bool (b && z)))
        | _ => False
      | x, y => ev f (c.and b) x fun u => ev f (c.and (!b)) y fun v => (b = true → K u) ∧ (b = false → K v)
    | _ => False
def vcExtract (c : Grd) (u : SV) (i : Nat) (K : SV → Prop) : Prop :=
  match u with
  | .t l => match lget l i with
    | some (.t _) => False
    | some v => K v
    | none => False
  | .v (.tuple vs) => ∃ x, c.ob (vs[i]? = some x) ∧ K (.v x)
  | _ => False
def vcBinB (T : TT) (op : BinOp) (t : TypeId) (a b : Bool) (K : SV → Prop) : Prop :=
  match tfind T t with
  | some ⟨.bool, _, _, _⟩ => match op with
    | .eql => K (.v (.bool (a == b)))
    | .neq => K (.v (.bool (a != b)))
    | _ => False
  | _ => False
def vcUn (c : Grd) (op : UnOp) (u : SV) (K : SV → Prop) : Prop :=
  match op, u with
  | .not, .v (.bool b) => K (.v (.bool (!b)))
  | .neg, .v (.int k n) => vcI c k (0 - n) K
  | _, _ => False
def vcConv (T : TT) (c : Grd) (src dst : TypeId) (u : SV) (K : SV → Prop) : Prop :=
  match tfind T src, tfind T dst with
  | some ⟨.int _, _, _, _⟩, some ⟨.int k, _, _, _⟩ => match u with
    | .v (.int _ n) => vcI c k n K
    | _ => False
  | some ⟨.str, _, _, _⟩, some ⟨.str, _, _, _⟩ => match u with
    | .v (.string s) => K (.v (.string s))
    | _ => False
  | _, _ => False
def vcNilCheck (u : SV) (K : SV → Prop) : Prop :=
  match u with
  | .p i g b o => K (.p i g b o)
  | .v (.pointer (some a)) => K (.v (.pointer (some a)))
  | .v (.func (.func F) x y) => K (.v (.func (.func F) x y))
  | .fn (.func F) x y => K (.fn (.func F) x y)
  | _ => False
def fget : List (Nat × Nat) → Nat → Option (Nat × Nat)
  | x :: _, 0 => some x
  | _ :: l, n + 1 => fget l n
  | [], _ => none
theorem fget_eq (l : List (Nat × Nat)) (n : Nat) : fget l n = l[n]? := by
  induction l generalizing n with
  | nil => rfl
  | cons x l ih => cases n <;> simp [fget, ih]
def vcFieldAddr (T : TT) (t : TypeId) (u : SV) (i : Nat) (K : SV → Prop) : Prop :=
  match tfind T t with
  | some ⟨.st fs, _, _, _⟩ => match fget fs i with
    | some (ft, off) => match tfind T ft with
      | some j => bif Nat.beq j.size 0 then False else (match u with
        | .p id g b o => K (.p id g b (o + off))
        | .v (.pointer (some a)) => K (.v (.pointer (some (a.add off))))
        | _ => False)
      | none => False
    | none => False
  | _ => False
def mulS (i s : Nat) : Nat := bif Nat.beq s 1 then i else i * s
theorem mulS_eq (i s : Nat) : mulS i s = i * s := by
  unfold mulS
  cases h : Nat.beq s 1
  · rfl
  · obtain rfl := Nat.eq_of_beq_eq_true h; simp
/-- a place behind an address -/
def adAt (x : Option Addr) (k : Nat) : Addr := (x.getD ⟨0, 0, none⟩).add k
def vcIndexAddr (T : TT) (H : Heap) (c : Grd) (t : TypeId) (u i : SV) (K : SV → Prop) : Prop :=
  match i with
  | .v (.int _ i) => match tfind T t with
    | some ⟨.slice e, _, _, _⟩ => match tfind T e with
      | some j => match u with
        | .s id g b off n _ => c.ob (0 ≤ i ∧ i < n) ∧ K (.p id g b (off + mulS i.toNat j.size))
        | .o id A n _ => match hfind H id with
          | some (.row A' _ _ n' _ _) => A = A' ∧ c.ob (0 ≤ i ∧ i < n ∧ n ≤ n') ∧ K (.p id (A.getD (0, 0)).1 (A.getD (0, 0)).2 (mulS i.toNat j.size))
          | some (.ro A' n' _ _) => A = A' ∧ c.ob (0 ≤ i ∧ i < n ∧ n ≤ n') ∧ K (.p id (A.getD (0, 0)).1 (A.getD (0, 0)).2 (mulS i.toNat j.size))
          | _ => False
        | .v (.slice x n _) => c.ob (0 ≤ i ∧ i < n ∧ x.isSome = true) ∧ K (.v (.pointer (some (adAt x (mulS i.toNat j.size)))))
        | _ => False
      | none => False
    | some ⟨.arr n e, _, _, _⟩ => match tfind T e with
      | some j => match u with
        | .p id g b off => c.ob (0 ≤ i ∧ i < n) ∧ K (.p id g b (off + mulS i.toNat j.size))
        | _ => False
      | none => False
    | _ => False
  | _ => False
def vcLoad (T : TT) (cx : Cx) (H : Heap) (c : Grd) (t : TypeId) (u : SV) (K : SV → Prop) : Prop :=
  match tfind T t with
  | some j => match u with
    | .p id g b off => match hfind H id with
      | some (.blk g' _ cs) => (g = g' ∧ b = 0) ∧ (bif j.sh.agg then c.ob (off + j.size ≤ cs.length) ∧ K (.a ((cs.drop off).take j.size)) else ∃ x, c.ob (cs[off]? = some x ∧ x.scal = true) ∧ K x)
      | some (.row A _ _ _ _ xs) => (g = (A.getD (0, 0)).1 ∧ b = (A.getD (0, 0)).2) ∧ (bif j.sh.agg then ∃ us : List Value, c.ob (us.length = j.size ∧ ∀ i, i < j.size → xs[off + i]? = us[i]?) ∧ K (.a (us.map .v)) else ∃ x, c.ob (xs[off]? = some x) ∧ K (.v x))
      | some (.ro A _ _ xs) => (g = (A.getD (0, 0)).1 ∧ b = (A.getD (0, 0)).2) ∧ (bif j.sh.agg then ∃ us : List Value, c.ob (us.length = j.size ∧ ∀ i, i < j.size → xs[off + i]? = us[i]?) ∧ K (.a (us.map .v)) else ∃ x, c.ob (xs[off]? = some x) ∧ K (.v x))
      | _ => False
    | .v (.pointer (some a)) => bif j.sh.agg then (∃ us : List Value, c.ob (us.length = j.size ∧ ∀ w, Holds cx H w → ∀ i u, us[i]? = some u → w.cell? (a.add i) = some u) ∧ K (.a (us.map .v))) else ∃ x, c.ob (∀ w, Holds cx H w → w.cell? a = some x) ∧ K (.v x)
    | _ => False
  | none => False
def vcField (T : TT) (c : Grd) (t : TypeId) (u : SV) (i : Nat) (K : SV → Prop) : Prop :=
  match tfind T t with
  | some ⟨.st fs, _, _, _⟩ => match fget fs i with
    | some (ft, off) => match tfind T ft with
      | some j => match u with
        | .a l => bif j.sh.agg then K (.a ((l.drop off).take j.size)) else (∃ x, c.ob (l[off]? = some x ∧ x.scal = true) ∧ K x)
        | _ => False
      | none => False
    | none => False
  | _ => False
def vcIndex (T : TT) (c : Grd) (t : TypeId) (u i : SV) (K : SV → Prop) : Prop :=
  match i with
  | .v (.int _ i) => match tfind T t with
    | some ⟨.str, _, _, _⟩ => match u with
      | .v (.string s) => c.ob (0 ≤ i ∧ i < s.size) ∧ K (.v (.int .u8 (bt s i.toNat)))
      | _ => False
    | some ⟨.arr n e, _, _, _⟩ => match tfind T e with
      | some j => match u with
        | .a l => bif j.sh.agg then (c.ob (0 ≤ i ∧ i < n) ∧ K (.a ((l.drop (i.toNat * j.size)).take j.size))) else (∃ x, c.ob (0 ≤ i ∧ i < n ∧ l[i.toNat * j.size]? = some x ∧ x.scal = true) ∧ K x)
        | _ => False
      | none => False
    | _ => False
  | _ => False
def vcLen (T : TT) (t : TypeId) (u : SV) (K : SV → Prop) : Prop :=
  match tfind T t with
  | some ⟨.str, _, _, _⟩ => match u with
    | .v (.string s) => K (.v (.int .i64 s.size))
    | _ => False
  | some ⟨.slice _, _, _, _⟩ => match u with
    | .s _ _ _ _ n _ => K (.v (.int .i64 n))
    | .o _ _ n _ => K (.v (.int .i64 n))
    | .v (.slice _ n _) => K (.v (.int .i64 n))
    | _ => False
  | some ⟨.arr n _, _, _, _⟩ => K (.v (.int .i64 n))
  | _ => False

/-! soundness -/
theorem add_mk (g o n : Nat) : (⟨g, o, none⟩ : Addr).add n = ⟨g, o + n, none⟩ := by
  unfold Addr.add; split
  · rename_i h; subst h; rfl
  · rfl
theorem run_eql_bool {P : Program} (t : TypeId) (a b : Bool) (h : P.underlying t = some .bool) (w : World) : (binOp .eql t (.bool a) (.bool b)).run P w = .ok (.bool (a == b)) w := by
  show ((do pure (Value.bool (← Op.equal t (.bool a) (.bool b)))) : Sem Value).run P w = _
  simp only [Sem.run_bind, Op.equal, show Op.maxDepth = 9999 + 1 from rfl, run_equalIn_bool' w 9999 t a b h, Result.andThen_ok, Sem.run_pure]
theorem run_neq_bool {P : Program} (t : TypeId) (a b : Bool) (h : P.underlying t = some .bool) (w : World) : (binOp .neq t (.bool a) (.bool b)).run P w = .ok (.bool (a != b)) w := by
  show ((do pure (Value.bool (!(← Op.equal t (.bool a) (.bool b))))) : Sem Value).run P w = _
  simp only [Sem.run_bind, Op.equal, show Op.maxDepth = 9999 + 1 from rfl, run_equalIn_bool' w 9999 t a b h, Result.andThen_ok, Sem.run_pure]
  rfl
theorem vcBinB_sound {cx : Cx} {T : TT} (hT : TOk cx.P T) {op : BinOp} {t : TypeId} {a b : Bool} {K : SV → Prop} (h : vcBinB T op t a b K) :
    ∃ v, (∀ w, (binOp op t (.bool a) (.bool b)).run cx.P w = .ok v w) ∧ K (.v v) := by
  unfold vcBinB at h
  split at h
  · rename_i e
    have hu := und_bool (hT.at_ e) rfl
    split at h
    · exact ⟨_, fun w => run_eql_bool t a b hu w, h⟩
    · exact ⟨_, fun w => run_neq_bool t a b hu w, h⟩
    · exact h.elim
  · exact h.elim
theorem vcConv_sound {cx : Cx} {T : TT} (hT : TOk cx.P T) {c : Grd} {src dst : TypeId} {u : SV} {K : SV → Prop} (h : vcConv T c src dst u K) :
    ∃ v, (c.holds → ∀ w, (convert src dst u.real).run cx.P w = .ok v.real w) ∧ K v := by
  unfold vcConv at h
  split at h
  · rename_i es ed
    have hs := und_int (hT.at_ es) rfl
    have hd := und_int (hT.at_ ed) rfl
    split at h
    · obtain ⟨n', hn, h⟩ := vcI_sound h
      refine ⟨_, fun hc w => ?_, h⟩
      simp only [SV.real, SV.r2, SV.r1]
      rw [← hn hc]
      simp only [convert, Sem.run_bind, run_underlying hs, run_underlying hd, Result.andThen_ok]
      rfl
    · exact h.elim
  · rename_i es ed
    have hs := und_str (hT.at_ es) rfl
    have hd := und_str (hT.at_ ed) rfl
    split at h
    · exact ⟨_, fun hc w => by simp [SV.real, SV.r2, SV.r1, convert, run_underlying hs, run_underlying hd], h⟩
    · exact h.elim
  · exact h.elim
theorem size_run {cx : Cx} {T : TT} (hT : TOk cx.P T) {t : TypeId} {j : TyI} (e : tfind T t = some j) (w : World) : (sizeOf t).run cx.P w = .ok j.size w := (hT.at_ e).run_size w
theorem agg_run {cx : Cx} {T : TT} (hT : TOk cx.P T) {t : TypeId} {j : TyI} (e : tfind T t = some j) (w : World) : (isAgg t).run cx.P w = .ok j.sh.agg w := (hT.at_ e).run_agg w
theorem vcFieldAddr_sound {cx : Cx} {T : TT} (hT : TOk cx.P T) {t : TypeId} {u : SV} {i : Nat} {K : SV → Prop} (h : vcFieldAddr T t u i K) :
    ∃ v, (∀ w, (Instr.fieldAt t u.real i).run cx.P w = .ok v.real w) ∧ K v := by
  unfold vcFieldAddr at h
  split at h
  · rename_i fs _ _ _ e
    obtain ⟨fl, hu, hl⟩ := und_st (hT.at_ e) rfl
    split at h
    · rename_i ft off ef
      split at h
      · rename_i j ej
        cases hz : Nat.beq j.size 0
        · rw [hz] at h
          have hz' : j.size ≠ 0 := fun e => by rw [e] at hz; cases hz
          have hf : ∃ fld, fl[i]? = some fld ∧ fld.type = ft ∧ fld.offset = off := by
            rw [fget_eq, ← hl, List.getElem?_map, Option.map_eq_some_iff] at ef
            obtain ⟨fld, h1, h2⟩ := ef
            simp only [Prod.mk.injEq] at h2
            exact ⟨fld, by simpa using h1, h2⟩
          obtain ⟨fld, h1, h2, h3⟩ := hf
          have hsz := size_run hT ej
          dsimp only [cond] at h
          split at h
          · rename_i id g b o
            refine ⟨_, fun w => ?_, h⟩
            simp [SV.real, SV.r2, SV.r1, Instr.fieldAt, run_underlying hu, h1, Instr.sureAddr, fieldPlace, h2, hsz, hz', h3, add_mk]
          · rename_i a
            refine ⟨_, fun w => ?_, h⟩
            simp [SV.real, SV.r2, SV.r1, Instr.fieldAt, run_underlying hu, h1, Instr.sureAddr, fieldPlace, h2, hsz, hz', h3]
          · exact h.elim
        · rw [hz] at h; exact h.elim
      · exact h.elim
    · exact h.elim
  · exact h.elim
theorem vcIndexAddr_sound {cx : Cx} {T : TT} (hT : TOk cx.P T) {H : Heap} {c : Grd} {t : TypeId} {u i : SV} {K : SV → Prop} (h : vcIndexAddr T H c t u i K) :
    ∃ v, (c.holds → ∀ w, Holds cx H w → (Instr.indexAt t u.real i.real).run cx.P w = .ok v.real w) ∧ K v := by
  unfold vcIndexAddr at h
  split at h
  · rename_i k i
    split at h
    · rename_i e _ _ _ et
      have hu := und_slice (hT.at_ et) rfl
      split at h
      · rename_i j ej
        have hsz := size_run hT ej
        split at h
        · rename_i id g b off n cap
          obtain ⟨h0, h⟩ := h
          refine ⟨_, fun hc w _ => ?_, h⟩
          obtain ⟨h1, h2⟩ := Grd.ob_iff.1 h0 hc
          simp [SV.real, SV.r2, SV.r1, Instr.indexAt, asIntOf, run_underlying hu, h1, h2, hsz, add_mk, mulS_eq]
        · rename_i id A n cap
          split at h
          · rename_i A' e' sz' n' cap' xs eh
            obtain ⟨rfl, h0, h⟩ := h
            refine ⟨_, fun hc w hw => ?_, h⟩
            obtain ⟨h1, h2, h3⟩ := Grd.ob_iff.1 h0 hc
            have hr : w.ownsRow cx.n0 e' sz' (.slice (adr A) n' cap') n' xs := hw.at_ eh
            rcases hr.2 with ⟨hv, hn⟩ | ⟨g, cap', cur, hv, _⟩
            · omega
            · injection hv with hv
              cases A with
              | none => cases hv
              | some p =>
                simp [SV.real, SV.r2, SV.r1, adr, Instr.indexAt, asIntOf, run_underlying hu, h1, h2, hsz, add_mk, mulS_eq]
          · rename_i A' n' sz' xs eh
            obtain ⟨rfl, h0, h⟩ := h
            refine ⟨_, fun hc w hw => ?_, h⟩
            obtain ⟨h1, h2, h3⟩ := Grd.ob_iff.1 h0 hc
            obtain ⟨_, hr⟩ : xs.length = n' * sz' ∧ _ := hw.at_ eh
            obtain ⟨p, rfl, _⟩ := hr (by omega)
            simp [SV.real, SV.r2, SV.r1, adr, Instr.indexAt, asIntOf, run_underlying hu, h1, h2, hsz, add_mk, mulS_eq]
          · exact h.elim
        · rename_i x n cap
          obtain ⟨h0, h⟩ := h
          refine ⟨_, fun hc w _ => ?_, h⟩
          obtain ⟨h1, h2, h3⟩ := Grd.ob_iff.1 h0 hc
          cases x with
          | none => cases h3
          | some a => simp [SV.real, SV.r2, SV.r1, Instr.indexAt, asIntOf, run_underlying hu, h1, h2, hsz, adAt, mulS_eq]
        · exact h.elim
      · exact h.elim
    · rename_i n e _ _ _ et
      have hu := und_arr (hT.at_ et) rfl
      split at h
      · rename_i j ej
        have hsz := size_run hT ej
        split at h
        · obtain ⟨h0, h⟩ := h
          refine ⟨_, fun hc w _ => ?_, h⟩
          obtain ⟨h1, h2⟩ := Grd.ob_iff.1 h0 hc
          simp [SV.real, SV.r2, SV.r1, Instr.indexAt, asIntOf, run_underlying hu, h1, h2, hsz, add_mk, mulS_eq, Instr.sureAddr]
        · exact h.elim
      · exact h.elim
    · exact h.elim
  · exact h.elim
theorem vcLen_sound {cx : Cx} {T : TT} (hT : TOk cx.P T) {t : TypeId} {u : SV} {K : SV → Prop} (h : vcLen T t u K) (ty : TypeId) :
    ∃ v, (∀ w, (Builtin.len_ #[t] ty #[u.real]).run cx.P w = .ok v.real w) ∧ K v := by
  unfold vcLen at h
  split at h
  · rename_i et
    have hu := und_str (hT.at_ et) rfl
    split at h
    · exact ⟨_, fun w => by simp [SV.real, SV.r2, SV.r1, Builtin.len_, run_underlying hu, goInt], h⟩
    · exact h.elim
  · rename_i et
    have hu := und_slice (hT.at_ et) rfl
    split at h
    · exact ⟨_, fun w => by simp [SV.real, SV.r2, SV.r1, Builtin.len_, run_underlying hu, goInt], h⟩
    · exact ⟨_, fun w => by simp [SV.real, SV.r2, SV.r1, Builtin.len_, run_underlying hu, goInt], h⟩
    · exact ⟨_, fun w => by simp [SV.real, SV.r2, SV.r1, Builtin.len_, run_underlying hu, goInt], h⟩
    · exact h.elim
  · rename_i et
    have hu := und_arr (hT.at_ et) rfl
    exact ⟨_, fun w => by simp [SV.real, SV.r2, SV.r1, Builtin.len_, run_underlying hu, goInt], h⟩
  · exact h.elim
theorem getElem?_map_v (us : List Value) : us.map (SV.r1 ∘ SV.v) = us := by
  induction us with
  | nil => rfl
  | cons a l ih => rw [List.map_cons, ih]; rfl
theorem run_load_agg {cx : Cx} {T : TT} (hT : TOk cx.P T) {t : TypeId} {j : TyI} (e : tfind T t = some j) (ha : j.sh.agg = true) {w : World} {ad : Addr} {us : List Value} (hl : us.length = j.size) (hc : ∀ (i : Nat) (u : Value), us[i]? = some u → w.cell? (ad.add i) = some u) :
    (loadVar t ad).run cx.P w = .ok (.agg us.toArray) w := by
  unfold loadVar
  simp only [Sem.run_bind, agg_run hT e, ha, Result.andThen_ok, if_true, size_run hT e, Sem.run_ite]
  rw [← hl, run_loadCells_list w ad us hc]
  rfl
theorem run_load_one {cx : Cx} {T : TT} (hT : TOk cx.P T) {t : TypeId} {j : TyI} (e : tfind T t = some j) (ha : j.sh.agg = false) {w : World} {ad : Addr} {u : Value} (hc : w.cell? ad = some u) : (loadVar t ad).run cx.P w = .ok u w := by
  unfold loadVar
  simp only [Sem.run_bind, agg_run hT e, ha, Result.andThen_ok, Sem.run_ite, run_load, hc]
  simp
theorem row_cell {w : World} {n0 : Nat} {A : Option (Nat × Nat)} {e size n cap : Nat} {xs : List Value} (h : w.ownsRow n0 e size (.slice (adr A) n cap) n xs) {d : Nat} {u : Value} (hu : xs[d]? = some u) :
    w.cell? ⟨(A.getD (0, 0)).1, d + (A.getD (0, 0)).2, none⟩ = some u := by
  rcases h.2 with ⟨hv, hn⟩ | ⟨g, cap', cur, hv, _⟩
  · have := h.1
    rw [hn, Nat.zero_mul] at this
    rw [List.eq_nil_of_length_eq_zero this] at hu
    simp at hu
  · injection hv with hv
    cases A with
    | none => cases hv
    | some p =>
      have hp : p = (g, 0) := by
        simp only [adr, Option.map_some, Option.some.injEq, Addr.mk.injEq, and_true] at hv
        exact Prod.ext hv.1 hv.2
      subst hp
      have := h.cells (g := g) rfl d u hu
      rw [add_mk, Nat.zero_add] at this
      exact this
theorem ro_cell {cx : Cx} {H : Heap} {w : World} (hw : Holds cx H w) {A : Option (Nat × Nat)} {n size : Nat} {xs : List Value} (h : (HB.ro A n size xs).holds cx w) {d : Nat} {u : Value} (hu : xs[d]? = some u) :
    w.cell? ⟨(A.getD (0, 0)).1, d + (A.getD (0, 0)).2, none⟩ = some u := by
  obtain ⟨h1, h2⟩ := h
  have hn : 0 < n := by
    rcases Nat.eq_zero_or_pos n with h0 | h0
    · rw [h0, Nat.zero_mul] at h1
      rw [List.eq_nil_of_length_eq_zero h1] at hu
      simp at hu
    · exact h0
  obtain ⟨p, rfl, hp, hm, hc⟩ := h2 hn
  have := hc d u hu
  rw [Option.getD_some, Nat.add_comm d]
  rw [← this]
  exact World.cell?_of_block (w := cx.W) (hw.keep.block p.1 hp hm)
theorem blk_cell {cx : Cx} {w : World} {g ty : Nat} {cs : List SV} (h : (HB.blk g ty cs).holds cx w) {d : Nat} {x : SV} (hx : cs[d]? = some x) : w.cell? ⟨g, d, none⟩ = some x.r1 := by
  rw [cell_of_row w g d _ ty (0, 0) h.2]
  simp [hx]
theorem vcLoad_sound {cx : Cx} {T : TT} (hT : TOk cx.P T) {H : Heap} {c : Grd} {t : TypeId} {u : SV} {K : SV → Prop} (h : vcLoad T cx H c t u K) :
    ∃ v, (c.holds → ∀ w, Holds cx H w → (Instr.loadAt t u.real).run cx.P w = .ok v.real w) ∧ K v := by
  unfold vcLoad at h
  split at h
  · rename_i j ej
    split at h
    · rename_i id g b off
      have hst : ∀ w, (Instr.loadAt t (SV.p id g b off).real).run cx.P w = (loadVar t ⟨g, off + b, none⟩).run cx.P w := fun w => by
        simp [Instr.loadAt, SV.real, SV.r2, SV.r1, Instr.sureAddr]
      split at h
      · rename_i g' ty cs eh
        obtain ⟨⟨rfl, rfl⟩, h⟩ := h
        cases ha : j.sh.agg
        · rw [ha] at h
          obtain ⟨x, h0, h⟩ := h
          refine ⟨_, fun hc w hw => ?_, h⟩
          obtain ⟨h1, h2⟩ := Grd.ob_iff.1 h0 hc
          rw [hst, SV.real_scal h2]
          exact run_load_one hT ej ha (blk_cell (hw.at_ eh) h1)
        · rw [ha] at h
          obtain ⟨h0, h⟩ := h
          refine ⟨_, fun hc w hw => ?_, h⟩
          have h1 := Grd.ob_iff.1 h0 hc
          rw [hst]
          refine run_load_agg hT ej ha (us := ((cs.drop off).take j.size).map SV.r1) (by simp; omega) ?_
          intro i u hu
          rw [add_mk]
          rw [List.getElem?_map, Option.map_eq_some_iff] at hu
          obtain ⟨x, hx, rfl⟩ := hu
          refine blk_cell (hw.at_ eh) ?_
          rw [List.getElem?_take] at hx
          split at hx
          · rw [List.getElem?_drop] at hx; exact hx
          · cases hx
      · rename_i A e' sz' n' cap' xs eh
        obtain ⟨⟨rfl, rfl⟩, h⟩ := h
        cases ha : j.sh.agg
        · rw [ha] at h
          obtain ⟨x, h0, h⟩ := h
          refine ⟨_, fun hc w hw => ?_, h⟩
          rw [hst]
          exact run_load_one hT ej ha (row_cell (hw.at_ eh) (Grd.ob_iff.1 h0 hc))
        · rw [ha] at h
          obtain ⟨us, h0, h⟩ := h
          refine ⟨_, fun hc w hw => ?_, h⟩
          obtain ⟨h1, h2⟩ := Grd.ob_iff.1 h0 hc
          rw [hst]
          have := run_load_agg hT ej ha (w := w) (ad := ⟨(A.getD (0, 0)).1, off + (A.getD (0, 0)).2, none⟩) (us := us) h1 (fun i u hu => by
            have hi : i < j.size := by rw [← h1]; exact (List.getElem?_eq_some_iff.1 hu).1
            rw [← h2 i hi] at hu
            rw [add_mk, show off + (A.getD (0, 0)).2 + i = off + i + (A.getD (0, 0)).2 by omega]
            exact row_cell (hw.at_ eh) hu)
          rw [this]
          simp [SV.real, SV.r2, List.map_map, getElem?_map_v]
      · rename_i A n' sz' xs eh
        obtain ⟨⟨rfl, rfl⟩, h⟩ := h
        cases ha : j.sh.agg
        · rw [ha] at h
          obtain ⟨x, h0, h⟩ := h
          refine ⟨_, fun hc w hw => ?_, h⟩
          rw [hst]
          exact run_load_one hT ej ha (ro_cell hw (hw.at_ eh) (Grd.ob_iff.1 h0 hc))
        · rw [ha] at h
          obtain ⟨us, h0, h⟩ := h
          refine ⟨_, fun hc w hw => ?_, h⟩
          obtain ⟨h1, h2⟩ := Grd.ob_iff.1 h0 hc
          rw [hst]
          have := run_load_agg hT ej ha (w := w) (ad := ⟨(A.getD (0, 0)).1, off + (A.getD (0, 0)).2, none⟩) (us := us) h1 (fun i u hu => by
            have hi : i < j.size := by rw [← h1]; exact (List.getElem?_eq_some_iff.1 hu).1
            rw [← h2 i hi] at hu
            rw [add_mk, show off + (A.getD (0, 0)).2 + i = off + i + (A.getD (0, 0)).2 by omega]
            exact ro_cell hw (hw.at_ eh) hu)
          rw [this]
          simp [SV.real, SV.r2, List.map_map, getElem?_map_v]
      · exact h.elim
    · rename_i ad
      cases ha : j.sh.agg
      · rw [ha] at h
        obtain ⟨x, h0, h⟩ := h
        refine ⟨_, fun hc w hw => ?_, h⟩
        simp only [Instr.loadAt, SV.real, SV.r2, SV.r1, Instr.sureAddr, Sem.run_bind, Sem.run_pure, Result.andThen_ok]
        exact run_load_one hT ej ha (Grd.ob_iff.1 h0 hc w hw)
      · rw [ha] at h
        obtain ⟨us, h0, h⟩ := h
        refine ⟨_, fun hc w hw => ?_, h⟩
        obtain ⟨h1, h2⟩ := Grd.ob_iff.1 h0 hc
        simp only [Instr.loadAt, SV.real, SV.r2, SV.r1, Instr.sureAddr, Sem.run_bind, Sem.run_pure, Result.andThen_ok]
        rw [run_load_agg hT ej ha (w := w) (ad := ad) (us := us) h1 (h2 w hw)]
        simp [SV.real, SV.r2, List.map_map, getElem?_map_v]
    · exact h.elim
  · exact h.elim
theorem run_part_one {cx : Cx} {T : TT} (hT : TOk cx.P T) {t : TypeId} {j : TyI} (e : tfind T t = some j) (ha : j.sh.agg = false) {cs : Array Value} {off : Nat} {v : Value} (hv : cs[off]? = some v) (w : World) : (part t cs off).run cx.P w = .ok v w := by
  unfold part
  simp only [Sem.run_bind, agg_run hT e, ha, Result.andThen_ok, Sem.run_ite]
  simp [hv]
theorem run_part_agg {cx : Cx} {T : TT} (hT : TOk cx.P T) {t : TypeId} {j : TyI} (e : tfind T t = some j) (ha : j.sh.agg = true) {cs : Array Value} {off : Nat} (w : World) : (part t cs off).run cx.P w = .ok (.agg (cs.extract off (off + j.size))) w := by
  unfold part
  simp only [Sem.run_bind, agg_run hT e, ha, Result.andThen_ok, Sem.run_ite, if_true, size_run hT e, Sem.run_pure]
theorem extract_map (l : List SV) (off n : Nat) : ((l.map SV.r1).toArray).extract off (off + n) = (((l.drop off).take n).map SV.r1).toArray := by
  simp [List.map_take, List.map_drop]
theorem vcField_sound {cx : Cx} {T : TT} (hT : TOk cx.P T) {c : Grd} {t : TypeId} {u : SV} {i : Nat} {K : SV → Prop} (h : vcField T c t u i K) :
    ∃ v, (c.holds → ∀ w, (Instr.field t u.real i).run cx.P w = .ok v.real w) ∧ K v := by
  unfold vcField at h
  split at h
  · rename_i fs _ _ _ e
    obtain ⟨fl, hu, hl⟩ := und_st (hT.at_ e) rfl
    split at h
    · rename_i ft off ef
      have hf : ∃ fld, fl[i]? = some fld ∧ fld.type = ft ∧ fld.offset = off := by
        rw [fget_eq, ← hl, List.getElem?_map, Option.map_eq_some_iff] at ef
        obtain ⟨fld, h1, h2⟩ := ef
        simp only [Prod.mk.injEq] at h2
        exact ⟨fld, by simpa using h1, h2⟩
      obtain ⟨fld, h1, h2, h3⟩ := hf
      split at h
      · rename_i j ej
        split at h
        · rename_i l
          have hst : ∀ w, (Instr.field t (SV.a l).real i).run cx.P w = (part ft (l.map SV.r1).toArray off).run cx.P w := fun w => by
            simp [Instr.field, run_underlying hu, h1, SV.real, SV.r2, asAgg, h2, h3]
          cases ha : j.sh.agg
          · rw [ha] at h
            obtain ⟨x, h0, h⟩ := h
            refine ⟨_, fun hc w => ?_, h⟩
            obtain ⟨h4, h5⟩ := Grd.ob_iff.1 h0 hc
            rw [hst, SV.real_scal h5]
            exact run_part_one hT ej ha (by simp [h4]) w
          · rw [ha] at h
            refine ⟨_, fun hc w => ?_, h⟩
            rw [hst, run_part_agg hT ej ha, extract_map]
            rfl
        · exact h.elim
      · exact h.elim
    · exact h.elim
  · exact h.elim
theorem vcIndex_sound {cx : Cx} {T : TT} (hT : TOk cx.P T) {c : Grd} {t : TypeId} {u i : SV} {K : SV → Prop} (h : vcIndex T c t u i K) :
    ∃ v, (c.holds → ∀ w, (Instr.index t u.real i.real).run cx.P w = .ok v.real w) ∧ K v := by
  unfold vcIndex at h
  split at h
  · rename_i k i
    split at h
    · rename_i et
      have hu := und_str (hT.at_ et) rfl
      split at h
      · rename_i s
        obtain ⟨h0, h⟩ := h
        refine ⟨_, fun hc w => ?_, h⟩
        have h1 := Grd.ob_iff.1 h0 hc
        have h2 : i.toNat < s.size := by omega
        simp only [SV.real, SV.r2, SV.r1]
        rw [run_index_string w t s k i hu, dif_pos h1]
        unfold bt
        rw [dif_pos h2]
      · exact h.elim
    · rename_i n e _ _ _ et
      have hu := und_arr (hT.at_ et) rfl
      split at h
      · rename_i j ej
        split at h
        · rename_i l
          have hst : 0 ≤ i → i < n → ∀ w, (Instr.index t (SV.a l).real (SV.v (.int k i)).real).run cx.P w = (part e (l.map SV.r1).toArray (i.toNat * j.size)).run cx.P w := fun h1 h2 w => by
            simp [Instr.index, run_underlying hu, SV.real, SV.r2, SV.r1, asIntOf, h1, h2, size_run hT ej]
          cases ha : j.sh.agg
          · rw [ha] at h
            obtain ⟨x, h0, h⟩ := h
            refine ⟨_, fun hc w => ?_, h⟩
            obtain ⟨h4, h5, h6, h7⟩ := Grd.ob_iff.1 h0 hc
            rw [hst h4 h5, SV.real_scal h7]
            exact run_part_one hT ej ha (by simp [h6]) w
          · rw [ha] at h
            obtain ⟨h0, h⟩ := h
            refine ⟨_, fun hc w => ?_, h⟩
            obtain ⟨h4, h5⟩ := Grd.ob_iff.1 h0 hc
            rw [hst h4 h5, run_part_agg hT ej ha, extract_map]
            rfl
        · exact h.elim
      · exact h.elim
    · exact h.elim
  · exact h.elim
end Go.Proofs.YtdohcglpcgahaaaGreatDoor.Sat
namespace Go.Proofs.YtdohcglpcgahaaaGreatDoor.Sat
open Go Go.RowKit Go.PlainAid
def nilB : SV → Option Bool
  | .v (.slice none _ _) => some true
  | .v (.slice (some _) _ _) => some false
  | .s _ _ _ _ _ _ => some false
  | .o _ A _ _ => some A.isNone
  | _ => none
def vcNil2 (T : TT) (op : BinOp) (t : TypeId) (u v : SV) (K : SV → Prop) : Prop :=
  match tfind T t with
  | some ⟨.slice _, _, _, _⟩ => match v with
    | .v (.slice none _ _) => match nilB u with
      | some b => match op with
        | .eql => K (.v (.bool b))
        | .neq => K (.v (.bool (!b)))
        | _ => False
      | none => False
    | _ => False
  | _ => False
def bv : Option SV → Int → Option Int
  | none, d => some d
  | some (.v (.int _ i)), _ => some i
  | _, _ => none
def vcBin (T : TT) (c : Grd) (op : BinOp) (t : TypeId) (u v : SV) (K : SV → Prop) : Prop :=
  match u, v with
  | .v (.int k a), .v (.int k' b) => vcBinI c op k a k' b K
  | .v (.string a), .v (.string b) => vcBinS c op a b K
  | .v (.bool a), .v (.bool b) => vcBinB T op t a b K
  | u, v => vcNil2 T op t u v K
def vcSlice (T : TT) (c : Grd) (t : TypeId) (u : SV) (lo hi : Option SV) (K : SV → Prop) : Prop :=
  match tfind T t with
  | some ⟨.str, _, _, _⟩ => match u with
    | .v (.string s) => match bv lo 0, bv hi s.size with
      | some l, some h => c.ob (0 ≤ l ∧ l ≤ h ∧ h ≤ s.size) ∧ K (.v (.string (s.extract l.toNat h.toNat)))
      | _, _ => False
    | _ => False
  | some ⟨.slice e, _, _, _⟩ => match tfind T e with
    | some j => match u with
      | .s id g b off n cap => match lo, bv hi n with
        | none, some h => c.ob (0 ≤ h ∧ h ≤ cap) ∧ K (.s id g b off h.toNat cap)
        | some (.v (.int _ l)), some h => (c.ob (0 ≤ l ∧ l ≤ h ∧ h ≤ cap ∧ l < cap) ∧ K (.s id g b (off + mulS l.toNat j.size) (h - l).toNat (cap - l.toNat))) ∨
            (c.ob (0 ≤ l ∧ l ≤ h ∧ h ≤ cap) ∧ K (.s id g b (if cap = l.toNat then off else off + mulS l.toNat j.size) (h - l).toNat (cap - l.toNat)))
        | _, _ => False
      | .o id A n cap => match lo, bv hi n with
        | none, some h => c.ob (0 ≤ h ∧ h ≤ cap) ∧ K (.o id A h.toNat cap)
        | some (.v (.int _ l)), some h => (c.ob (0 ≤ l ∧ l ≤ h ∧ h ≤ cap ∧ l < cap ∧ A.isSome = true) ∧ K (.s id (A.getD (0, 0)).1 (A.getD (0, 0)).2 (mulS l.toNat j.size) (h - l).toNat (cap - l.toNat))) ∨
            (c.ob (l = 0 ∧ 0 ≤ h ∧ h ≤ cap) ∧ K (.o id A h.toNat cap)) ∨
            (c.ob (0 ≤ l ∧ l ≤ h ∧ h ≤ cap ∧ A.isSome = true) ∧ K (.s id (A.getD (0, 0)).1 (A.getD (0, 0)).2 (if cap = l.toNat then 0 else mulS l.toNat j.size) (h - l).toNat (cap - l.toNat)))
        | _, _ => False
      | .v (.slice x n cap) => match bv lo 0, bv hi n with
        | some l, some h => (c.ob (l = 0 ∧ h = 0 ∧ u.real = .slice none 0 0) ∧ K (.v (.slice none 0 0))) ∨
            (c.ob (0 ≤ l ∧ l ≤ h ∧ h ≤ cap) ∧ K (.v (.slice (if cap = l.toNat then x else x.map (·.add (l.toNat * j.size))) (h.toNat - l.toNat) (cap - l.toNat))))
        | _, _ => False
      | _ => False
    | none => False
  | some ⟨.arr n e, _, _, _⟩ => match tfind T e with
    | some j => match u with
      | .p id g b off => match bv lo 0, bv hi n with
        | some l, some h => c.ob (0 ≤ l ∧ l ≤ h ∧ h ≤ n ∧ l < n) ∧ K (.s id g b (off + mulS l.toNat j.size) (h - l).toNat (n - l.toNat))
        | _, _ => False
      | _ => False
    | none => False
  | _ => False
def one : SV → Bool
  | .v (.agg _) => false
  | .v (.tuple _) => false
  | .a _ => false
  | .t _ => false
  | _ => true
theorem one_spec {x : SV} (h : one x = true) : x.scal = true ∧ x.real = x.r1 ∧ x.r1.cells = #[x.r1] ∧ x.r1.oneCell' = true := by
  cases x with
  | v y => cases y <;> first | exact ⟨rfl, rfl, rfl, rfl⟩ | cases h
  | p _ _ _ _ => exact ⟨rfl, rfl, rfl, rfl⟩
  | s _ _ _ _ _ _ => exact ⟨rfl, rfl, rfl, rfl⟩
  | o _ _ _ _ => exact ⟨rfl, rfl, rfl, rfl⟩
  | a _ => cases h
  | t _ => cases h
  | fn _ _ _ => exact ⟨rfl, rfl, rfl, rfl⟩
def vcParts (total : Nat) (place : Nat → Option (Nat × Nat)) (l : List SV) : List (Nat × SV) → (List SV → Prop) → Prop
  | [], K => K l
  | (i, v) :: ps, K => match place i with
    | some (off, sz) => bif Nat.ble (off + sz) total then (match v with
      | .a vs => vs.length = sz ∧ vcParts total place (l.take off ++ vs ++ l.drop (off + sz)) ps K
      | x => bif one x && Nat.beq sz 1 then vcParts total place (l.set off x) ps K else False) else False
    | none => False
def svCells (v : Value) : List SV := v.cells.toList.map .v
def evP (f : Env) (c : Grd) : List (Nat × Operand) → (List (Nat × SV) → Prop) → Prop
  | [], K => K []
  | (i, x) :: l, K => ev f c x fun v => evP f c l fun vs => K ((i, v) :: vs)
def placeSt (T : TT) (fs : List (Nat × Nat)) (i : Nat) : Option (Nat × Nat) :=
  match fget fs i with
  | some (ft, off) => match tfind T ft with
    | some j => some (off, j.size)
    | none => none
  | none => none
def vcBuild (T : TT) (t : TypeId) (ps : List (Nat × SV)) (K : SV → Prop) : Prop :=
  match tfind T t with
  | some ⟨.st fs, sz, _, z⟩ => bif fs.all fun x => (tfind T x.1).isSome then vcParts sz (placeSt T fs) (svCells z) ps fun l => K (.a l) else False
  | some ⟨.arr _ e, sz, _, z⟩ => match tfind T e with
    | some j => vcParts sz (fun i => some (mulS i j.size, j.size)) (svCells z) ps fun l => K (.a l)
    | none => False
  | _ => False
theorem run_equal_slice_nil {P : Program} {t e : TypeId} (h : P.underlying t = some (.slice e)) (a : Option Addr) (n c m d : Nat) (w : World) :
    (Op.equal t (.slice a n c) (.slice none m d)).run P w = .ok a.isNone w := by
  simp only [Op.equal, show Op.maxDepth = 9999 + 1 from rfl]
  unfold Op.equalIn
  simp only [Sem.run_bind, run_underlying h, Result.andThen_ok]
  cases a <;> rfl
theorem run_eql_nil {P : Program} {t e : TypeId} (h : P.underlying t = some (.slice e)) (a : Option Addr) (n c m d : Nat) (w : World) :
    (binOp .eql t (.slice a n c) (.slice none m d)).run P w = .ok (.bool a.isNone) w := by
  show ((do pure (Value.bool (← Op.equal t (.slice a n c) (.slice none m d)))) : Sem Value).run P w = _
  simp only [Sem.run_bind, run_equal_slice_nil h, Result.andThen_ok, Sem.run_pure]
theorem run_neq_nil {P : Program} {t e : TypeId} (h : P.underlying t = some (.slice e)) (a : Option Addr) (n c m d : Nat) (w : World) :
    (binOp .neq t (.slice a n c) (.slice none m d)).run P w = .ok (.bool (!a.isNone)) w := by
  show ((do pure (Value.bool (!(← Op.equal t (.slice a n c) (.slice none m d))))) : Sem Value).run P w = _
  simp only [Sem.run_bind, run_equal_slice_nil h, Result.andThen_ok, Sem.run_pure]
theorem nilB_real {u : SV} {b : Bool} (h : nilB u = some b) : ∃ a n c, u.real = .slice a n c ∧ a.isNone = b := by
  unfold nilB at h
  split at h
  all_goals first
  | (injection h with h; subst h; exact ⟨_, _, _, rfl, rfl⟩)
  | (injection h with h; subst h; refine ⟨_, _, _, rfl, ?_⟩; rename_i A _ _; cases A <;> rfl)
  | cases h
theorem bounds_run {P : Program} (sl : Bool) (len cap : Nat) {lo hi : Option SV} {l h : Int} (hl : bv lo 0 = some l) (hh : bv hi len = some h) (h0 : 0 ≤ l) (h1 : l ≤ h) (h2 : h ≤ cap) (w : World) :
    (Instr.sliceBounds sl len cap (lo.map SV.real) (hi.map SV.real) none).run P w = .ok (l.toNat, h.toNat, cap) w := by
  have hb : ∀ (k : IntKind) (i : Int) (y : Nat) (code : BoundsCode), 0 ≤ i → i ≤ y → (Instr.sliceBound (.int k i) y code).run P w = .ok i.toNat w := fun k i y code a b => run_sliceBound w k i y code a b
  have e1 : (h.toNat : Int) = h := by omega
  unfold bv at hl hh
  split at hl
  · split at hh
    · injection hl with hl; injection hh with hh; subst hl; subst hh
      simp [Instr.sliceBounds]
    · injection hl with hl; injection hh with hh; subst hl; subst hh
      simp only [Instr.sliceBounds, Option.map_some, Option.map_none, SV.real, SV.r2, SV.r1, Sem.run_bind, Sem.run_pure, Result.andThen_ok]
      rw [hb _ _ _ _ (by omega) h2]
      rfl
    · cases hh
  · split at hh
    · injection hl with hl; injection hh with hh; subst hl; subst hh
      simp only [Instr.sliceBounds, Option.map_some, Option.map_none, SV.real, SV.r2, SV.r1, Sem.run_bind, Sem.run_pure, Result.andThen_ok]
      rw [hb _ _ _ _ h0 h1]
      rfl
    · injection hl with hl; injection hh with hh; subst hl; subst hh
      simp only [Instr.sliceBounds, Option.map_some, SV.real, SV.r2, SV.r1, Sem.run_bind, Sem.run_pure, Result.andThen_ok]
      rw [hb _ _ _ _ (by omega) h2]
      simp only [Result.andThen_ok]
      rw [hb _ _ _ _ h0 (by omega)]
      rfl
    · cases hh
  · cases hl
theorem vcNil2_sound {cx : Cx} {T : TT} (hT : TOk cx.P T) {op : BinOp} {t : TypeId} {u v : SV} {K : SV → Prop} (h : vcNil2 T op t u v K) :
    ∃ x, (∀ w, (binOp op t u.real v.real).run cx.P w = .ok x w) ∧ K (.v x) := by
  unfold vcNil2 at h
  split at h
  · rename_i et
    have hu := und_slice (hT.at_ et) rfl
    split at h
    · split at h
      · rename_i b eb
        obtain ⟨a, n, c, hr, ha⟩ := nilB_real eb
        split at h
        · exact ⟨_, fun w => by rw [hr, ← ha]; exact run_eql_nil hu a n c _ _ w, h⟩
        · exact ⟨_, fun w => by rw [hr, ← ha]; exact run_neq_nil hu a n c _ _ w, h⟩
        · exact h.elim
      · exact h.elim
    · exact h.elim
  · exact h.elim
theorem vcSlice_sound {cx : Cx} {T : TT} (hT : TOk cx.P T) {H : Heap} {c : Grd} {t : TypeId} {u : SV} {lo hi : Option SV} {K : SV → Prop} (h : vcSlice T c t u lo hi K) :
    ∃ v, (c.holds → ∀ w, Holds cx H w → (Instr.sliceAt t u.real (lo.map SV.real) (hi.map SV.real) none).run cx.P w = .ok v.real w) ∧ K v := by
  unfold vcSlice at h
  split at h
  · rename_i et
    have hu := und_str (hT.at_ et) rfl
    split at h
    · rename_i s
      split at h
      · rename_i l hh el eh
        obtain ⟨h0, h⟩ := h
        refine ⟨_, fun hc w _ => ?_, h⟩
        obtain ⟨h1, h2, h3⟩ := Grd.ob_iff.1 h0 hc
        have hb := bounds_run (P := cx.P) false s.size s.size el eh h1 h2 h3 w
        simp [Instr.sliceAt, run_underlying hu, SV.real, SV.r2, SV.r1, Instr.slice] at hb ⊢
        simp [hb]
      · exact h.elim
    · exact h.elim
  · rename_i e _ _ _ et
    have hu := und_slice (hT.at_ et) rfl
    split at h
    · rename_i j ej
      have hsz := size_run hT ej
      have hst : ∀ (a : Option Addr) (n cap : Nat) (l h : Int) w, bv lo 0 = some l → bv hi n = some h → 0 ≤ l → l ≤ h → h ≤ cap →
          (Instr.sliceAt t (.slice a n cap) (lo.map SV.real) (hi.map SV.real) none).run cx.P w = .ok (.slice (if cap = l.toNat then a else a.map (·.add (l.toNat * j.size))) (h.toNat - l.toNat) (cap - l.toNat)) w := by
        intro a n cap l h w el eh h1 h2 h3
        have hb := bounds_run (P := cx.P) true n cap el eh h1 h2 h3 w
        simp only [Instr.sliceAt, Sem.run_bind, run_underlying hu, Result.andThen_ok, Instr.slice, hb, hsz, Sem.run_pure]
      split at h
      · rename_i id g b off n cap
        split at h
        · rename_i hh eh
          obtain ⟨h0, h⟩ := h
          refine ⟨_, fun hc w _ => ?_, h⟩
          obtain ⟨h1, h2⟩ := Grd.ob_iff.1 h0 hc
          show (Instr.sliceAt t (.slice (some ⟨g, off + b, none⟩) n cap) _ _ none).run cx.P w = _
          rw [hst _ _ _ 0 hh w rfl eh (by omega) h1 h2]
          simp [SV.real, SV.r2, SV.r1, add_mk]
        · rename_i k l hh eh
          rcases h with ⟨h0, h⟩ | ⟨h0, h⟩
          · refine ⟨_, fun hc w _ => ?_, h⟩
            obtain ⟨h1, h2, h3, h4⟩ := Grd.ob_iff.1 h0 hc
            show (Instr.sliceAt t (.slice (some ⟨g, off + b, none⟩) n cap) _ _ none).run cx.P w = _
            rw [hst _ _ _ l hh w rfl eh h1 h2 h3, if_neg (by omega)]
            simp only [SV.real, SV.r2, SV.r1, add_mk, mulS_eq, Option.map_some]
            rw [show off + b + l.toNat * j.size = off + l.toNat * j.size + b by omega, show (hh - l).toNat = hh.toNat - l.toNat by omega]
          · refine ⟨_, fun hc w _ => ?_, h⟩
            obtain ⟨h1, h2, h3⟩ := Grd.ob_iff.1 h0 hc
            show (Instr.sliceAt t (.slice (some ⟨g, off + b, none⟩) n cap) _ _ none).run cx.P w = _
            rw [hst _ _ _ l hh w rfl eh h1 h2 h3, show (hh - l).toNat = hh.toNat - l.toNat by omega]
            simp only [SV.real, SV.r2, SV.r1, add_mk, mulS_eq, Option.map_some]
            split
            · rfl
            · rw [show off + b + l.toNat * j.size = off + l.toNat * j.size + b by omega]
        · exact h.elim
      · rename_i id A n cap
        split at h
        · rename_i hh eh
          obtain ⟨h0, h⟩ := h
          refine ⟨_, fun hc w _ => ?_, h⟩
          obtain ⟨h1, h2⟩ := Grd.ob_iff.1 h0 hc
          show (Instr.sliceAt t (.slice (adr A) n cap) _ _ none).run cx.P w = _
          rw [hst _ _ _ 0 hh w rfl eh (by omega) h1 h2]
          simp only [SV.real, SV.r2, SV.r1]
          cases A <;> simp [adr, add_mk]
        · rename_i k l hh eh
          rcases h with ⟨h0, h⟩ | ⟨h0, h⟩ | ⟨h0, h⟩
          · refine ⟨_, fun hc w _ => ?_, h⟩
            obtain ⟨h1, h2, h3, h4, h5⟩ := Grd.ob_iff.1 h0 hc
            show (Instr.sliceAt t (.slice (adr A) n cap) _ _ none).run cx.P w = _
            rw [hst _ _ _ l hh w rfl eh h1 h2 h3, if_neg (by omega)]
            cases A with
            | none => cases h5
            | some p =>
              simp only [SV.real, SV.r2, SV.r1, adr, add_mk, mulS_eq, Option.map_some, Option.getD_some]
              rw [show p.2 + l.toNat * j.size = l.toNat * j.size + p.2 by omega, show (hh - l).toNat = hh.toNat - l.toNat by omega]
          · refine ⟨_, fun hc w _ => ?_, h⟩
            obtain ⟨h1, h2, h3⟩ := Grd.ob_iff.1 h0 hc
            show (Instr.sliceAt t (.slice (adr A) n cap) _ _ none).run cx.P w = _
            rw [hst _ _ _ l hh w rfl eh (by omega) (by omega) h3, h1]
            simp only [SV.real, SV.r2, SV.r1]
            cases A <;> simp [adr, add_mk]
          · refine ⟨_, fun hc w _ => ?_, h⟩
            obtain ⟨h1, h2, h3, h5⟩ := Grd.ob_iff.1 h0 hc
            show (Instr.sliceAt t (.slice (adr A) n cap) _ _ none).run cx.P w = _
            rw [hst _ _ _ l hh w rfl eh h1 h2 h3, show (hh - l).toNat = hh.toNat - l.toNat by omega]
            cases A with
            | none => cases h5
            | some p =>
              simp only [SV.real, SV.r2, SV.r1, adr, add_mk, mulS_eq, Option.map_some, Option.getD_some]
              split
              · rw [Nat.zero_add]
              · rw [show p.2 + l.toNat * j.size = l.toNat * j.size + p.2 by omega]
        · exact h.elim
      · rename_i x0 n0 c0
        split at h
        · rename_i l hh el eh
          rcases h with ⟨h0, h⟩ | ⟨h0, h⟩
          · refine ⟨_, fun hc w _ => ?_, h⟩
            obtain ⟨rfl, rfl, h3⟩ := Grd.ob_iff.1 h0 hc
            have h4 : x0 = none ∧ n0 = 0 ∧ c0 = 0 := by
              injection h3 with a b c
              exact ⟨a, b, c⟩
            obtain ⟨rfl, rfl, rfl⟩ := h4
            rw [h3, hst none 0 0 0 0 w el eh (by omega) (by omega) (by omega)]
            rfl
          · refine ⟨_, fun hc w _ => ?_, h⟩
            obtain ⟨h1, h2, h3⟩ := Grd.ob_iff.1 h0 hc
            exact hst x0 n0 c0 l hh w el eh h1 h2 h3
        · exact h.elim
      · exact h.elim
    · exact h.elim
  · rename_i n e _ _ _ et
    have hu := und_arr (hT.at_ et) rfl
    split at h
    · rename_i j ej
      have hsz := size_run hT ej
      split at h
      · rename_i id g b off
        split at h
        · rename_i l hh el eh
          obtain ⟨h0, h⟩ := h
          refine ⟨_, fun hc w _ => ?_, h⟩
          obtain ⟨h1, h2, h3, h4⟩ := Grd.ob_iff.1 h0 hc
          have hb := bounds_run (P := cx.P) false n n el eh h1 h2 h3 w
          simp only [Instr.sliceAt, Sem.run_bind, run_underlying hu, Result.andThen_ok, SV.real, SV.r2, SV.r1, Instr.sureAddr, Sem.run_pure, hb, hsz]
          rw [if_neg (by omega), add_mk, mulS_eq, show off + b + l.toNat * j.size = off + l.toNat * j.size + b by omega, show (hh - l).toNat = hh.toNat - l.toNat by omega]
        · exact h.elim
      · exact h.elim
    · exact h.elim
  · exact h.elim
end Go.Proofs.YtdohcglpcgahaaaGreatDoor.Sat
namespace Go.Proofs.YtdohcglpcgahaaaGreatDoor.Sat
open Go Go.RowKit Go.PlainAid
theorem fold_set (cells vs : List Value) (off : Nat) (h : off + vs.length ≤ cells.length) (k : Nat) :
    ((vs.zipIdx k).foldl (fun (cs : Array Value) (p : Value × Nat) => cs.setIfInBounds (off + p.2 - k) p.1) cells.toArray).toList = cells.take off ++ vs ++ cells.drop (off + vs.length) := by
  induction vs generalizing cells off k with
  | nil => simp
  | cons x vs ih =>
    rw [List.zipIdx_cons, List.foldl_cons]
    have e1 : (cells.toArray.setIfInBounds (off + (x, k).2 - k) (x, k).1) = (cells.set off x).toArray := by
      simp
    rw [e1]
    have e2 : ∀ cs : Array Value, ((vs.zipIdx (k + 1)).foldl (fun (cs : Array Value) (p : Value × Nat) => cs.setIfInBounds (off + p.2 - k) p.1) cs) = ((vs.zipIdx (k + 1)).foldl (fun (cs : Array Value) (p : Value × Nat) => cs.setIfInBounds ((off + 1) + p.2 - (k + 1)) p.1) cs) := by
      intro cs
      congr 1
      funext cs p
      rw [show off + p.2 - k = (off + 1) + p.2 - (k + 1) by omega]
    rw [e2, ih (cells.set off x) (off + 1) (by simp at h ⊢; omega) (k + 1)]
    simp only [List.length_cons] at h
    have ho : off < cells.length := by omega
    rw [List.take_set, List.drop_set_of_lt (by omega), List.length_cons, show off + 1 + vs.length = off + (vs.length + 1) by omega]
    congr 1
    rw [List.take_succ_eq_append_getElem ho, List.set_append_right _ _ (by simp [Nat.min_eq_left (Nat.le_of_lt ho)])]
    simp [Nat.min_eq_left (Nat.le_of_lt ho)]
theorem fold_set0 (cells vs : List Value) (off : Nat) (h : off + vs.length ≤ cells.length) :
    (vs.toArray.zipIdx.foldl (fun (cs : Array Value) (p : Value × Nat) => cs.setIfInBounds (off + p.2) p.1) cells.toArray) = (cells.take off ++ vs ++ cells.drop (off + vs.length)).toArray := by
  apply Array.toList_inj.1
  have := fold_set cells vs off h 0
  simp only [Nat.sub_zero] at this
  simpa using this
theorem fill_sound (total : Nat) (place : Nat → Option (Nat × Nat)) : ∀ (ps : List (Nat × SV)) (l : List SV) (K : List SV → Prop), l.length = total → vcParts total place l ps K →
    ∃ l', Instr.fill place (l.map SV.r1).toArray (ps.map fun p => (p.1, p.2.real)) = some (l'.map SV.r1).toArray ∧ K l' := by
  intro ps
  induction ps with
  | nil => intro l K _ h; exact ⟨l, rfl, h⟩
  | cons p ps ih =>
    obtain ⟨i, v⟩ := p
    intro l K hl h
    unfold vcParts at h
    split at h
    · rename_i off sz ep
      cases hb : Nat.ble (off + sz) total
      · rw [hb] at h; exact h.elim
      · rw [hb] at h
        have hle : off + sz ≤ total := Nat.le_of_ble_eq_true hb
        dsimp only [cond] at h
        split at h
        · rename_i vs
          obtain ⟨h1, h⟩ := h
          obtain ⟨l', h2, h3⟩ := ih _ _ (by simp; omega) h
          refine ⟨l', ?_, h3⟩
          rw [← h2]
          have hv : (SV.a vs).real.cells = (vs.map SV.r1).toArray := rfl
          simp only [List.map_cons, Instr.fill, ep]
          rw [if_neg (by rw [hv]; simp; omega), hv]
          have := fold_set0 (l.map SV.r1) (vs.map SV.r1) off (by simp; omega)
          rw [this]
          simp [h1, List.map_take, List.map_drop]
        · rename_i hna
          cases hz : (one v && Nat.beq sz 1)
          · rw [hz] at h; exact h.elim
          · rw [hz] at h
            rw [Bool.and_eq_true] at hz
            obtain rfl := Nat.eq_of_beq_eq_true hz.2
            obtain ⟨_, hr, hc, _⟩ := one_spec hz.1
            obtain ⟨l', h2, h3⟩ := ih _ _ (by simp; omega) h
            refine ⟨l', ?_, h3⟩
            rw [← h2]
            rw [← hr] at hc
            simp only [List.map_cons, Instr.fill, ep]
            rw [if_neg (by rw [hc]; simp; omega), hc]
            simp [List.map_set, hr]
    · exact h.elim
theorem evP_sound {cx : Cx} {f : Env} {a : Act} (hf : Fits cx f a) {c : Grd} {l : List (Nat × Operand)} {K : List (Nat × SV) → Prop} (h : evP f c l K) :
    ∃ vs, (c.holds → l.map (fun p => (p.1, a.eval p.2)) = vs.map (fun p => (p.1, p.2.real))) ∧ K vs := by
  induction l generalizing K with
  | nil => exact ⟨[], fun _ => rfl, h⟩
  | cons x l ih =>
    obtain ⟨i, x⟩ := x
    obtain ⟨v, hv, h⟩ := ev_sound hf h
    obtain ⟨vs, hvs, h⟩ := ih h
    exact ⟨(i, v) :: vs, fun hc => by rw [List.map_cons, List.map_cons, hv hc, hvs hc], h⟩
theorem map_svCells (v : Value) : ((svCells v).map SV.r1).toArray = v.cells := by
  unfold svCells
  simp [List.map_map, getElem?_map_v]
theorem places_run {cx : Cx} {T : TT} (hT : TOk cx.P T) (fs : List Field) (w : World) (h : ∀ f ∈ fs, ∃ j, tfind T f.type = some j) :
    (fs.mapM (m := Sem) fun f => do pure (f.offset, ← sizeOf f.type)).run cx.P w = .ok (fs.map fun f => (f.offset, ((tfind T f.type).map (·.size)).getD 0)) w := by
  induction fs with
  | nil => simp
  | cons f fs ih =>
    obtain ⟨j, hj⟩ := h f (List.mem_cons_self ..)
    have := ih fun g hg => h g (List.mem_cons_of_mem _ hg)
    simp only [List.mapM_cons, Sem.run_bind, size_run hT hj, Result.andThen_ok, Sem.run_pure, this]
    rw [List.map_cons, hj]; rfl
theorem vcBuild_sound {cx : Cx} {T : TT} (hT : TOk cx.P T) {t : TypeId} {ps : List (Nat × SV)} {K : SV → Prop} (h : vcBuild T t ps K) :
    ∃ v, (∀ w, (Instr.build t (ps.map fun p => (p.1, p.2.real)).toArray).run cx.P w = .ok v.real w) ∧ K v := by
  unfold vcBuild at h
  split at h
  · rename_i fs sz _ z et
    obtain ⟨fl, hu, hl⟩ := und_st (hT.at_ et) rfl
    have hz := (hT.at_ et).run_zero
    have hsz := (hT.at_ et).2.2
    cases hfs : (fs.all fun x => (tfind T x.1).isSome)
    · rw [hfs] at h; exact h.elim
    rw [hfs] at h
    have hall : ∀ x ∈ fs, ∃ j, tfind T x.1 = some j := fun x hx => Option.isSome_iff_exists.1 (List.all_eq_true.1 hfs x hx)
    obtain ⟨l', h2, h3⟩ := fill_sound sz (placeSt T fs) ps (svCells z) _ (by unfold svCells; simpa using hsz) h
    refine ⟨_, fun w => ?_, h3⟩
    rw [map_svCells] at h2
    have hp : ∀ w, (fl.mapM (m := Sem) fun f => do pure (f.offset, ← sizeOf f.type)).run cx.P w = .ok (fl.toList.map fun f => (f.offset, ((tfind T f.type).map (·.size)).getD 0)).toArray w := by
      intro w
      rw [Array.mapM_eq_mapM_toList]
      rw [Sem.run_map, places_run hT fl.toList w]
      · rfl
      · intro f hf
        obtain ⟨j, hj⟩ := hall (f.type, f.offset) (by rw [← hl]; exact List.mem_map_of_mem hf)
        exact ⟨j, hj⟩
    have hpl : ((fl.toList.map fun f => (f.offset, ((tfind T f.type).map (·.size)).getD 0)).toArray[·]?) = placeSt T fs := by
      funext i
      unfold placeSt
      rw [fget_eq, ← hl]
      simp only [List.getElem?_toArray, List.getElem?_map]
      cases hi : fl.toList[i]? with
      | none => rfl
      | some f =>
        obtain ⟨j, hj⟩ := hall (f.type, f.offset) (by rw [← hl]; exact List.mem_map_of_mem (List.mem_of_getElem? hi))
        simp only [Option.map_some]
        rw [hj]; rfl
    unfold Instr.build
    simp only [Sem.run_bind, hz, Result.andThen_ok, run_underlying hu, hp]
    rw [hpl, h2]
    rfl
  · rename_i n e sz _ z et
    have hu := und_arr (hT.at_ et) rfl
    have hz := (hT.at_ et).run_zero
    have hsz := (hT.at_ et).2.2
    split at h
    · rename_i j ej
      obtain ⟨l', h2, h3⟩ := fill_sound sz _ ps (svCells z) _ (by unfold svCells; simpa using hsz) h
      refine ⟨_, fun w => ?_, h3⟩
      rw [map_svCells] at h2
      simp only [mulS_eq] at h2
      unfold Instr.build
      simp only [Sem.run_bind, hz, Result.andThen_ok, run_underlying hu, size_run hT ej]
      rw [h2]
      rfl
    · exact h.elim
  · exact h.elim
theorem vcPick_sound {cx : Cx} {f : Env} {a : Act} (hf : Fits cx f a) {c : Grd} {cc x y : Operand} {K : SV → Prop} (h : vcPick f c cc x y K) :
    ∃ v : SV, (c.holds → ∃ b, a.eval cc = .bool b ∧ (if b then a.eval x else a.eval y) = v.real) ∧ K v := by
  unfold vcPick at h
  obtain ⟨u, hu, h⟩ := ev_sound hf h
  split at h
  · rename_i b
    split at h
    · rename_i y
      obtain ⟨v, hv, h⟩ := ev_sound hf h
      split at h
      · rename_i z
        refine ⟨_, fun hc => ⟨b, hu hc, ?_⟩, h⟩
        cases b
        · exact hv (Grd.and_holds.2 ⟨hc, rfl⟩)
        · rfl
      · exact h.elim
    · rename_i x _
      obtain ⟨v, hv, h⟩ := ev_sound hf h
      split at h
      · rename_i z
        refine ⟨_, fun hc => ⟨b, hu hc, ?_⟩, h⟩
        cases b
        · rfl
        · exact hv (Grd.and_holds.2 ⟨hc, rfl⟩)
      · exact h.elim
    · obtain ⟨v, hv, h⟩ := ev_sound hf h
      obtain ⟨v', hv', h⟩ := ev_sound hf h
      cases b
      · exact ⟨_, fun hc => ⟨false, hu hc, hv' (Grd.and_holds.2 ⟨hc, rfl⟩)⟩, h.2 rfl⟩
      · exact ⟨_, fun hc => ⟨true, hu hc, hv (Grd.and_holds.2 ⟨hc, rfl⟩)⟩, h.1 rfl⟩
  · exact h.elim
theorem vcExtract_sound {P : Program} {c : Grd} {u : SV} {i : Nat} {K : SV → Prop} (h : vcExtract c u i K) :
    ∃ v, (c.holds → ∀ w, (Instr.extract u.real i).run P w = .ok v.real w) ∧ K v := by
  unfold vcExtract at h
  split at h
  · rename_i l
    split at h
    · exact h.elim
    · rename_i v hnt e
      refine ⟨v, fun _ w => ?_, h⟩
      rw [lget_eq] at e
      have hv : v.real = v.r2 := SV.real_nt fun l hl => hnt l (by rw [hl] at e; exact hl)
      simp only [Instr.extract, SV.real, List.getElem?_toArray, List.getElem?_map, e, Option.map_some]
      show Result.ok _ _ = _
      rw [← hv]
    · exact h.elim
  · rename_i vs
    obtain ⟨x, h0, h⟩ := h
    refine ⟨_, fun hc w => ?_, h⟩
    have := Grd.ob_iff.1 h0 hc
    simp [Instr.extract, SV.real, SV.r2, SV.r1, this]
  · exact h.elim
theorem vcUn_sound {P : Program} {c : Grd} {op : UnOp} {u : SV} {K : SV → Prop} (h : vcUn c op u K) :
    ∃ v, (c.holds → ∀ w, (Op.unary op u.real).run P w = .ok v.real w) ∧ K v := by
  unfold vcUn at h
  split at h
  · exact ⟨_, fun _ w => rfl, h⟩
  · obtain ⟨n, hn, h⟩ := vcI_sound h
    refine ⟨_, fun hc w => ?_, h⟩
    simp only [SV.real, SV.r2, SV.r1]
    rw [← hn hc]
    rfl
  · exact h.elim
theorem vcBin_sound {cx : Cx} {T : TT} (hT : TOk cx.P T) {c : Grd} {op : BinOp} {t : TypeId} {u v : SV} {K : SV → Prop} (h : vcBin T c op t u v K) :
    ∃ x, (c.holds → ∀ w, (binOp op t u.real v.real).run cx.P w = .ok x w) ∧ K (.v x) := by
  unfold vcBin at h
  split at h
  · obtain ⟨x, hx, h⟩ := run_binI cx.P t h
    exact ⟨x, hx, h⟩
  · obtain ⟨x, hx, h⟩ := run_binS cx.P t h
    exact ⟨x, hx, h⟩
  · obtain ⟨x, hx, h⟩ := vcBinB_sound hT h
    exact ⟨x, fun _ => hx, h⟩
  · obtain ⟨x, hx, h⟩ := vcNil2_sound hT h
    exact ⟨x, fun _ => hx, h⟩
end Go.Proofs.YtdohcglpcgahaaaGreatDoor.Sat
namespace Go.Proofs.YtdohcglpcgahaaaGreatDoor.Sat
open Go Go.RowKit Go.PlainAid
def vcBytes (T : TT) (H : Heap) (c : Grd) (src dst : TypeId) (u : SV) (K : SV → Prop) : Prop :=
  match tfind T src, tfind T dst with
  | some ⟨.slice e, _, _, _⟩, some ⟨.str, _, _, _⟩ => match tfind T e with
    | some ⟨.int .u8, _, _, _⟩ => match u with
      | .v (.slice none _ _) => K (.v (.string (strOf [])))
      | .o id A n _ => match hfind H id with
        | some (.row A' _ _ _ _ xs) => A = A' ∧ ∃ l : List Int, c.ob (n = l.length ∧ ∀ (j : Nat) (u : Value), (l.map (Value.int .u8))[j]? = some u → xs[j]? = some u) ∧ K (.v (.string (strOf l)))
        | some (.ro A' _ _ xs) => A = A' ∧ ∃ l : List Int, c.ob (n = l.length ∧ ∀ (j : Nat) (u : Value), (l.map (Value.int .u8))[j]? = some u → xs[j]? = some u) ∧ K (.v (.string (strOf l)))
        | _ => False
      | .s id g b off n _ => match hfind H id with
        | some (.blk g' _ cs) => (g = g' ∧ b = 0) ∧ ∃ l : List Int, c.ob (n = l.length ∧ ∀ (j : Nat) (u : Value), (l.map (Value.int .u8))[j]? = some u → cs[off + j]? = some (.v u)) ∧ K (.v (.string (strOf l)))
        | some (.row A _ _ _ _ xs) => (g = (A.getD (0, 0)).1 ∧ b = (A.getD (0, 0)).2) ∧ ∃ l : List Int, c.ob (n = l.length ∧ ∀ (j : Nat) (u : Value), (l.map (Value.int .u8))[j]? = some u → xs[off + j]? = some u) ∧ K (.v (.string (strOf l)))
        | some (.ro A _ _ xs) => (g = (A.getD (0, 0)).1 ∧ b = (A.getD (0, 0)).2) ∧ ∃ l : List Int, c.ob (n = l.length ∧ ∀ (j : Nat) (u : Value), (l.map (Value.int .u8))[j]? = some u → xs[off + j]? = some u) ∧ K (.v (.string (strOf l)))
        | _ => False
      | _ => False
    | _ => False
  | _, _ => vcConv T c src dst u K
/-- an operation that the evaluator does not know: its value, and that it is that -/
structure Other (cx : Cx) (H : Heap) (f : Env) (c : Grd) (op : Op) (K : SV → Prop) : Prop where
  out : ∃ v, (c.holds → ∀ a w, Fits cx f a → Holds cx H w → ∀ o : Oper, o.op = op → (execOp a.eval o).run cx.P w = .ok (.value v.real) w) ∧ K v
/-- equality of two flat values: what it comes to, and that it is that -/
structure EqAgg (cx : Cx) (c : Grd) (o : BinOp) (t : TypeId) (l l' : List SV) (K : Bool → Prop) : Prop where
  out : ∃ b : Bool, (c.holds → ∀ w x y, (eqGuard o t x y (SV.a l).real (SV.a l').real).run cx.P w = .ok () w ∧ (binOp o t (SV.a l).real (SV.a l').real).run cx.P w = .ok (.bool b) w) ∧ K b
/-- an interface's value beside the literal nil -/
def vcIfc (T : TT) (o : BinOp) (t : TypeId) (y : Operand) (b : Bool) (K : SV → Prop) : Prop :=
  match y with
  | .const .nilIface => match tfind T t with
    | some ⟨.ifc, _, _, _⟩ => match o with
      | .eql => K (.v (.bool b))
      | .neq => K (.v (.bool (!b)))
      | _ => False
    | _ => False
  | _ => False
def evO (f : Env) (c : Grd) : Option Operand → (Option SV → Prop) → Prop
  | none, K => K none
  | some x, K => ev f c x fun v => K (some v)
def vcCap (T : TT) (t : TypeId) (u : SV) (K : SV → Prop) : Prop :=
  match tfind T t with
  | some ⟨.slice _, _, _, _⟩ => match u with
    | .s _ _ _ _ _ cap => K (.v (.int .i64 cap))
    | .o _ _ _ cap => K (.v (.int .i64 cap))
    | .v (.slice _ _ cap) => K (.v (.int .i64 cap))
    | _ => False
  | _ => False
theorem vcCap_sound {cx : Cx} {T : TT} (hT : TOk cx.P T) {t : TypeId} {u : SV} {K : SV → Prop} (h : vcCap T t u K) (ty : TypeId) :
    ∃ v, (∀ w, (Builtin.cap_ #[t] ty #[u.real]).run cx.P w = .ok v.real w) ∧ K v := by
  unfold vcCap at h
  split at h
  · rename_i et
    have hu := und_slice (hT.at_ et) rfl
    split at h
    · exact ⟨_, fun w => by simp [SV.real, SV.r2, SV.r1, Builtin.cap_, run_underlying hu, goInt], h⟩
    · exact ⟨_, fun w => by simp [SV.real, SV.r2, SV.r1, Builtin.cap_, run_underlying hu, goInt], h⟩
    · exact ⟨_, fun w => by simp [SV.real, SV.r2, SV.r1, Builtin.cap_, run_underlying hu, goInt], h⟩
    · exact h.elim
  · exact h.elim
def vcBuiltin (cx : Cx) (H : Heap) (f : Env) (c : Grd) (b : Builtin) (args : List Operand) (ats : List TypeId) (op : Op) (K : SV → Prop) : Prop :=
  match b, args, ats with
  | .len, [x], [t] => ev f c x fun u => vcLen cx.T t u K
  | .cap, [x], [t] => ev f c x fun u => vcCap cx.T t u K
  | .min, [x, y], _ => ev f c x fun u => ev f c y fun v => match u, v with
    | .v (.int k a), .v (.int _ b) => K (.v (.int k (min a b)))
    | _, _ => False
  | .max, [x, y], _ => ev f c x fun u => ev f c y fun v => match u, v with
    | .v (.int k a), .v (.int _ b) => K (.v (.int k (max a b)))
    | _, _ => False
  | _, _, _ => Other cx H f c op K
def vcOp (cx : Cx) (H : Heap) (f : Env) (c : Grd) (op : Op) (K : SV → Prop) : Prop :=
  match op with
  | .move x => ev f c x K
  | .assign x => ev f c x K
  | .pick cc x y => vcPick f c cc x y K
  | .extract x i => ev f c x fun u => vcExtract c u i K
  | .binOp o t x y t' => ev f c x fun u => ev f c y fun v => match u with
    | .a l => (match v with
      | .a l' => EqAgg cx c o t l l' fun b => K (.v (.bool b))
      | _ => Other cx H f c (.binOp o t x y t') K)
    | .v (.agg _) => Other cx H f c (.binOp o t x y t') K
    | .v .nilIface => vcIfc cx.T o t y true K
    | .v (.iface _ _) => vcIfc cx.T o t y false K
    | .v (.pointer _) => Other cx H f c (.binOp o t x y t') K
    | .p _ _ _ _ => Other cx H f c (.binOp o t x y t') K
    | u => vcBin cx.T c o t u v K
  | .unOp o _ x => ev f c x fun u => vcUn c o u K
  | .convert s d x => ev f c x fun u => vcBytes cx.T H c s d u K
  | .nilCheck x => ev f c x fun u => vcNilCheck u K
  | .makeFunc fn a b => evL f c a.toList fun us => evL f c b.toList fun vs => bif us.all SV.base && vs.all SV.base then K (.fn fn us vs) else K (.v (.func fn (us.map SV.real).toArray (vs.map SV.real).toArray))
  | .slice t x lo hi none => ev f c x fun u => evO f c lo fun l => evO f c hi fun h => vcSlice cx.T c t u l h K
  | .fieldAddr t x i => ev f c x fun u => vcFieldAddr cx.T t u i K
  | .field t x i => ev f c x fun u => vcField cx.T c t u i K
  | .indexAddr t x i => ev f c x fun u => ev f c i fun v => vcIndexAddr cx.T H c t u v K
  | .index t x i => ev f c x fun u => ev f c i fun v => vcIndex cx.T c t u v K
  | .load t x => ev f c x fun u => vcLoad cx.T cx H c t u K
  | .build t ps => evP f c ps.toList fun vs => vcBuild cx.T t vs K
  | .call ⟨.builtin b, args, ats⟩ => vcBuiltin cx H f c b args.toList ats.toList (.call ⟨.builtin b, args, ats⟩) K
  | op => Other cx H f c op K
theorem Other.sound {cx : Cx} {H : Heap} {f : Env} {c : Grd} {op : Op} {K : SV → Prop} {a : Act} (hf : Fits cx f a) (h : Other cx H f c op K) : ∃ v, Okv cx H c a op v ∧ K v := by
  obtain ⟨v, h1, h2⟩ := h.out
  exact ⟨v, fun hc o ho w hw => h1 hc a w hf hw o ho, h2⟩
theorem run_str_of {P : Program} {src dst e : TypeId} (hs : P.underlying src = some (.slice e)) (he : P.underlying e = some (.int .u8)) (hd : P.underlying dst = some .string) {w : World} {ad : Addr} {cap : Nat} {l : List Int}
    (hc : ∀ (j : Nat) (u : Value), (l.map (Value.int .u8))[j]? = some u → w.cell? (ad.add j) = some u) : (convert src dst (.slice (some ad) l.length cap)).run P w = .ok (.string (strOf l)) w := by
  rw [run_convert_bytes_string w src dst e _ l.length cap hs he hd]
  have hl := run_loadCells_list (P := P) w ad (l.map (Value.int .u8)) hc
  rw [List.length_map] at hl
  exact run_bytesToString w ad _ cap l hl
theorem run_str_nil {P : Program} {src dst e : TypeId} (hs : P.underlying src = some (.slice e)) (he : P.underlying e = some (.int .u8)) (hd : P.underlying dst = some .string) {w : World} {n c : Nat} : (convert src dst (.slice none n c)).run P w = .ok (.string (strOf [])) w := by
  rw [run_convert_bytes_string w src dst e _ n c hs he hd]
  rfl
theorem strOf_nil_slice {w : World} {n0 : Nat} {A : Option (Nat × Nat)} {e size n cap : Nat} {xs : List Value} (h : w.ownsRow n0 e size (.slice (adr A) n cap) n xs) (hA : A = none) : xs = [] := by
  subst hA
  rcases h.2 with ⟨hv, hn⟩ | ⟨g, cap', cur, hv, _⟩
  · have := h.1
    rw [hn, Nat.zero_mul] at this
    exact List.eq_nil_of_length_eq_zero this
  · cases hv
theorem vcBytes_sound {cx : Cx} (hT : TOk cx.P cx.T) {H : Heap} {c : Grd} {src dst : TypeId} {u : SV} {K : SV → Prop} (h : vcBytes cx.T H c src dst u K) :
    ∃ v, (c.holds → ∀ w, Holds cx H w → (convert src dst u.real).run cx.P w = .ok v.real w) ∧ K v := by
  unfold vcBytes at h
  split at h
  · rename_i e _ _ _ _ _ _ es ed
    have hs := und_slice (hT.at_ es) rfl
    have hd := und_str (hT.at_ ed) rfl
    split at h
    · rename_i ee
      have he := und_int (hT.at_ ee) rfl
      split at h
      · refine ⟨_, fun _ w _ => ?_, h⟩
        exact run_str_nil hs he hd
      · rename_i id A n cap
        split at h
        · rename_i A' e' sz' n' cap' xs eh
          obtain ⟨rfl, l, h0, h⟩ := h
          refine ⟨_, fun hc w hw => ?_, h⟩
          obtain ⟨rfl, h2⟩ := Grd.ob_iff.1 h0 hc
          have hr : w.ownsRow cx.n0 e' sz' (.slice (adr A) n' cap') n' xs := hw.at_ eh
          cases A with
          | none =>
            have hx := strOf_nil_slice hr rfl
            have hl : l = [] := by
              cases l with
              | nil => rfl
              | cons x l => have := h2 0 _ rfl; rw [hx] at this; simp at this
            subst hl
            exact run_str_nil hs he hd
          | some p =>
            refine run_str_of hs he hd fun j u hu => ?_
            have := row_cell hr (h2 j u hu)
            rw [add_mk, Nat.add_comm]
            exact this
        · rename_i A' n' sz' xs eh
          obtain ⟨rfl, l, h0, h⟩ := h
          refine ⟨_, fun hc w hw => ?_, h⟩
          obtain ⟨rfl, h2⟩ := Grd.ob_iff.1 h0 hc
          have hr := hw.at_ eh
          cases A with
          | none =>
            have hl : l = [] := by
              cases l with
              | nil => rfl
              | cons x l =>
                have h3 := h2 0 _ rfl
                obtain ⟨r1, r2⟩ := hr
                have hn : 0 < n' := by
                  rcases Nat.eq_zero_or_pos n' with h0 | h0
                  · rw [h0, Nat.zero_mul] at r1
                    rw [List.eq_nil_of_length_eq_zero r1] at h3
                    simp at h3
                  · exact h0
                obtain ⟨p, hp, _⟩ := r2 hn
                cases hp
            subst hl
            exact run_str_nil hs he hd
          | some p =>
            refine run_str_of hs he hd fun j u hu => ?_
            have := ro_cell hw hr (h2 j u hu)
            rw [add_mk, Nat.add_comm]
            exact this
        · exact h.elim
      · rename_i id g b off n cap
        split at h
        · rename_i g' ty cs eh
          obtain ⟨⟨rfl, rfl⟩, l, h0, h⟩ := h
          refine ⟨_, fun hc w hw => ?_, h⟩
          obtain ⟨rfl, h2⟩ := Grd.ob_iff.1 h0 hc
          refine run_str_of hs he hd fun j u hu => ?_
          rw [add_mk]
          exact blk_cell (hw.at_ eh) (h2 j u hu)
        · rename_i A e' sz' n' cap' xs eh
          obtain ⟨⟨rfl, rfl⟩, l, h0, h⟩ := h
          refine ⟨_, fun hc w hw => ?_, h⟩
          obtain ⟨rfl, h2⟩ := Grd.ob_iff.1 h0 hc
          refine run_str_of hs he hd fun j u hu => ?_
          rw [add_mk, show off + (A.getD (0, 0)).2 + j = off + j + (A.getD (0, 0)).2 by omega]
          exact row_cell (hw.at_ eh) (h2 j u hu)
        · rename_i A n' sz' xs eh
          obtain ⟨⟨rfl, rfl⟩, l, h0, h⟩ := h
          refine ⟨_, fun hc w hw => ?_, h⟩
          obtain ⟨rfl, h2⟩ := Grd.ob_iff.1 h0 hc
          refine run_str_of hs he hd fun j u hu => ?_
          rw [add_mk, show off + (A.getD (0, 0)).2 + j = off + j + (A.getD (0, 0)).2 by omega]
          exact ro_cell hw (hw.at_ eh) (h2 j u hu)
        · exact h.elim
      · exact h.elim
    · exact h.elim
  · obtain ⟨v, hv, h⟩ := vcConv_sound hT h
    exact ⟨v, fun hc w _ => hv hc w, h⟩
theorem evO_sound {cx : Cx} {f : Env} {a : Act} (hf : Fits cx f a) {c : Grd} {x : Option Operand} {K : Option SV → Prop} (h : evO f c x K) : ∃ v, (c.holds → x.map a.eval = v.map SV.real) ∧ K v := by
  cases x with
  | none => exact ⟨none, fun _ => rfl, h⟩
  | some x =>
    have h : ev f c x fun v => K (some v) := h
    obtain ⟨v, hv, h⟩ := ev_sound hf h
    exact ⟨some v, fun hc => by rw [Option.map_some, Option.map_some, hv hc], h⟩
theorem binOp_guard {T : TT} {c : Grd} {o : BinOp} {t : TypeId} {u v : SV} {K : SV → Prop} (x y : Operand) (P : Program) (w : World) (h : vcBin T c o t u v K) : (eqGuard o t x y u.real v.real).run P w = .ok () w := by
  unfold vcBin at h
  split at h
  · rw [show (SV.v (Value.int _ _)).real = Value.int _ _ from rfl, eqGuard_at_int]; rfl
  · rw [show (SV.v (Value.string _)).real = Value.string _ from rfl, eqGuard_at_string]; rfl
  · rw [show (SV.v (Value.bool _)).real = Value.bool _ from rfl, eqGuard_at_bool]; rfl
  · unfold vcNil2 at h
    split at h
    · split at h
      · split at h
        · rename_i b eb
          obtain ⟨a, n, c, hr, _⟩ := nilB_real eb
          rw [hr, eqGuard_at_slice]; rfl
        · exact h.elim
      · exact h.elim
    · exact h.elim
theorem okv_of {cx : Cx} {H : Heap} {c : Grd} {a : Act} {op : Op} {v : SV} (h : c.holds → ∀ (dst : Option Tmp) (ty : TypeId) (pos : String) (after : Array Edge) (gd : Option (Nat × Bool)) (w : World), Holds cx H w → (execOp a.eval ⟨dst, op, ty, pos, after, gd⟩).run cx.P w = .ok (.value v.real) w) : Okv cx H c a op v := by
  intro hc o ho w hw
  obtain ⟨dst, op', ty, pos, after, gd⟩ := o
  cases ho
  exact h hc dst ty pos after gd w hw
theorem run_v {P : Program} {s : Sem Value} {w : World} {v : Value} (h : s.run P w = .ok v w) : (do pure (Next.value (← s)) : Sem Next).run P w = .ok (.value v) w := by
  simp only [Sem.run_bind, h, Result.andThen_ok, Sem.run_pure]
theorem vcBuiltin_sound {cx : Cx} (hT : TOk cx.P cx.T) {H : Heap} {f : Env} {c : Grd} {a : Act} (hf : Fits cx f a) {b : Builtin} {args : Array Operand} {ats : Array TypeId} {K : SV → Prop}
    (h : vcBuiltin cx H f c b args.toList ats.toList (.call ⟨.builtin b, args, ats⟩) K) : ∃ v, Okv cx H c a (.call ⟨.builtin b, args, ats⟩) v ∧ K v := by
  unfold vcBuiltin at h
  split at h
  · rename_i x t ea et
    obtain ⟨u, hu, h⟩ := ev_sound hf h
    obtain ⟨v, hv, h⟩ := vcLen_sound hT h 0
    refine ⟨v, okv_of fun hc dst ty pos after gd w hw => ?_, h⟩
    have hx : args.map a.eval = #[u.real] := by rw [← hu hc]; apply Array.toList_inj.1; rw [Array.toList_map, ea]; rfl
    obtain rfl : ats = #[t] := by apply Array.toList_inj.1; rw [et]
    rw [BigFrame.execOp_builtin, BigFrame.builtin_len, hx]
    exact run_v (hv w)
  · rename_i x t ea et
    obtain ⟨u, hu, h⟩ := ev_sound hf h
    obtain ⟨v, hv, h⟩ := vcCap_sound hT h 0
    refine ⟨v, okv_of fun hc dst ty pos after gd w hw => ?_, h⟩
    have hx : args.map a.eval = #[u.real] := by rw [← hu hc]; apply Array.toList_inj.1; rw [Array.toList_map, ea]; rfl
    obtain rfl : ats = #[t] := by apply Array.toList_inj.1; rw [et]
    rw [BigFrame.execOp_builtin, BigFrame.builtin_cap, hx]
    exact run_v (hv w)
  · rename_i x y ea
    obtain ⟨u, hu, h⟩ := ev_sound hf h
    obtain ⟨v, hv, h⟩ := ev_sound hf h
    split at h
    · rename_i k1 n1 k2 n2 _
      refine ⟨_, okv_of fun hc dst ty pos after gd w hw => ?_, h⟩
      have hx : args.map a.eval = #[.int k1 n1, .int k2 n2] := by
        apply Array.toList_inj.1
        rw [Array.toList_map, ea, List.map_cons, List.map_cons, List.map_nil, hu hc, hv hc]
        rfl
      rw [BigFrame.execOp_builtin, BigFrame.builtin_min, hx]
      exact run_v (Lib.run_min_ints w ats ty _ _ _ _)
    · exact h.elim
  · rename_i x y ea
    obtain ⟨u, hu, h⟩ := ev_sound hf h
    obtain ⟨v, hv, h⟩ := ev_sound hf h
    split at h
    · rename_i k1 n1 k2 n2 _
      refine ⟨_, okv_of fun hc dst ty pos after gd w hw => ?_, h⟩
      have hx : args.map a.eval = #[.int k1 n1, .int k2 n2] := by
        apply Array.toList_inj.1
        rw [Array.toList_map, ea, List.map_cons, List.map_cons, List.map_nil, hu hc, hv hc]
        rfl
      rw [BigFrame.execOp_builtin, BigFrame.builtin_max, hx]
      exact run_v (Lib.run_max_ints w ats ty _ _ _ _)
    · exact h.elim
  · exact Other.sound hf h
theorem vcOp_sound {cx : Cx} (hT : TOk cx.P cx.T) {H : Heap} {f : Env} {c : Grd} {a : Act} (hf : Fits cx f a) {op : Op} {K : SV → Prop} (h : vcOp cx H f c op K) : ∃ v, Okv cx H c a op v ∧ K v := by
  cases op
  case move x =>
    simp only [vcOp] at h
    obtain ⟨v, hv, h⟩ := ev_sound hf h
    exact ⟨v, okv_of fun hc dst ty pos after gd w hw => by rw [← hv hc]; rfl, h⟩
  case assign x =>
    simp only [vcOp] at h
    obtain ⟨v, hv, h⟩ := ev_sound hf h
    exact ⟨v, okv_of fun hc dst ty pos after gd w hw => by rw [← hv hc]; rfl, h⟩
  case pick cc x y =>
    simp only [vcOp] at h
    obtain ⟨v, hv, h⟩ := vcPick_sound hf h
    refine ⟨v, okv_of fun hc dst ty pos after gd w hw => ?_, h⟩
    obtain ⟨b, h1, h2⟩ := hv hc
    simp only [execOp, h1, asBool, Sem.run_bind, Sem.run_pure, Result.andThen_ok, h2]
  case extract x i =>
    simp only [vcOp] at h
    obtain ⟨u, hu, h⟩ := ev_sound hf h
    obtain ⟨v, hv, h⟩ := vcExtract_sound (P := cx.P) h
    exact ⟨v, okv_of fun hc dst ty pos after gd w hw => by simp only [execOp, hu hc]; exact run_v (hv hc w), h⟩
  case binOp o t x y t' =>
    simp only [vcOp] at h
    obtain ⟨u, hu, h⟩ := ev_sound hf h
    obtain ⟨v, hv, h⟩ := ev_sound hf h
    split at h
    · split at h
      · obtain ⟨b, h1, h⟩ := h.out
        refine ⟨_, okv_of fun hc dst ty pos after gd w hw => ?_, h⟩
        simp only [execOp, hu hc, hv hc]
        obtain ⟨g1, g2⟩ := h1 hc w x y
        refine run_v ?_
        simp only [Sem.run_bind, g1, Result.andThen_ok]
        exact g2
      · exact Other.sound hf h
    · exact Other.sound hf h
    · unfold vcIfc at h
      split at h
      · split at h
        · rename_i et
          have hi := und_ifc (hT.at_ et) rfl
          split at h
          · refine ⟨_, okv_of fun hc dst ty pos after gd w hw => ?_, h⟩
            simp only [execOp, hu hc, show a.eval (Operand.const Value.nilIface) = Value.nilIface from rfl, SV.real, SV.r2, SV.r1, eqGuard]
            refine run_v ?_
            cases x <;> simp [run_eql_nil_nil w t hi]
          · refine ⟨_, okv_of fun hc dst ty pos after gd w hw => ?_, h⟩
            simp only [execOp, hu hc, show a.eval (Operand.const Value.nilIface) = Value.nilIface from rfl, SV.real, SV.r2, SV.r1, eqGuard]
            refine run_v ?_
            cases x <;> simp [run_neq_nil_nil w t hi]
          · exact h.elim
        · exact h.elim
      · exact h.elim
    · unfold vcIfc at h
      split at h
      · split at h
        · rename_i et
          have hi := und_ifc (hT.at_ et) rfl
          split at h
          · refine ⟨_, okv_of fun hc dst ty pos after gd w hw => ?_, h⟩
            simp only [execOp, hu hc, show a.eval (Operand.const Value.nilIface) = Value.nilIface from rfl, SV.real, SV.r2, SV.r1, eqGuard]
            refine run_v ?_
            simp [run_eql_held_nil w t _ _ hi]
          · refine ⟨_, okv_of fun hc dst ty pos after gd w hw => ?_, h⟩
            simp only [execOp, hu hc, show a.eval (Operand.const Value.nilIface) = Value.nilIface from rfl, SV.real, SV.r2, SV.r1, eqGuard]
            refine run_v ?_
            simp [run_neq_held_nil w t _ _ hi]
          · exact h.elim
        · exact h.elim
      · exact h.elim
    · exact Other.sound hf h
    · exact Other.sound hf h
    · have hg := fun w => binOp_guard x y cx.P w h
      obtain ⟨z, hz, h⟩ := vcBin_sound hT h
      refine ⟨_, okv_of fun hc dst ty pos after gd w hw => ?_, h⟩
      simp only [execOp, hu hc, hv hc]
      refine run_v ?_
      simp only [Sem.run_bind, hg w, Result.andThen_ok]
      exact hz hc w
  case unOp o t x =>
    simp only [vcOp] at h
    obtain ⟨u, hu, h⟩ := ev_sound hf h
    obtain ⟨v, hv, h⟩ := vcUn_sound (P := cx.P) h
    exact ⟨v, okv_of fun hc dst ty pos after gd w hw => by simp only [execOp, hu hc]; exact run_v (hv hc w), h⟩
  case convert s d x =>
    simp only [vcOp] at h
    obtain ⟨u, hu, h⟩ := ev_sound hf h
    obtain ⟨v, hv, h⟩ := vcBytes_sound hT h
    exact ⟨v, okv_of fun hc dst ty pos after gd w hw => by simp only [execOp, hu hc]; exact run_v (hv hc w hw), h⟩
  case nilCheck x =>
    simp only [vcOp] at h
    obtain ⟨u, hu, h⟩ := ev_sound hf h
    unfold vcNilCheck at h
    split at h
    · exact ⟨_, okv_of fun hc dst ty pos after gd w hw => by simp only [execOp, hu hc]; rfl, h⟩
    · exact ⟨_, okv_of fun hc dst ty pos after gd w hw => by simp only [execOp, hu hc]; rfl, h⟩
    · exact ⟨_, okv_of fun hc dst ty pos after gd w hw => by simp only [execOp, hu hc]; rfl, h⟩
    · exact ⟨_, okv_of fun hc dst ty pos after gd w hw => by simp only [execOp, hu hc]; rfl, h⟩
    · exact h.elim
  case makeFunc fn x y =>
    simp only [vcOp] at h
    obtain ⟨us, hu, h⟩ := evL_sound hf h
    obtain ⟨vs, hv, h⟩ := evL_sound hf h
    cases hb : (us.all SV.base && vs.all SV.base)
    · rw [hb] at h
      refine ⟨_, okv_of fun hc dst ty pos after gd w hw => ?_, h⟩
      have e1 : x.map a.eval = (us.map SV.real).toArray := by apply Array.toList_inj.1; rw [Array.toList_map, hu hc]
      have e2 : y.map a.eval = (vs.map SV.real).toArray := by apply Array.toList_inj.1; rw [Array.toList_map, hv hc]
      simp only [execOp, e1, e2]
      rfl
    · rw [hb] at h
      rw [Bool.and_eq_true] at hb
      refine ⟨_, okv_of fun hc dst ty pos after gd w hw => ?_, h⟩
      have e1 : x.map a.eval = (us.map SV.r0).toArray := by apply Array.toList_inj.1; rw [Array.toList_map, hu hc, SV.base_map hb.1]
      have e2 : y.map a.eval = (vs.map SV.r0).toArray := by apply Array.toList_inj.1; rw [Array.toList_map, hv hc, SV.base_map hb.2]
      simp only [execOp, e1, e2]
      rfl
  case slice t x lo hi mx =>
    cases mx with
    | some m => exact Other.sound hf h
    | none =>
      simp only [vcOp] at h
      obtain ⟨u, hu, h⟩ := ev_sound hf h
      obtain ⟨l, hl, h⟩ := evO_sound hf h
      obtain ⟨hh, hhh, h⟩ := evO_sound hf h
      obtain ⟨v, hv, h⟩ := vcSlice_sound hT (H := H) h
      refine ⟨_, okv_of fun hc dst ty pos after gd w hw => ?_, h⟩
      simp only [execOp, hu hc, hl hc, hhh hc, Option.map_none]
      exact run_v (hv hc w hw)
  case fieldAddr t x i =>
    simp only [vcOp] at h
    obtain ⟨u, hu, h⟩ := ev_sound hf h
    obtain ⟨v, hv, h⟩ := vcFieldAddr_sound hT h
    exact ⟨v, okv_of fun hc dst ty pos after gd w hw => by simp only [execOp, hu hc]; exact run_v (hv w), h⟩
  case field t x i =>
    simp only [vcOp] at h
    obtain ⟨u, hu, h⟩ := ev_sound hf h
    obtain ⟨v, hv, h⟩ := vcField_sound hT h
    exact ⟨v, okv_of fun hc dst ty pos after gd w hw => by simp only [execOp, hu hc]; exact run_v (hv hc w), h⟩
  case indexAddr t x i =>
    simp only [vcOp] at h
    obtain ⟨u, hu, h⟩ := ev_sound hf h
    obtain ⟨z, hz, h⟩ := ev_sound hf h
    obtain ⟨v, hv, h⟩ := vcIndexAddr_sound hT h
    exact ⟨v, okv_of fun hc dst ty pos after gd w hw => by simp only [execOp, hu hc, hz hc]; exact run_v (hv hc w hw), h⟩
  case index t x i =>
    simp only [vcOp] at h
    obtain ⟨u, hu, h⟩ := ev_sound hf h
    obtain ⟨z, hz, h⟩ := ev_sound hf h
    obtain ⟨v, hv, h⟩ := vcIndex_sound hT h
    exact ⟨v, okv_of fun hc dst ty pos after gd w hw => by simp only [execOp, hu hc, hz hc]; exact run_v (hv hc w), h⟩
  case load t x =>
    simp only [vcOp] at h
    obtain ⟨u, hu, h⟩ := ev_sound hf h
    obtain ⟨v, hv, h⟩ := vcLoad_sound hT h
    exact ⟨v, okv_of fun hc dst ty pos after gd w hw => by simp only [execOp, hu hc]; exact run_v (hv hc w hw), h⟩
  case build t ps =>
    simp only [vcOp] at h
    obtain ⟨vs, hvs, h⟩ := evP_sound hf h
    obtain ⟨v, hv, h⟩ := vcBuild_sound hT h
    refine ⟨v, okv_of fun hc dst ty pos after gd w hw => ?_, h⟩
    have e1 : (ps.map fun (p : Nat × Operand) => (p.1, a.eval p.2)) = (vs.map fun p => (p.1, p.2.real)).toArray := by apply Array.toList_inj.1; rw [Array.toList_map, hvs hc]
    simp only [execOp]
    refine run_v ?_
    have := hv w
    rw [← e1] at this
    exact this
  case call cl =>
    obtain ⟨cal, args, ats⟩ := cl
    cases cal with
    | builtin b => exact vcBuiltin_sound hT hf h
    | value x => exact Other.sound hf h
    | invoke x m => exact Other.sound hf h
  all_goals exact Other.sound hf h
end Go.Proofs.YtdohcglpcgahaaaGreatDoor.Sat
