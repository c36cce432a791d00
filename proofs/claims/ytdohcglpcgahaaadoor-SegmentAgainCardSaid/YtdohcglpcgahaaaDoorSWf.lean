/-
  What Write of package segment makes of messages. No program in sight; and what the walk asks of a world.
-/
import Derived.Test.YtdohcglpcgahaaaDoorSG1
import Derived.Test.YtdohcglpcgahaaaDoorSHI
import Derived.Test.YtdohcglpcgahaaaDoorMP
import Derived.Test.YtdohcglpcgahaaaDoorW7
import Derived.Lib.LaidTab
set_option linter.unusedSimpArgs false
set_option linter.unusedVariables false
namespace Go.Proofs.YtdohcglpcgahaaaDoor
open Go Sat Go.RowKit Go.PlainAid
def itB (n : Int) : ByteArray := ⟨(Lib.itoa n).toArray⟩
structure WfT (w : World) : Prop where
  tab : Lib.TabIs Tryd.prog w "internal/strconv.uint64pow10" .u64 Lib.pow10Tab
theorem var_below {P : Program} {w w' : World} {B : Nat} {s : String} {cs : Array Value} (h : w.var? P s = some cs) (hb : Below B w w') (hB : w.heap.size ≤ B) : w'.var? P s = some cs := by
  unfold World.var? at h ⊢
  rw [Option.bind_eq_some_iff] at h ⊢
  obtain ⟨g, h1, h2⟩ := h
  refine ⟨g, h1, ?_⟩
  split at h2
  · rename_i cs' t o e
    rw [hb.block g (Nat.lt_of_lt_of_le (heap_lt e) hB), e]
    exact h2
  · cases h2
theorem WfT.mono {w w' : World} {B : Nat} (h : WfT w) (hb : Below B w w') (hB : w.heap.size ≤ B) : WfT w' := ⟨var_below h.tab hb hB⟩
theorem WfT.at_ {cx : Cx} {H : Heap} {w : World} (h : WfT cx.W) (hn : cx.n0 = cx.W.heap.size) (hM : cx.M = []) (hw : Holds cx H w) : WfT w := h.mono (below_of hn hM hw) (Nat.le_refl _)
theorem itoa_all {w : World} (hw : WfT w) (n : Int) (h0 : -9223372036854775808 ≤ n) (h1 : n ≤ 9223372036854775807) : Calls Tryd.prog 40 #[.int .i64 n] w fun e w' => e = .returned (.string (itB n)) ∧ Below w.heap.size w w' := by
  refine (Tryd.strconv_Itoa n h0 h1 w hw.tab).mono ?_
  rintro e w' ⟨he, k, os, rfl⟩
  refine ⟨he, ⟨rfl, rfl, rfl, by simp [Go.Sort.grow, World.drewN], fun k hk => ?_⟩⟩
  simp only [Go.Sort.grow, World.drewN]
  rw [Array.getElem?_append_left hk]
/-- the segments of a message -/
def headS (m : Msg) : Segm := [[hedS], [m.ref], [m.kind]]
def bodyS (s : Sg) : Segm := [s.1] :: trimS s.2
def tailS (m : Msg) : Segm := [[endS], [itB (m.segs.length + 2)], [m.ref]]
def segsM (m : Msg) : List Segm := headS m :: m.segs.map bodyS ++ [tailS m]
def segsL (l : List Msg) : List Segm := l.flatMap segsM
def okFrom : List ByteArray → List Msg → Bool
  | _, [] => true
  | L, m :: l => rightM m && (!decide (m.ref ∈ L) && okFrom (m.ref :: L) l)
def writeG (l : List Msg) : ByteArray × Int := if okFrom [] l = true then writeL (segsL l) else (emp, 2)
/-- how often a reference was met -/
def metV (L : List ByteArray) : ByteArray → Option Value := fun s => if s ∈ L then some (.int .i64 1) else none
theorem metV_cons (s : ByteArray) (L : List ByteArray) : (fun t => if t = s then some (Value.int .i64 1) else metV L t) = metV (s :: L) := by
  funext t
  unfold metV
  by_cases h : t = s
  · rw [if_pos h, if_pos (by rw [h]; exact List.mem_cons_self)]
  · rw [if_neg h]
    by_cases h2 : t ∈ L
    · rw [if_pos h2, if_pos (List.mem_cons_of_mem _ h2)]
    · rw [if_neg h2, if_neg (by simp [h, h2])]
theorem metV_get (s : ByteArray) (L : List ByteArray) : (metV L s).getD (.int .i64 0) = .int .i64 (if s ∈ L then 1 else 0) := by
  unfold metV
  split <;> rfl
theorem other_updateV {cx : Cx} {H : Heap} {f : Env} {dst : Option Nat} {K : SV → Heap → Prop} {m k x : Operand} {t kt et : Nat} (d : Nat) {g : Nat} {V : ByteArray → Option Value} (V' : ByteArray → Option Value) {s : ByteArray} {u : SV} {op : Op} (hop : op = .mapUpdate t m k x ∨ op = .insert t m k x) (hm : cx.P.underlying t = some (.map kt et)) (hd : cx.P.underlying kt = some .string)
    (hem : ev f .yes m (fun u => u = .v (.map (some g)))) (hek : ev f .yes k (fun u => u = .v (.string s))) (hex : ev f .yes x (fun y => y = u)) (hf : hfind H d = some (HBm g V)) (hV : (fun t => if t = s then some u.real else V t) = V') (hk : K (.v undef) ((d, HBm g V') :: hdel H d)) : OtherM cx H f op dst K := by
  subst hV
  exact other_update d hop hm hd hem hek hex hf hk
theorem trimS_len (l : Dat) : (trimS l).length ≤ l.length := by
  unfold trimS
  rw [List.length_take, List.length_map]
  exact Nat.min_le_right _ _
/-- bounds for a message that is written -/
structure FewW (m : Msg) : Prop where
  kind : m.kind.size ≤ 9223372036854775807
  ref : m.ref.size ≤ 9223372036854775807
  seg : ∀ s ∈ m.segs, FewG s ∧ FewS s.2
theorem FewW.m {m : Msg} (h : FewW m) : FewM m := ⟨h.kind, h.ref, fun s hs => (h.seg s hs).1⟩
theorem called_fuse {cx : Cx} {n : Nat} {args : List SV} {H : Heap} {K : SV → Heap → Prop} (d : Nat) (L : List Nat) (hM : cx.M = []) (h : ∀ w0, Holds cx H w0 → Called cx n args ((d, .own (gsOf H L) (Frz w0 (gsOf H L))) :: delAll (d :: L) H) K) : Called cx n args H K :=
  ⟨fun w hw => (h w hw).out w (hw.fuse_ d L hM)⟩
/-- what lies in two frozen entries -/
theorem two_nest {α : Type} {R : Lies α} (hR : Stays R) {cx : Cx} {d d1 : Nat} {w0 w1 : World} {gs gs1 : List Nat} {v : Value} {l : α} (h : R w0 (fun g => g ∈ gs ∨ g ∈ gs1) v l) {H0 H : Heap} {w : World} (hw0 : Holds cx H0 w0) (hf0 : hfind H0 d1 = some (.own gs1 (Frz w1 gs1))) (hw : Holds cx H w) (hf : hfind H d = some (.own gs (Frz w0 gs))) (hf1 : hfind H d1 = some (.own gs1 (Frz w1 gs1))) (B : Nat → Prop) (hB : ∀ g, g ∈ gs ∨ g ∈ gs1 → B g) : R w B v l :=
  hR _ _ _ _ _ _ h (fun g hg _ => by
    rcases hg with hg | hg
    · exact frz_of hf hw g hg
    · rw [frz_of hf1 hw g hg, frz_of hf0 hw0 g hg]) hB
/-- a row of one's own over what is frozen -/
theorem nest_top {α : Type} {R : Lies α} (hR : Stays R) {cx : Cx} {H : Heap} {w w1 : World} (hw : Holds cx H w) (d1 d2 : Nat) {A : Option (Nat × Nat)} {T n cap : Nat} {xs : List Value} {gs : List Nat} {l : List α} (hf1 : hfind H d1 = some (.row A T 1 n cap xs)) (hf2 : hfind H d2 = some (.own gs (Frz w1 gs))) (hx : Got R w1 gs xs l) (hn : n = l.length) : Nest R w (fun _ => True) (.slice (adr A) n cap) l := by
  subst hn
  exact ⟨A, cap, xs, rfl, row_caps hw hf1, ro_of_row hw hf1, fun p hp hn => ⟨trivial, own_cells0 (hw.at_ hf1) hn p hp⟩, fun i x a h1 h2 => frz_nest hR (hx.at_ i x a h1 h2) hf2 hw⟩
end Go.Proofs.YtdohcglpcgahaaaDoor
