/-
  The walk of row: a segment of layer 4.
-/
import Derived.Test.YtdohcglpcgahaaaGreatDoorSF
import Derived.Test.YtdohcglpcgahaaaGreatDoorAS
set_option linter.unusedSimpArgs false
set_option linter.unusedVariables false
namespace Go.Proofs.YtdohcglpcgahaaaGreatDoor
open Go Sat Go.RowKit Go.PlainAid
theorem append_types {P : Program} {t t' e e' : TypeId} (h : P.underlying t = some (.slice e)) (h' : P.underlying t' = some (.slice e')) (ty : TypeId) (args : Array Value) (w : World) : (Builtin.append_ #[t, t'] ty args).run P w = (Builtin.append_ #[t, t] ty args).run P w := by
  unfold Builtin.append_
  have a0 : (#[t, t'] : Array TypeId)[0]? = some t := rfl
  have a1 : (#[t, t'] : Array TypeId)[1]? = some t' := rfl
  have b0 : (#[t, t] : Array TypeId)[0]? = some t := rfl
  have b1 : (#[t, t] : Array TypeId)[1]? = some t := rfl
  rw [a0, a1, b0, b1]
  cases args[0]? with
  | none => rfl
  | some s =>
    cases args[1]? with
    | none => rfl
    | some x =>
      simp only [Sem.run_bind, run_underlying h, Result.andThen_ok]
      cases s <;> try rfl
      simp only [Sem.run_bind, run_underlying h, run_underlying h', Result.andThen_ok, Sem.run_pure]
theorem other_app {cx : Cx} (hT : TOk cx.P cx.T) {H : Heap} {f : Env} {d : Nat} {K : SV → Heap → Prop} {x y : Operand} {t t' e e' : TypeId} (ht : cx.P.underlying t = some (.slice e)) (ht' : cx.P.underlying t' = some (.slice e'))
    (h : ev f .yes x fun u => ev f .yes y fun v => vcAppend cx H d t u v K) : OtherM cx H f (.call ⟨.builtin .append, #[x, y], #[t, t']⟩) (some d) K := by
  refine ⟨fun a w hfit hw o ho => ?_⟩
  obtain ⟨u, hu, h⟩ := ev_sound hfit h
  obtain ⟨v, hv, h⟩ := ev_sound hfit h
  have hrun : ∀ ty, ∃ r H' w', (Builtin.append_ #[t, t] ty #[u.real, v.real]).run cx.P w = .ok r.real w' ∧ Holds cx H' w' ∧ K r H' := fun ty => vcAppend_sound hT hw h ty
  obtain ⟨dst, op, ty, pos, after, gd⟩ := o
  obtain ⟨r, H', w', h1, h2, h3⟩ := hrun ty
  dsimp only at ho
  subst ho
  refine ⟨r, H', w', .inl ?_, h2, h3⟩
  rw [BigFrame.execOp_builtin]
  refine run_v' ?_
  have e : (#[x, y] : Array Operand).map a.eval = #[u.real, v.real] := by simp [hu trivial, hv trivial]
  rw [e]
  show (Builtin.append_ #[t, t'] ty #[u.real, v.real]).run cx.P w = _
  rw [append_types ht ht']
  exact h1
theorem nest_rowB {α : Type} {R : Lies α} {cx : Cx} {H : Heap} {w : World} (hw : Holds cx H w) {id : Nat} {A : Option (Nat × Nat)} {e n cap : Nat} {xs : List Value} {l : List α} (h : hfind H id = some (.row A e 1 n cap xs)) (hn : n = l.length) (B : Nat → Prop) (hB : ∀ g, g ∈ (HB.row A e 1 n cap xs).gs → B g) (hg : ∀ (i : Nat) (x : Value) (a : α), xs[i]? = some x → l[i]? = some a → R w B x a) : Nest R w B (.slice (adr A) n cap) l := by
  subst hn
  exact ⟨A, cap, xs, rfl, row_caps hw h, ro_of_row hw h, fun p hp hn => ⟨hB p.1 (by rw [hp]; simp [HB.gs]), own_cells0 (hw.at_ h) hn p hp⟩, hg⟩
/-- a row's cells are told by what they are, wherever -/
theorem rown_any (first : ByteArray) (d : Dat) (v : Value) (w : World) (Bd : Nat → Prop) (R : Lies Elem) (hR : Stays R) (hne : ∀ w B v a, R w B v a → v.oneCell' = true) (hs : ∀ w B v, NE w B v [first] → R w B v [first])
    (hA : NestA R w Bd v d) (hl : d.length * 24 ≤ 140737488351232) :
    Calls Tryz.prog 33 #[.string first, v] w (Gives id (fun w B v => Nest R w (fun g => B g ∨ Bd g) v ([first] :: d)) w) := by
  obtain ⟨A', A, cA, xs, rfl, aA, hcA, hrA, hB, hxA⟩ := hA
  refine calls_sat (cx := Tryz.cx 10 [] [] [] w) (Tryz.ok ..) Tryz.func33 rfl [.v (.string first), .v (.slice A' d.length cA)] rfl (by show 2 ≤ 10; omega) [] (holds_nil (Nat.le_refl _)) ?_
  have hmax : d.length ≤ 9223372036854775807 := Nat.le_trans (Nat.le_trans hcA.1 hcA.2) (by decide)
  have hall : allV xs = true := allV_of fun u hu => by
    obtain ⟨i, hi, rfl⟩ := List.getElem_of_mem hu
    exact hne _ _ _ _ (hxA i xs[i] (d[i]'(by have := hrA.1; omega)) (List.getElem?_eq_getElem _) (List.getElem?_eq_getElem _))
  repeat' ((conv => whnf); first | refine walk (Tryz.ok ..) ?_ | fail)
  (conv => whnf)
  intro g6 hg6
  skip
  (conv => whnf)
  intro g7 hg7
  skip
  (conv => whnf)
  refine other_app (Tryz.ok 10 [] [] [] w.heap.size [] w).T Tryz.underlying54 Tryz.underlying30 ?_
  skip
  (conv => whnf)
  refine raw_arg rfl rfl aA hrA ?_
  repeat' ((conv => whnf); first | refine side2 ?_ | fail)
  (conv => whnf)
  intro A9 cap9
  repeat' ((conv => whnf); first | refine walk (Tryz.ok ..) ?_ | fail)
  refine done_fuse (v := .slice (adr A9) (1 + d.length) cap9) rfl rfl [7, 6] (fun w' hw => ?_) rfl
  have h6 : NE w' _ (.slice (some ⟨g6, 0, none⟩) 1 1) [first] := blk_ownN Text [7, 6] 6 (g := g6) [first] [.string first] hw rfl rfl rfl (by unfold maxLen; simp) rfl ⟨rfl, trivial⟩
  refine nest_rowB hw (id := 7) rfl (by simp; omega) _ (fun g hg => .inl (gs_sub (i := 7) rfl rfl hg)) fun i x a hx ha => ?_
  cases i with
  | zero =>
    cases hx
    cases ha
    exact hs _ _ _ (ne_stays _ _ _ _ _ _ h6 (fun _ _ _ => rfl) (fun _ h => .inl h))
  | succ i => exact hR _ _ _ _ _ _ (hxA i x a hx ha) (fun g hg hlt => hw.keep.block g hlt (fun h => (by cases h))) (fun _ h => .inr h)
theorem ne_one {w : World} {B : Nat → Prop} {v : Value} {a : Elem} (h : NE w B v a) : v.oneCell' = true := nest_cells h
theorem nea_one {w : World} {B : Nat → Prop} {v : Value} {a : Elem} (h : NEA w B v a) : v.oneCell' = true := by
  obtain ⟨a, A, cap, xs, rfl, -⟩ := h
  rfl
theorem row_any (first : ByteArray) (d : Dat) (v : Value) (w : World) (Bd : Nat → Prop) (hA : NS w Bd v d) (hl : d.length * 24 ≤ 140737488351232) :
    Calls Tryz.prog 33 #[.string first, v] w (Gives id (fun w B v => NS w (fun g => B g ∨ Bd g) v ([first] :: d)) w) :=
  rown_any first d v w Bd NE ne_stays (fun _ _ _ _ h => ne_one h) (fun _ _ _ h => h) (nest_arg (fun _ _ _ _ h => h) hA) hl
theorem rowa_any (first : ByteArray) (d : Dat) (v : Value) (w : World) (Bd : Nat → Prop) (hA : NSA w Bd v d) (hl : d.length * 24 ≤ 140737488351232) :
    Calls Tryz.prog 33 #[.string first, v] w (Gives id (fun w B v => NSA w (fun g => B g ∨ Bd g) v ([first] :: d)) w) :=
  (rown_any first d v w Bd NEA nea_stays (fun _ _ _ _ h => nea_one h) (fun _ _ _ h => ne_arg h) hA hl).mono fun e w' ⟨v, gs, h1, h2, h3, h4⟩ => ⟨v, gs, h1, h2, nest_arg (fun _ _ _ _ h => h) h3, h4⟩
end Go.Proofs.YtdohcglpcgahaaaGreatDoor
