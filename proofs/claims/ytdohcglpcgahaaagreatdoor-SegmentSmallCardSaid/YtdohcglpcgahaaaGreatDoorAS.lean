/-
  append(b, s...): a string's bytes onto a row of one's own.
-/
import Derived.Test.YtdohcglpcgahaaaGreatDoorSatB
import Derived.Lib.AppendStr
set_option linter.unusedSimpArgs false
set_option linter.unusedVariables false
namespace Go.Proofs.YtdohcglpcgahaaaGreatDoor
open Go Sat Go.RowKit Go.PlainAid
theorem run_append_str_at {P : Program} (w : World) (base : Nat) (t u ty e : TypeId) (i : TypeInfo) (ht : P.underlying t = some (.slice e)) (hu : P.underlying u = some .string) (hi : P.info? e = some i) (hz : i.zero = some (.int .u8 0))
    (hsize : i.size = 1) (hby : i.bytes = 1) (v : Value) (n : Nat) (xs : List Value) (hown : w.ownsRow base e 1 v n xs) (s : ByteArray) (h63 : n + s.size ≤ maxLen) (hbytes : n + s.size ≤ 140737488355328) (hbase : base ≤ w.heap.size) :
    ∃ A2 cap2 w', (Builtin.append_ #[t, u] ty #[v, .string s]).run P w = .ok (.slice (adr A2) (n + s.size) cap2) w' ∧ w'.ownsRow base e 1 (.slice (adr A2) (n + s.size) cap2) (n + s.size) (xs ++ Lib.strCells s) ∧ w.grownBy w' v.ownBlock ∧ (A2.map Prod.fst = v.ownBlock ∨ A2.map Prod.fst = some w.heap.size) := by
  obtain ⟨v', w', hr, h2, h3, h4⟩ := Lib.run_append_own_string (P := P) w base t u ty e i ht hu hi hz hsize hby v n xs hown s h63 hbytes hbase
  obtain ⟨A2, cap2, rfl, hb⟩ := own_val h2
  refine ⟨A2, cap2, w', hr, h2, h3, ?_⟩
  have hsmall : n + s.size ≤ 9223372036854775807 := by simp only [maxLen] at h63; omega
  have hxl : xs.length = n := by simpa using hown.1
  have key : ∀ {a : Option Addr} {m c : Nat} {w2 : World}, (Builtin.append_ #[t, u] ty #[v, .string s]).run P w = .ok (.slice a m c) w2 → adr A2 = a := fun h => by
    rw [hr] at h
    injection h with h _
    injection h with h _ _
  have fst_of : ∀ {g : Nat}, adr A2 = some ⟨g, 0, none⟩ → A2.map Prod.fst = some g := fun h => by
    cases A2 with
    | none => cases h
    | some p =>
      simp only [adr, Option.map_some, Option.some.injEq, Addr.mk.injEq] at h
      simp [h.1]
  rcases hown.2 with ⟨rfl, rfl⟩ | ⟨g, cap, cur, rfl, hbg, hg, hnc, hcm, hcs, htake⟩
  · by_cases hm : s.size = 0
    · left
      have h5 := h4.2 ⟨rfl, hm⟩
      injection h5 with h5 _ _
      cases A2 with
      | none => rfl
      | some p => cases h5
    · right
      have hr2 := run_append_nil_string (P := P) w t u ty e i (.int .u8 0) ht hu hi hz s (by omega) (by omega) (by rw [hby]; omega)
      exact fst_of (key hr2)
  · by_cases hroom : n + s.size ≤ cap
    · left
      have hcs' : cur.size = cap := by simpa using hcs
      exact fst_of (key (Lib.run_append_room_string (P := P) w t u ty e i ht hu hi hsize g n cap cur hg s hroom (by omega)))
    · right
      have holds : ∀ j u, xs[j]? = some u → w.cell? ((⟨g, 0, none⟩ : Addr).add j) = some u := hown.cells (g := g) rfl
      exact fst_of (key (Lib.run_append_grow_string (P := P) w t u ty e i (.int .u8 0) ht hu hi hz ⟨g, 0, none⟩ n cap xs (by rw [hsize]; simpa using hxl) holds s (by omega) (by omega) (by rw [hby]; exact growslice_fits (by omega) (by omega))))
theorem exec_app {P : Program} {a : Act} {x y : Operand} {dT sT : Nat} {u v r : Value} {w w' : World} (hx : a.eval x = u) (hy : a.eval y = v) {o : Oper} (ho : o.op = .call ⟨.builtin .append, #[x, y], #[dT, sT]⟩)
    (h : ∀ ty, (Builtin.append_ #[dT, sT] ty #[u, v]).run P w = .ok r w') : (execOp a.eval o).run P w = .ok (.value r) w' := by
  obtain ⟨dst, op, ty, pos, after, gd⟩ := o
  dsimp only at ho
  subst ho
  rw [BigFrame.execOp_builtin]
  refine run_v' ?_
  have e : (#[x, y] : Array Operand).map a.eval = #[u, v] := by simp [hx, hy]
  rw [e]
  exact h ty
/-- a byte's type, as the tables have it -/
structure ByteTy (cx : Cx) (t u e : Nat) : Prop where
  sl : cx.P.underlying t = some (.slice e)
  str : cx.P.underlying u = some .string
  info : ∃ i, cx.P.info? e = some i ∧ i.zero = some (.int .u8 0) ∧ i.size = 1 ∧ i.bytes = 1
theorem other_app_str {cx : Cx} {t u e : Nat} (hT : ByteTy cx t u e) {H : Heap} {f : Env} {dst : Option Nat} {K : SV → Heap → Prop} {x y : Operand} (id : Nat) {A : Option (Nat × Nat)} {n cap : Nat} {xs : List Value} (hf : hfind H id = some (.row A e 1 n cap xs))
    (s : ByteArray) (hx : ev f .yes x (fun v => v = .o id A n cap)) (hy : ev f .yes y (fun v => v = .v (.string s))) (hb : n + s.size ≤ 140737488355328)
    (hk : ∀ A2 cap2, K (.o id A2 (n + s.size) cap2) ((id, .row A2 e 1 (n + s.size) cap2 (xs ++ Lib.strCells s)) :: hdel H id)) : OtherM cx H f (.call ⟨.builtin .append, #[x, y], #[t, u]⟩) dst K := by
  refine ⟨fun a w hfit hw o ho => ?_⟩
  obtain ⟨p, hp, rfl⟩ := ev_sound hfit hx
  obtain ⟨q, hq, rfl⟩ := ev_sound hfit hy
  obtain ⟨i, hi, hz, h1, h2⟩ := hT.info
  have hr : w.ownsRow cx.n0 e 1 (.slice (adr A) n cap) n xs := hw.at_ hf
  have hob : (Value.slice (adr A) n cap).ownBlock = A.map Prod.fst := by cases A <;> rfl
  have hrun : ∀ ty, ∃ A2 cap2 w', (Builtin.append_ #[t, u] ty #[.slice (adr A) n cap, .string s]).run cx.P w = .ok (.slice (adr A2) (n + s.size) cap2) w' ∧ w'.ownsRow cx.n0 e 1 (.slice (adr A2) (n + s.size) cap2) (n + s.size) (xs ++ Lib.strCells s) ∧ w.grownBy w' (A.map Prod.fst) ∧ (A2.map Prod.fst = A.map Prod.fst ∨ A2.map Prod.fst = some w.heap.size) := fun ty => by
    have := run_append_str_at (P := cx.P) w cx.n0 t u ty e i hT.sl hT.str hi hz h1 h2 _ n xs hr s (by unfold maxLen; omega) hb (Nat.le_trans hw.n0 hw.keep.size)
    rw [hob] at this
    exact this
  obtain ⟨A2, cap2, w', r1, r2, r3, r4⟩ := hrun 0
  have hall : ∀ ty, (Builtin.append_ #[t, u] ty #[.slice (adr A) n cap, .string s]).run cx.P w = .ok (.slice (adr A2) (n + s.size) cap2) w' := fun ty => r1
  refine ⟨.o id A2 (n + s.size) cap2, _, w', .inl (exec_app (hp trivial) (hq trivial) ho hall), hw.grown (A := A) (e := e) (size := 1) (n := n) (cap := cap) ?_ r3 r2 r4, hk A2 cap2⟩
  intro g hg
  have hg' : A.map Prod.fst = some g := by simpa [HB.gs] using hg
  refine ⟨(hr.lt g (by rw [hob]; exact hg')).1, fun y hy hgy => ?_⟩
  obtain ⟨hy1, hy2⟩ := hdel_mem hy
  exact hw.sep _ _ _ _ hy1 (hfind_mem hf) hy2 g hgy (by simpa [HB.gs] using hg)
end Go.Proofs.YtdohcglpcgahaaaGreatDoor
