import Derived.Test.YtlkhafpkcfdlcaaDoorSatB
set_option linter.unusedSimpArgs false
set_option linter.unusedVariables false
namespace Go.Proofs.YtlkhafpkcfdlcaaDoor.Sat
open Go Go.RowKit Go.PlainAid
theorem fsub_of {f : Env} : ∀ {g : Env}, (g.map fun e => find f e.1) = (g.map fun e => some (Grd.yes, e.2.2)) → fsub f g := by
  intro g
  induction g with
  | nil => intro _; trivial
  | cons x g ih =>
    intro h
    obtain ⟨t, c, v⟩ := x
    simp only [List.map_cons, List.cons.injEq] at h
    refine ⟨?_, ih h.2⟩
    cases c with
    | wh b => trivial
    | yes => dsimp only; rw [h.1]
theorem heq_refl (b : HB) : heq b b := by cases b <;> simp [heq]
theorem hsub_of {H : Heap} : ∀ {G : Heap}, (G.map fun e => hfind H e.1) = (G.map fun e => some e.2) → hsub H G := by
  intro G
  induction G with
  | nil => intro _; trivial
  | cons x G ih =>
    intro h
    obtain ⟨i, b⟩ := x
    simp only [List.map_cons, List.cons.injEq] at h
    refine ⟨?_, ih h.2⟩
    unfold hent
    rw [h.1]
    exact heq_refl b
/-- goes on from a state that is laid anew: all by the kernel -/
theorem sat_lay {cx : Cx} {c : Code} {K : Exit → Env → Heap → Prop} {f : Env} {H : Heap} (S : Env × Heap) (h1 : (S.1.map fun e => find f e.1) = (S.1.map fun e => some (Grd.yes, e.2.2))) (h2 : (S.2.map fun e => hfind H e.1) = (S.2.map fun e => some e.2)) (hy : allYes cx.N S.1 = true) (h3 : marksOf cx.N f = marksOf cx.N S.1) (h : Sat cx c K S.1 S.2) : Sat cx c K f H :=
  sat_to S hy (fsub_of h1) (hsub_of h2) h3 h
end Go.Proofs.YtlkhafpkcfdlcaaDoor.Sat
namespace Go.Proofs.YtlkhafpkcfdlcaaDoor.Sat
open Go Go.RowKit Go.PlainAid
def apartB : List Nat → Bool
  | [] => true
  | i :: l => !(memN l i) && apartB l
theorem find_of {H : Heap} : ∀ {L : List (Nat × Nat × HB)}, (L.map fun x => hfind H x.2.1) = (L.map fun x => some x.2.2) → ∀ x ∈ L, hfind H x.2.1 = some x.2.2 := by
  intro L
  induction L with
  | nil => intro _ x hx; cases hx
  | cons y L ih =>
    intro h x hx
    simp only [List.map_cons, List.cons.injEq] at h
    rcases List.mem_cons.1 hx with rfl | hx
    · exact h.1
    · exact ih h.2 x hx
theorem apart_of : ∀ {L : List (Nat × Nat × HB)}, apartB (L.map fun x => x.2.1) = true → ∀ x ∈ L, ∀ y ∈ L, x.1 ≠ y.1 → x.2.1 ≠ y.2.1 := by
  intro L
  induction L with
  | nil => intro _ x hx; cases hx
  | cons z L ih =>
    intro h x hx y hy hne e
    simp only [List.map_cons, apartB, Bool.and_eq_true, Bool.not_eq_true'] at h
    have key : ∀ u ∈ L, u.2.1 ≠ z.2.1 := by
      intro u hu e
      have : memN (L.map fun x => x.2.1) z.2.1 = true := memN_iff.2 (List.mem_map.2 ⟨u, hu, e⟩)
      rw [this] at h
      exact absurd h.1 (by decide)
    rcases List.mem_cons.1 hx with h5 | h5
    · rcases List.mem_cons.1 hy with h6 | h6
      · exact hne (by rw [h5, h6])
      · exact key y h6 (by rw [← h5]; exact e.symm)
    · rcases List.mem_cons.1 hy with h6 | h6
      · exact key x h5 (by rw [← h6]; exact e)
      · exact ih h.2 x h5 y h6 hne e
theorem holds_ren {cx : Cx} {H : Heap} {w : World} (h : Holds cx H w) (L : List (Nat × Nat × HB)) (h1 : (L.map fun x => hfind H x.2.1) = (L.map fun x => some x.2.2)) (h2 : apartB (L.map fun x => x.2.1) = true) : Holds cx (L.map fun x => (x.1, x.2.2)) w := by
  have hf := find_of h1
  refine ⟨h.keep, h.n0, fun e he => ?_, fun i b j b' hi hj hne g hg hg' => ?_⟩
  · obtain ⟨x, hx, rfl⟩ := List.mem_map.1 he
    exact h.ent (x.2.1, x.2.2) (hfind_mem (hf x hx))
  · obtain ⟨x, hx, e1⟩ := List.mem_map.1 hi
    obtain ⟨y, hy, e2⟩ := List.mem_map.1 hj
    cases e1
    cases e2
    exact h.sep x.2.1 x.2.2 y.2.1 y.2.2 (hfind_mem (hf x hx)) (hfind_mem (hf y hy)) (apart_of h2 x hx y hy hne) g hg hg'
/-- goes on from a state that is laid anew, entries under other names -/
theorem sat_ren {cx : Cx} {c : Code} {K : Exit → Env → Heap → Prop} {f : Env} {H : Heap} (S : Env) (L : List (Nat × Nat × HB)) (h1 : (L.map fun x => hfind H x.2.1) = (L.map fun x => some x.2.2)) (h2 : apartB (L.map fun x => x.2.1) = true) (hy : allYes cx.N S = true) (h3 : marksOf cx.N f = marksOf cx.N S) (h4 : fsub f S) (h : Sat cx c K S (L.map fun x => (x.1, x.2.2))) : Sat cx c K f H :=
  ⟨fun a w hf hw => h.out a w (hf.sub h4 hy h3) (holds_ren hw L h1 h2)⟩
/-- a callee that returns one of two things that it was given, or a row of its own -/
theorem called_alt3 {cx : Cx} {n : Nat} {args : List SV} {H : Heap} {K : SV → Heap → Prop} (d : Nat) {e s m : Nat} {xs : List Value} (r1 r2 : SV) {p1 p2 : Prop}
    (h : ∀ w, Holds cx H w → Calls cx.P n (args.map SV.real).toArray w fun e' w' => (e' = .returned r1.real ∧ p1 ∧ Below w.heap.size w w') ∨ (e' = .returned r2.real ∧ p2 ∧ Below w.heap.size w w') ∨ (∃ v, e' = .returned v ∧ w'.ownsRow w.heap.size e s v m xs ∧ Below w.heap.size w w'))
    (hk1 : p1 → K r1 H) (hk2 : p2 → K r2 H) (hk3 : ∀ A cap, K (.o d A m cap) ((d, .row A e s m cap xs) :: hdel H d)) : Called cx n args H K := by
  refine ⟨fun w hw => (h w hw).mono fun _ w' hp => ?_⟩
  rcases hp with ⟨he, hp, hb⟩ | ⟨he, hp, hb⟩ | ⟨v, he, hv, hb⟩
  · exact ⟨r1, H, he, hw.below hb, hk1 hp⟩
  · exact ⟨r2, H, he, hw.below hb, hk2 hp⟩
  · obtain ⟨A, cap, rfl, _⟩ := own_val hv
    exact ⟨.o d A m cap, _, he, hw.fresh hb d hv, hk3 A cap⟩
end Go.Proofs.YtlkhafpkcfdlcaaDoor.Sat
