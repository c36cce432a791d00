/-
  The walk of the law's trims.
-/
import Derived.Test.YtdohcglpcgahaaaDoorTR1
import Derived.Test.YtdohcglpcgahaaaDoorW2
import Derived.Test.YtdohcglpcgahaaaDoorVC
import Derived.Test.YtdohcglpcgahaaaDoorSWf
set_option linter.unusedSimpArgs false
set_option linter.unusedVariables false
namespace Go.Proofs.YtdohcglpcgahaaaDoor
open Go Sat Go.RowKit Go.PlainAid
set_option maxRecDepth 100000 in
set_option maxHeartbeats 8000000 in
/-- data as a list of one segment -/
theorem lists_any {R : Lies Dat} (hR : Stays R) (hsl : ∀ w B v a, R w B v a → ∃ p n c, v = .slice p n c) (d : Dat) (v : Value) (w : World) (Bd : Nat → Prop) (hA : R w Bd v d) :
    Calls Tryd.prog 14 #[v] w (Gives id (fun w B v => Nest R w (fun g => B g ∨ Bd g) v [d]) w) := by
  obtain ⟨p, n, c, rfl⟩ := hsl _ _ _ _ hA
  refine calls_sat (cx := Tryd.cx 5 [] [] [] w) (Tryd.ok ..) Tryd.func14 rfl [.v (.slice p n c)] rfl (by show 1 ≤ 5; omega) [] (holds_nil (Nat.le_refl _)) ?_
  repeat' ((conv => whnf); first | refine walk (Tryd.ok ..) ?_ | (refine Cnd.mk (fun h => ?_) (fun h => ?_) <;> (first | exact cndT h (by (try dsimp only); omega) | exact cndF h (by (try dsimp only); omega) | (exfalso; simp at h; omega) | simp at h | skip)) | refine kp ?_ ?_ | refine tw ?_ ?_ | refine appnil rfl ?_ | refine rawnil rfl ?_ | exact trivial | refine side2 ?_ | refine sideL2 ?_ | refine Or.inr ?_ | refine sat_drawH (Tryd.ok ..) (by kernel_rfl) ?_ | refine xi _ (And.intro rfl rfl) ?_ | refine xi _ (fun _ => And.intro rfl rfl) ?_ | refine xi _ rfl ?_)
  (conv => whnf)
  intro g4 hg4
  repeat' ((conv => whnf); first | refine walk (Tryd.ok ..) ?_ | (refine Cnd.mk (fun h => ?_) (fun h => ?_) <;> (first | exact cndT h (by (try dsimp only); omega) | exact cndF h (by (try dsimp only); omega) | (exfalso; simp at h; omega) | simp at h | skip)) | refine kp ?_ ?_ | refine tw ?_ ?_ | refine appnil rfl ?_ | refine rawnil rfl ?_ | exact trivial | refine side2 ?_ | refine sideL2 ?_ | refine Or.inr ?_ | refine sat_drawH (Tryd.ok ..) (by kernel_rfl) ?_ | refine xi _ (And.intro rfl rfl) ?_ | refine xi _ (fun _ => And.intro rfl rfl) ?_ | refine xi _ rfl ?_)
  refine done_fuse (v := .slice (some ⟨g4, 0, none⟩) 1 1) rfl rfl [4] (fun w' hw => ?_) rfl
  have hb : (HB.blk g4 68 [.v (.slice p n c)]).holds (Tryd.cx 5 [] [] [] w) w' := hw.at_ (i := 4) rfl
  refine ⟨some (g4, 0), 1, [.slice p n c], rfl, ⟨Nat.le_refl _, by unfold maxLen; simp⟩, ⟨rfl, fun _ => ⟨(g4, 0), rfl, heap_lt hb.2, fun j u hu => ?_⟩⟩, fun q hq _ => ⟨.inl (gs_sub (i := 4) rfl rfl (by cases hq; exact List.mem_singleton_self _)), by cases hq; exact ⟨_, _, hb.2⟩⟩, fun i x a hx ha => ?_⟩
  · rw [Lib.cell_of_heap hb.2]
    have hu' : [(SV.v (Value.slice p n c)).r1][j]? = some u := hu
    simpa using hu'
  · cases i with
    | zero =>
      cases hx
      cases ha
      exact hR _ _ _ _ _ _ hA (fun g _ hg => hw.keep.block g hg (fun h => (by cases h))) (fun _ h => .inr h)
    | succ i => simp at hx
theorem ite_iff {α : Type} {p q : Prop} [Decidable p] [Decidable q] (h : p ↔ q) (a b : α) : (if p then a else b) = (if q then a else b) := by
  by_cases hp : p
  · rw [if_pos hp, if_pos (h.1 hp)]
  · rw [if_neg hp, if_neg (fun hq => hp (h.2 hq))]
theorem ns_sl (w : World) (B : Nat → Prop) (v : Value) (a : Dat) (h : NS w B v a) : ∃ p n c, v = .slice p n c := by
  obtain ⟨A, cap, xs, hv, -⟩ := h
  exact ⟨_, _, _, hv⟩
theorem nsa_sl (w : World) (B : Nat → Prop) (v : Value) (a : Dat) (h : NSA w B v a) : ∃ p n c, v = .slice p n c := by
  obtain ⟨a, A, cap, xs, hv, -⟩ := h
  exact ⟨_, _, _, hv⟩
theorem nest_to {α : Type} {R : Lies α} {w : World} {B : Nat → Prop} {v : Value} {l : List α} (h : Nest R w B v l) : NestA R w B v l := nest_arg (fun _ _ _ _ h => h) h
theorem fewL_one {d : Dat} (h : FewS d) : FewL [d] := ⟨by simp, fun s hs => by rw [List.mem_singleton] at hs; subst hs; exact h.top, fun s hs e he => by rw [List.mem_singleton] at hs; subst hs; exact h.el e he⟩
set_option maxRecDepth 100000 in
set_option maxHeartbeats 16000000 in
theorem trims_any (d : Dat) (v : Value) (el co : Int) (w : World) (hA : NSA w (fun _ => True) v d) (hf : FewS d) :
    Calls Tryd.prog 15 #[v, .int .i64 el, .int .i64 co] w fun e w' => e = .returned (.bool true) ∧ Below w.heap.size w w' := by
  have hA0 := hA
  obtain ⟨A', A, cA, xs, rfl, aA, hcA, hrA, -, hxA⟩ := hA
  refine calls_sat (cx := Tryd.cx 109 [] [] [] w) (Tryd.ok ..) Tryd.func15 rfl [.v (.slice A' d.length cA), .v (.int .i64 el), .v (.int .i64 co)] rfl (by show 3 ≤ 109; omega) [] (holds_nil (Nat.le_refl _)) ?_
  have hmax : d.length ≤ 9223372036854775807 := Nat.le_trans (Nat.le_trans hcA.1 hcA.2) (by decide)
  repeat' ((conv => whnf); first | refine walk (Tryd.ok ..) ?_ | (refine Cnd.mk (fun h => ?_) (fun h => ?_) <;> (first | exact cndT h (by (try dsimp only); omega) | exact cndF h (by (try dsimp only); omega) | (exfalso; simp at h; omega) | simp at h | skip)) | refine kp ?_ ?_ | refine tw ?_ ?_ | refine appnil rfl ?_ | refine rawnil rfl ?_ | exact trivial | refine side2 ?_ | refine sideL2 ?_ | refine Or.inr ?_ | refine sat_drawH (Tryd.ok ..) (by kernel_rfl) ?_ | refine xi _ (And.intro rfl rfl) ?_ | refine xi _ (fun _ => And.intro rfl rfl) ?_ | refine xi _ rfl ?_)
  (conv => whnf)
  refine called_nestK 900 (mk := id) (Q := fun w' B v => Nest NSA w' (fun g => B g ∨ g < w.heap.size) v [d]) (fun v => .v v) (fun _ => rfl) (fun w' hh => by exact lists_any nsa_stays nsa_sl d _ w' _ (lent_low nsa_stays nsa_narrow rfl rfl hA0 hh)) ?_
  intro w1 gs1 v1 h1 hw1
  repeat' ((conv => whnf); first | refine walk (Tryd.ok ..) ?_ | (refine Cnd.mk (fun h => ?_) (fun h => ?_) <;> (first | exact cndT h (by (try dsimp only); omega) | exact cndF h (by (try dsimp only); omega) | (exfalso; simp at h; omega) | simp at h | skip)) | refine kp ?_ ?_ | refine tw ?_ ?_ | refine appnil rfl ?_ | refine rawnil rfl ?_ | exact trivial | refine side2 ?_ | refine sideL2 ?_ | refine Or.inr ?_ | refine sat_drawH (Tryd.ok ..) (by kernel_rfl) ?_ | refine xi _ (And.intro rfl rfl) ?_ | refine xi _ (fun _ => And.intro rfl rfl) ?_ | refine xi _ rfl ?_)
  (conv => whnf)
  refine called_nest 901 (mk := id) (Q := fun w B v => NL w B v [d]) (fun v => .v v) (fun _ => rfl) (fun w' hh => by exact own_any [d] v1 w' (nest_to (mix_nest (nest_stays nsa_stays) rfl h1 hw1 (d := 900) rfl hh _ (fun _ _ => trivial))) (fewL_one hf)) ?_
  intro w2 gs2 v2 h2
  obtain ⟨A2, c2, xs2, rfl, hc2, hr2, hB2, hx2⟩ := h2
  obtain ⟨x2, hx20, hown⟩ := nest_at hx2 hr2.1 (i := 0) (a := d) rfl
  obtain ⟨p2, rfl, _⟩ := hr2.some_ (by simp)
  have hown0 := hown
  obtain ⟨Ao, co', xo, rfl, hco, hro, hBo, hxo⟩ := hown0
  rw [show [d].length = 1 from rfl] at hc2 hr2 hB2 ⊢
  repeat' ((conv => whnf); first | refine walk (Tryd.ok ..) ?_ | (refine Cnd.mk (fun h => ?_) (fun h => ?_) <;> (first | exact cndT h (by (try dsimp only); omega) | exact cndF h (by (try dsimp only); omega) | (exfalso; simp at h; omega) | simp at h | skip)) | refine kp ?_ ?_ | refine tw ?_ ?_ | refine appnil rfl ?_ | refine rawnil rfl ?_ | exact trivial | refine side2 ?_ | refine sideL2 ?_ | refine Or.inr ?_ | refine sat_drawH (Tryd.ok ..) (by kernel_rfl) ?_ | refine xi _ (And.intro rfl rfl) ?_ | refine xi _ (fun _ => And.intro rfl rfl) ?_ | refine xi _ rfl ?_ | refine xi _ (fun _ => (frz_at (d := 901) hr2 hB2 hx20 rfl rfl)) ?_ | refine xi _ (frz_at (d := 901) hr2 hB2 hx20 rfl rfl) ?_)
  (conv => whnf)
  refine called_nest 902 (mk := id) (Q := fun w B v => NS w B v (trimS d)) (fun v => .v v) (fun _ => rfl) (fun w' hh => by exact trim_any d _ w' (ns_arg (frz_nest ns_stays hown (d := 901) rfl hh)) hf) ?_
  intro w3 gs3 v3 h3
  obtain ⟨a3, n3, c3, rfl⟩ := ns_sl _ _ _ _ h3
  repeat' ((conv => whnf); first | refine walk (Tryd.ok ..) ?_ | (refine Cnd.mk (fun h => ?_) (fun h => ?_) <;> (first | exact cndT h (by (try dsimp only); omega) | exact cndF h (by (try dsimp only); omega) | (exfalso; simp at h; omega) | simp at h | skip)) | refine kp ?_ ?_ | refine tw ?_ ?_ | refine appnil rfl ?_ | refine rawnil rfl ?_ | exact trivial | refine side2 ?_ | refine sideL2 ?_ | refine Or.inr ?_ | refine sat_drawH (Tryd.ok ..) (by kernel_rfl) ?_ | refine xi _ (And.intro rfl rfl) ?_ | refine xi _ (fun _ => And.intro rfl rfl) ?_ | refine xi _ rfl ?_)
  (conv => whnf)
  refine called_nest 903 (mk := id) (Q := fun w B v => NS w B v (trimS d)) (fun v => .v v) (fun _ => rfl) (fun w' hh => by exact rtrim_any d _ w' (lent_nest nsa_stays rfl rfl hA0 hh) hf) ?_
  intro w4 gs4 v4 h4
  obtain ⟨a4, n4, c4, rfl⟩ := ns_sl _ _ _ _ h4
  repeat' ((conv => whnf); first | refine walk (Tryd.ok ..) ?_ | (refine Cnd.mk (fun h => ?_) (fun h => ?_) <;> (first | exact cndT h (by (try dsimp only); omega) | exact cndF h (by (try dsimp only); omega) | (exfalso; simp at h; omega) | simp at h | skip)) | refine kp ?_ ?_ | refine tw ?_ ?_ | refine appnil rfl ?_ | refine rawnil rfl ?_ | exact trivial | refine side2 ?_ | refine sideL2 ?_ | refine Or.inr ?_ | refine sat_drawH (Tryd.ok ..) (by kernel_rfl) ?_ | refine xi _ (And.intro rfl rfl) ?_ | refine xi _ (fun _ => And.intro rfl rfl) ?_ | refine xi _ rfl ?_)
  (conv => whnf)
  refine called_nestK 904 (mk := id) (Q := fun w' B v => Nest NS w' (fun g => B g ∨ g ∈ gs4) v [trimS d]) (fun v => .v v) (fun _ => rfl) (fun w' hh => by exact lists_any ns_stays ns_sl (trimS d) _ w' _ (frz_nest' ns_stays h4 (d := 903) rfl hh (fun _ h => h))) ?_
  intro w5 gs5 v5 h5 hw5
  repeat' ((conv => whnf); first | refine walk (Tryd.ok ..) ?_ | (refine Cnd.mk (fun h => ?_) (fun h => ?_) <;> (first | exact cndT h (by (try dsimp only); omega) | exact cndF h (by (try dsimp only); omega) | (exfalso; simp at h; omega) | simp at h | skip)) | refine kp ?_ ?_ | refine tw ?_ ?_ | refine appnil rfl ?_ | refine rawnil rfl ?_ | exact trivial | refine side2 ?_ | refine sideL2 ?_ | refine Or.inr ?_ | refine sat_drawH (Tryd.ok ..) (by kernel_rfl) ?_ | refine xi _ (And.intro rfl rfl) ?_ | refine xi _ (fun _ => And.intro rfl rfl) ?_ | refine xi _ rfl ?_)
  (conv => whnf)
  refine called_nestK 905 (mk := id) (Q := fun w' B v => Nest NS w' (fun g => B g ∨ g ∈ gs3) v [trimS d]) (fun v => .v v) (fun _ => rfl) (fun w' hh => by exact lists_any ns_stays ns_sl (trimS d) _ w' _ (frz_nest' ns_stays h3 (d := 902) rfl hh (fun _ h => h))) ?_
  intro w6 gs6 v6 h6 hw6
  repeat' ((conv => whnf); first | refine walk (Tryd.ok ..) ?_ | (refine Cnd.mk (fun h => ?_) (fun h => ?_) <;> (first | exact cndT h (by (try dsimp only); omega) | exact cndF h (by (try dsimp only); omega) | (exfalso; simp at h; omega) | simp at h | skip)) | refine kp ?_ ?_ | refine tw ?_ ?_ | refine appnil rfl ?_ | refine rawnil rfl ?_ | exact trivial | refine side2 ?_ | refine sideL2 ?_ | refine Or.inr ?_ | refine sat_drawH (Tryd.ok ..) (by kernel_rfl) ?_ | refine xi _ (And.intro rfl rfl) ?_ | refine xi _ (fun _ => And.intro rfl rfl) ?_ | refine xi _ rfl ?_)
  (conv => whnf)
  refine called_at (.v (.bool true)) rfl (fun w' hh => by
    have h := same_any [trimS d] [trimS d] v6 v5 w' (nl_arg (two_nest nl_stays h6 hw6 (d := 905) (d1 := 902) rfl hh rfl rfl _ (fun _ _ => trivial))) (nl_arg (two_nest nl_stays h5 hw5 (d := 904) (d1 := 903) rfl hh rfl rfl _ (fun _ _ => trivial)))
    rw [decide_eq_true rfl] at h
    exact h) ?_
  repeat' ((conv => whnf); first | refine walk (Tryd.ok ..) ?_ | (refine Cnd.mk (fun h => ?_) (fun h => ?_) <;> (first | exact cndT h (by (try dsimp only); omega) | exact cndF h (by (try dsimp only); omega) | (exfalso; simp at h; omega) | simp at h | skip)) | refine kp ?_ ?_ | refine tw ?_ ?_ | refine appnil rfl ?_ | refine rawnil rfl ?_ | exact trivial | refine side2 ?_ | (with_reducible refine Or.inr (Cnd.mk (fun _ => ?_) (fun h => absurd (of_decide_eq_false h) (by omega)))) | (with_reducible refine Or.inr (Cnd.mk (fun _ => ?_) (fun h => absurd h (by simp)))) | refine sideL2 ?_ | refine Or.inr ?_ | refine sat_drawH (Tryd.ok ..) (by kernel_rfl) ?_ | refine xi _ (And.intro rfl rfl) ?_ | refine xi _ (fun _ => And.intro rfl rfl) ?_ | refine xi _ rfl ?_)
  (conv => whnf)
  refine called_nestK 906 (mk := id) (Q := fun w' B v => Nest NS w' (fun g => B g ∨ g ∈ gs2) v [d]) (fun v => .v v) (fun _ => rfl) (fun w' hh => by exact lists_any ns_stays ns_sl d _ w' _ (frz_nest' ns_stays hown (d := 901) rfl hh (fun _ h => h))) ?_
  intro w7 gs7 v7 h7 hw7
  repeat' ((conv => whnf); first | refine walk (Tryd.ok ..) ?_ | (refine Cnd.mk (fun h => ?_) (fun h => ?_) <;> (first | exact cndT h (by (try dsimp only); omega) | exact cndF h (by (try dsimp only); omega) | (exfalso; simp at h; omega) | simp at h | skip)) | refine kp ?_ ?_ | refine tw ?_ ?_ | refine appnil rfl ?_ | refine rawnil rfl ?_ | exact trivial | refine side2 ?_ | (with_reducible refine Or.inr (Cnd.mk (fun _ => ?_) (fun h => absurd (of_decide_eq_false h) (by omega)))) | (with_reducible refine Or.inr (Cnd.mk (fun _ => ?_) (fun h => absurd h (by simp)))) | refine sideL2 ?_ | refine Or.inr ?_ | refine sat_drawH (Tryd.ok ..) (by kernel_rfl) ?_ | refine xi _ (And.intro rfl rfl) ?_ | refine xi _ (fun _ => And.intro rfl rfl) ?_ | refine xi _ rfl ?_)
  (conv => whnf)
  refine called_nestK 907 (mk := id) (Q := fun w' B v => Nest NSA w' (fun g => B g ∨ g < w.heap.size) v [d]) (fun v => .v v) (fun _ => rfl) (fun w' hh => by exact lists_any nsa_stays nsa_sl d _ w' _ (lent_low nsa_stays nsa_narrow rfl rfl hA0 hh)) ?_
  intro w8 gs8 v8 h8 hw8
  repeat' ((conv => whnf); first | refine walk (Tryd.ok ..) ?_ | (refine Cnd.mk (fun h => ?_) (fun h => ?_) <;> (first | exact cndT h (by (try dsimp only); omega) | exact cndF h (by (try dsimp only); omega) | (exfalso; simp at h; omega) | simp at h | skip)) | refine kp ?_ ?_ | refine tw ?_ ?_ | refine appnil rfl ?_ | refine rawnil rfl ?_ | exact trivial | refine side2 ?_ | (with_reducible refine Or.inr (Cnd.mk (fun _ => ?_) (fun h => absurd (of_decide_eq_false h) (by omega)))) | (with_reducible refine Or.inr (Cnd.mk (fun _ => ?_) (fun h => absurd h (by simp)))) | refine sideL2 ?_ | refine Or.inr ?_ | refine sat_drawH (Tryd.ok ..) (by kernel_rfl) ?_ | refine xi _ (And.intro rfl rfl) ?_ | refine xi _ (fun _ => And.intro rfl rfl) ?_ | refine xi _ rfl ?_)
  (conv => whnf)
  refine called_at (.v (.bool true)) rfl (fun w' hh => by
    have h := same_any [d] [d] v7 v8 w' (nl_arg (two_nest nl_stays h7 hw7 (d := 906) (d1 := 901) rfl hh rfl rfl _ (fun _ _ => trivial))) (nest_to (mix_nest (nest_stays nsa_stays) rfl h8 hw8 (d := 907) rfl hh _ (fun _ _ => trivial)))
    rw [decide_eq_true rfl] at h
    exact h) ?_
  repeat' ((conv => whnf); first | refine walk (Tryd.ok ..) ?_ | (refine Cnd.mk (fun h => ?_) (fun h => ?_) <;> (first | exact cndT h (by (try dsimp only); omega) | exact cndF h (by (try dsimp only); omega) | (exfalso; simp at h; omega) | simp at h | skip)) | refine kp ?_ ?_ | refine tw ?_ ?_ | refine appnil rfl ?_ | refine rawnil rfl ?_ | exact trivial | refine side2 ?_ | refine sideL2 ?_ | refine Or.inr ?_ | refine sat_drawH (Tryd.ok ..) (by kernel_rfl) ?_ | refine xi _ (And.intro rfl rfl) ?_ | refine xi _ (fun _ => And.intro rfl rfl) ?_ | refine xi _ rfl ?_)
  refine sat_loop (Tryd.ok ..) (α := Nat) (fun i => ([(0, .yes, .v (.slice A' d.length cA)), (1, .yes, .v (.int .i64 el)), (2, .yes, .v (.int .i64 co)), (7, .yes, .v (.slice (adr Ao) d.length co')), (8, .yes, .v (.slice a3 n3 c3)), (9, .yes, .v v5), (10, .yes, .v (.string (if 0 ≤ el ∧ el < i then fieldS d el co else emp))), (11, .yes, .v (.int .i64 i))], [(901, .own gs2 (Frz w2 gs2)), (902, .own gs3 (Frz w3 gs3)), (903, .own gs4 (Frz w4 gs4)), (904, .own gs5 (Frz w5 gs5))]))
    (fun i => i ≤ d.length) (fun i => d.length - i) (fun _ => rfl) ?_ ?_
  · refine ⟨0, Nat.zero_le _, ?_, ?_, rfl⟩
    all_goals ((repeat' (first | exact trivial | exact rfl | refine And.intro ?_ ?_)) <;> (try (conv => whnf)) <;> (try simp only [SV.real, SV.r2, SV.r1]))
    all_goals exact congrArg Value.string (by rw [if_neg (by omega)]; rfl)
  rintro i hi
  by_cases hi1 : i < d.length
  case neg =>
    obtain rfl : i = d.length := by omega
    have hfin : (if 0 ≤ el ∧ el < d.length then fieldS d el co else emp) = fieldS d el co := by
      by_cases h1 : 0 ≤ el ∧ el < d.length
      · rw [if_pos h1]
      · rw [if_neg h1]
        unfold fieldS
        split
        · rw [List.getElem?_eq_none (by omega)]
          rfl
        · rfl
    rw [hfin]
    repeat' ((conv => whnf); first | refine walk (Tryd.ok ..) ?_ | (refine Cnd.mk (fun h => ?_) (fun h => ?_) <;> (first | exact cndT h (by (try dsimp only); omega) | exact cndF h (by (try dsimp only); omega) | (exfalso; simp at h; omega) | simp at h | skip)) | refine kp ?_ ?_ | refine tw ?_ ?_ | refine appnil rfl ?_ | refine rawnil rfl ?_ | exact trivial | refine side2 ?_ | refine sideL2 ?_ | refine Or.inr ?_ | refine sat_drawH (Tryd.ok ..) (by kernel_rfl) ?_ | refine xi _ (And.intro rfl rfl) ?_ | refine xi _ (fun _ => And.intro rfl rfl) ?_ | refine xi _ rfl ?_)
    (conv => whnf)
    intro g13 hg13
    repeat' ((conv => whnf); first | refine walk (Tryd.ok ..) ?_ | (refine Cnd.mk (fun h => ?_) (fun h => ?_) <;> (first | exact cndT h (by (try dsimp only); omega) | exact cndF h (by (try dsimp only); omega) | (exfalso; simp at h; omega) | simp at h | skip)) | refine kp ?_ ?_ | refine tw ?_ ?_ | refine appnil rfl ?_ | refine rawnil rfl ?_ | exact trivial | refine side2 ?_ | refine sideL2 ?_ | refine Or.inr ?_ | refine sat_drawH (Tryd.ok ..) (by kernel_rfl) ?_ | refine xi _ (And.intro rfl rfl) ?_ | refine xi _ (fun _ => And.intro rfl rfl) ?_ | refine xi _ rfl ?_)
    (conv => whnf)
    intro g14 hg14
    repeat' ((conv => whnf); first | refine walk (Tryd.ok ..) ?_ | (refine Cnd.mk (fun h => ?_) (fun h => ?_) <;> (first | exact cndT h (by (try dsimp only); omega) | exact cndF h (by (try dsimp only); omega) | (exfalso; simp at h; omega) | simp at h | skip)) | refine kp ?_ ?_ | refine tw ?_ ?_ | refine appnil rfl ?_ | refine rawnil rfl ?_ | exact trivial | refine side2 ?_ | refine sideL2 ?_ | refine Or.inr ?_ | refine sat_drawH (Tryd.ok ..) (by kernel_rfl) ?_ | refine xi _ (And.intro rfl rfl) ?_ | refine xi _ (fun _ => And.intro rfl rfl) ?_ | refine xi _ rfl ?_)
    (conv => whnf)
    refine called_at (.v (.string (fieldS d el co))) rfl (fun w' hh => by exact field_any ⟨#[65, 66, 67]⟩ d _ el co w' (ns_arg (frz_nest ns_stays hown (d := 901) rfl hh))) ?_
    repeat' ((conv => whnf); first | refine walk (Tryd.ok ..) ?_ | (refine Cnd.mk (fun h => ?_) (fun h => ?_) <;> (first | exact cndT h (by (try dsimp only); omega) | exact cndF h (by (try dsimp only); omega) | (exfalso; simp at h; omega) | simp at h | skip)) | refine kp ?_ ?_ | refine tw ?_ ?_ | refine appnil rfl ?_ | refine rawnil rfl ?_ | exact trivial | refine side2 ?_ | refine sideL2 ?_ | refine Or.inr ?_ | refine sat_drawH (Tryd.ok ..) (by kernel_rfl) ?_ | refine xi _ (And.intro rfl rfl) ?_ | refine xi _ (fun _ => And.intro rfl rfl) ?_ | refine xi _ rfl ?_)
    (conv => whnf)
    refine calledQ_at (.v (.string (fieldS d el co))) rfl (fun _ w' hh => by
      have h := field_any ⟨#[65, 66, 67]⟩ (trimS d) _ el co w' (ns_arg (frz_nest ns_stays h3 (d := 902) rfl hh))
      rw [fieldS_trim] at h
      exact h) ?_
    repeat' ((conv => whnf); first | refine walk (Tryd.ok ..) ?_ | (refine Cnd.mk (fun h => ?_) (fun h => ?_) <;> (first | exact cndT h (by (try dsimp only); omega) | exact cndF h (by (try dsimp only); omega) | (exfalso; simp at h; omega) | simp at h | skip)) | refine kp ?_ ?_ | refine tw ?_ ?_ | refine appnil rfl ?_ | refine rawnil rfl ?_ | exact trivial | refine side2 ?_ | refine sideL2 ?_ | refine Or.inr ?_ | refine sat_drawH (Tryd.ok ..) (by kernel_rfl) ?_ | refine xi _ (And.intro rfl rfl) ?_ | refine xi _ (fun _ => And.intro rfl rfl) ?_ | refine xi _ rfl ?_)
    refine sat_less 901 rfl ?_
    refine sat_loop (Tryd.ok ..) (α := Nat) (fun i => ([(8, .yes, .v (.slice a3 n3 c3)), (9, .yes, .v v5), (89, .yes, .v (.slice (adr Ao) d.length co')), (90, .yes, .v (.int .i64 d.length)), (91, .yes, .v (.int .i64 i))], [(901, .own gs2 (StrMod w2 gs2)), (902, .own gs3 (Frz w3 gs3)), (903, .own gs4 (Frz w4 gs4)), (904, .own gs5 (Frz w5 gs5))]))
      (fun i => i ≤ d.length) (fun i => d.length - i) (fun _ => rfl) ?_ ?_
    · refine ⟨0, Nat.zero_le _, ?_, ?_, rfl⟩
      all_goals ((repeat' (first | exact trivial | exact rfl | refine And.intro ?_ ?_)) <;> (try (conv => whnf)) <;> (try simp only [SV.real, SV.r2, SV.r1]))
    rintro i hi
    by_cases hi1 : i < d.length
    case neg =>
      obtain rfl : i = d.length := by omega
      repeat' ((conv => whnf); first | refine walk (Tryd.ok ..) ?_ | (refine Cnd.mk (fun h => ?_) (fun h => ?_) <;> (first | exact cndT h (by (try dsimp only); omega) | exact cndF h (by (try dsimp only); omega) | (exfalso; simp at h; omega) | simp at h | skip)) | refine kp ?_ ?_ | refine tw ?_ ?_ | refine appnil rfl ?_ | refine rawnil rfl ?_ | exact trivial | refine side2 ?_ | refine sideL2 ?_ | refine Or.inr ?_ | refine sat_drawH (Tryd.ok ..) (by kernel_rfl) ?_ | refine xi _ (And.intro rfl rfl) ?_ | refine xi _ (fun _ => And.intro rfl rfl) ?_ | refine xi _ rfl ?_)
      (conv => whnf)
      refine called_nestK 905 (mk := id) (Q := fun w' B v => Nest NS w' (fun g => B g ∨ g ∈ gs3) v [trimS d]) (fun v => .v v) (fun _ => rfl) (fun w' hh => by exact lists_any ns_stays ns_sl (trimS d) _ w' _ (frz_nest' ns_stays h3 (d := 902) rfl hh (fun _ h => h))) ?_
      intro w9 gs9 v9 h9 hw9
      repeat' ((conv => whnf); first | refine walk (Tryd.ok ..) ?_ | (refine Cnd.mk (fun h => ?_) (fun h => ?_) <;> (first | exact cndT h (by (try dsimp only); omega) | exact cndF h (by (try dsimp only); omega) | (exfalso; simp at h; omega) | simp at h | skip)) | refine kp ?_ ?_ | refine tw ?_ ?_ | refine appnil rfl ?_ | refine rawnil rfl ?_ | exact trivial | refine side2 ?_ | refine sideL2 ?_ | refine Or.inr ?_ | refine sat_drawH (Tryd.ok ..) (by kernel_rfl) ?_ | refine xi _ (And.intro rfl rfl) ?_ | refine xi _ (fun _ => And.intro rfl rfl) ?_ | refine xi _ rfl ?_)
      (conv => whnf)
      refine called_at (.v (.bool true)) rfl (fun w' hh => by
        have h := same_any [trimS d] [trimS d] v9 v5 w' (nl_arg (two_nest nl_stays h9 hw9 (d := 905) (d1 := 902) rfl hh rfl rfl _ (fun _ _ => trivial))) (nl_arg (two_nest nl_stays h5 hw5 (d := 904) (d1 := 903) rfl hh rfl rfl _ (fun _ _ => trivial)))
        rw [decide_eq_true rfl] at h
        exact h) ?_
      repeat' ((conv => whnf); first | refine walk (Tryd.ok ..) ?_ | (refine Cnd.mk (fun h => ?_) (fun h => ?_) <;> (first | exact cndT h (by (try dsimp only); omega) | exact cndF h (by (try dsimp only); omega) | (exfalso; simp at h; omega) | simp at h | skip)) | refine kp ?_ ?_ | refine tw ?_ ?_ | refine appnil rfl ?_ | refine rawnil rfl ?_ | exact trivial | refine side2 ?_ | refine sideL2 ?_ | refine Or.inr ?_ | refine sat_drawH (Tryd.ok ..) (by kernel_rfl) ?_ | refine xi _ (And.intro rfl rfl) ?_ | refine xi _ (fun _ => And.intro rfl rfl) ?_ | refine xi _ rfl ?_)
      exact done_pure rfl rfl rfl
    obtain ⟨e, he⟩ : ∃ e, d[i]? = some e := ⟨_, List.getElem?_eq_getElem hi1⟩
    obtain ⟨x, hx, A5, c5, zs5, rfl, hc5, hro5, hB5, hz5⟩ := nest_at hxo hro.1 he
    obtain ⟨po, rfl, _⟩ := hro.some_ (by omega)
    have hmax5 : e.length ≤ 9223372036854775807 := Nat.le_trans (Nat.le_trans hc5.1 hc5.2) (by decide)
    repeat' ((conv => whnf); first | refine walk (Tryd.ok ..) ?_ | (refine Cnd.mk (fun h => ?_) (fun h => ?_) <;> (first | exact cndT h (by (try dsimp only); omega) | exact cndF h (by (try dsimp only); omega) | (exfalso; simp at h; omega) | simp at h | skip)) | refine kp ?_ ?_ | refine tw ?_ ?_ | refine appnil rfl ?_ | refine rawnil rfl ?_ | exact trivial | refine side2 ?_ | refine sideL2 ?_ | refine Or.inr ?_ | refine sat_drawH (Tryd.ok ..) (by kernel_rfl) ?_ | refine xi _ (And.intro rfl rfl) ?_ | refine xi _ (fun _ => And.intro rfl rfl) ?_ | refine xi _ rfl ?_ | refine xi _ (fun _ => (mod_at (d := 901) hro hBo hx rfl rfl rfl)) ?_ | refine xi _ (mod_at (d := 901) hro hBo hx rfl rfl rfl) ?_)
    refine sat_loop (Tryd.ok ..) (α := Nat) (fun k => ([(8, .yes, .v (.slice a3 n3 c3)), (9, .yes, .v v5), (16, .yes, .v (.slice (adr A5) e.length c5)), (89, .yes, .v (.slice (adr (some po)) d.length co')), (90, .yes, .v (.int .i64 d.length)), (91, .yes, .v (.int .i64 i)), (96, .yes, .v (.int .i64 e.length)), (97, .yes, .v (.int .i64 k))], [(901, .own gs2 (StrMod w2 gs2)), (902, .own gs3 (Frz w3 gs3)), (903, .own gs4 (Frz w4 gs4)), (904, .own gs5 (Frz w5 gs5))]))
      (fun k => k ≤ e.length) (fun k => e.length - k) (fun _ => rfl) ?_ ?_
    · refine ⟨0, Nat.zero_le _, ?_, ?_, rfl⟩
      all_goals ((repeat' (first | exact trivial | exact rfl | refine And.intro ?_ ?_)) <;> (try (conv => whnf)) <;> (try simp only [SV.real, SV.r2, SV.r1]))
    rintro k hk
    by_cases hk1 : k < e.length
    case neg =>
      obtain rfl : k = e.length := by omega
      repeat' ((conv => whnf); first | refine walk (Tryd.ok ..) ?_ | (refine Cnd.mk (fun h => ?_) (fun h => ?_) <;> (first | exact cndT h (by (try dsimp only); omega) | exact cndF h (by (try dsimp only); omega) | (exfalso; simp at h; omega) | simp at h | skip)) | refine kp ?_ ?_ | refine tw ?_ ?_ | refine appnil rfl ?_ | refine rawnil rfl ?_ | exact trivial | refine side2 ?_ | refine sideL2 ?_ | refine Or.inr ?_ | refine sat_drawH (Tryd.ok ..) (by kernel_rfl) ?_ | refine xi _ (And.intro rfl rfl) ?_ | refine xi _ (fun _ => And.intro rfl rfl) ?_ | refine xi _ rfl ?_)
      refine ⟨i + 1, ⟨hi1, by omega⟩, ?_, ?_, rfl⟩
      all_goals ((repeat' (first | exact trivial | exact rfl | refine And.intro ?_ ?_)) <;> (try (conv => whnf)) <;> (try simp only [SV.real, SV.r2, SV.r1]))
    obtain ⟨c, hc⟩ : ∃ c, e[k]? = some c := ⟨_, List.getElem?_eq_getElem hk1⟩
    obtain ⟨z, hz, hzc⟩ := nest_at hz5 hro5.1 hc
    obtain ⟨q5, rfl, _⟩ := hro5.some_ (by omega)
    have hzs : isStr z = true := by rw [show z = .string c from hzc]; rfl
    repeat' ((conv => whnf); first | refine walk (Tryd.ok ..) ?_ | (refine Cnd.mk (fun h => ?_) (fun h => ?_) <;> (first | exact cndT h (by (try dsimp only); omega) | exact cndF h (by (try dsimp only); omega) | (exfalso; simp at h; omega) | simp at h | skip)) | refine kp ?_ ?_ | refine tw ?_ ?_ | refine appnil rfl ?_ | refine rawnil rfl ?_ | exact trivial | refine side2 ?_ | refine sideL2 ?_ | refine Or.inr ?_ | refine sat_drawH (Tryd.ok ..) (by kernel_rfl) ?_ | refine xi _ (And.intro rfl rfl) ?_ | refine xi _ (fun _ => And.intro rfl rfl) ?_ | refine xi _ rfl ?_)
    (conv => whnf)
    refine mod_store (d := 901) (s := ⟨#[63]⟩) hro5 hB5 hz hzs rfl ⟨_, rfl, rfl⟩ rfl ?_
    repeat' ((conv => whnf); first | refine walk (Tryd.ok ..) ?_ | (refine Cnd.mk (fun h => ?_) (fun h => ?_) <;> (first | exact cndT h (by (try dsimp only); omega) | exact cndF h (by (try dsimp only); omega) | (exfalso; simp at h; omega) | simp at h | skip)) | refine kp ?_ ?_ | refine tw ?_ ?_ | refine appnil rfl ?_ | refine rawnil rfl ?_ | exact trivial | refine side2 ?_ | refine sideL2 ?_ | refine Or.inr ?_ | refine sat_drawH (Tryd.ok ..) (by kernel_rfl) ?_ | refine xi _ (And.intro rfl rfl) ?_ | refine xi _ (fun _ => And.intro rfl rfl) ?_ | refine xi _ rfl ?_)
    refine ⟨k + 1, ⟨hk1, by omega⟩, ?_, ?_, rfl⟩
    all_goals ((repeat' (first | exact trivial | exact rfl | refine And.intro ?_ ?_)) <;> (try (conv => whnf)) <;> (try simp only [SV.real, SV.r2, SV.r1]))
  obtain ⟨e, he⟩ : ∃ e, d[i]? = some e := ⟨_, List.getElem?_eq_getElem hi1⟩
  obtain ⟨x, hx, hne⟩ := nest_at hxA hrA.1 he
  obtain ⟨A3', A3, cA3, rfl, aA3, hcA3, hrA3, -⟩ := nea_row hne
  obtain ⟨p, rfl, rfl⟩ := some_of aA hrA (by omega)
  have hmax3 : e.length ≤ 9223372036854775807 := Nat.le_trans (Nat.le_trans hcA3.1 hcA3.2) (by decide)
  repeat' ((conv => whnf); first | refine walk (Tryd.ok ..) ?_ | (refine Cnd.mk (fun h => ?_) (fun h => ?_) <;> (first | exact cndT h (by (try dsimp only); omega) | exact cndF h (by (try dsimp only); omega) | (exfalso; simp at h; omega) | simp at h | skip)) | refine kp ?_ ?_ | refine tw ?_ ?_ | refine appnil rfl ?_ | refine rawnil rfl ?_ | exact trivial | refine side2 ?_ | refine sideL2 ?_ | refine Or.inr ?_ | refine sat_drawH (Tryd.ok ..) (by kernel_rfl) ?_ | refine xi _ (And.intro rfl rfl) ?_ | refine xi _ (fun _ => And.intro rfl rfl) ?_ | refine xi _ rfl ?_ | refine xi _ (fun _ => (ro_at rfl rfl hrA hx rfl)) ?_ | refine xi _ (ro_at rfl rfl hrA hx rfl) ?_)
  refine sat_loop (Tryd.ok ..) (α := Nat) (fun k => ([(0, .yes, .v (.slice (adr (some p)) d.length cA)), (1, .yes, .v (.int .i64 el)), (2, .yes, .v (.int .i64 co)), (7, .yes, .v (.slice (adr Ao) d.length co')), (8, .yes, .v (.slice a3 n3 c3)), (9, .yes, .v v5), (10, .yes, .v (.string (if (0 ≤ el ∧ el < i) ∨ (el = i ∧ 0 ≤ co ∧ co < k) then fieldS d el co else emp))), (11, .yes, .v (.int .i64 i)), (12, .yes, .v (.int .i64 k))], [(901, .own gs2 (Frz w2 gs2)), (902, .own gs3 (Frz w3 gs3)), (903, .own gs4 (Frz w4 gs4)), (904, .own gs5 (Frz w5 gs5))]))
    (fun k => k ≤ e.length) (fun k => e.length - k) (fun _ => rfl) ?_ ?_
  · refine ⟨0, Nat.zero_le _, ?_, ?_, rfl⟩
    all_goals ((repeat' (first | exact trivial | exact rfl | refine And.intro ?_ ?_)) <;> (try (conv => whnf)) <;> (try simp only [SV.real, SV.r2, SV.r1]))
    all_goals exact congrArg Value.string (ite_iff (by omega) _ _)
  rintro k hk
  by_cases hk1 : k < e.length
  case neg =>
    obtain rfl : k = e.length := by omega
    have hend : (if (0 ≤ el ∧ el < i) ∨ (el = i ∧ 0 ≤ co ∧ co < e.length) then fieldS d el co else emp) = (if 0 ≤ el ∧ el < ((i + 1 : Nat) : Int) then fieldS d el co else emp) := by
      by_cases h1 : 0 ≤ el ∧ el < i
      · rw [if_pos (.inl h1), if_pos (by omega)]
      by_cases h2 : el = i
      · by_cases h3 : 0 ≤ co ∧ co < e.length
        · rw [if_pos (.inr ⟨h2, h3⟩), if_pos (by omega)]
        · rw [if_neg (by omega), if_pos (by omega)]
          unfold fieldS
          split
          · rw [h2, Int.toNat_natCast, he]
            show emp = (e[co.toNat]?).getD emp
            rw [List.getElem?_eq_none (by omega)]
            rfl
          · rfl
      · rw [if_neg (by omega), if_neg (by omega)]
    repeat' ((conv => whnf); first | refine walk (Tryd.ok ..) ?_ | (refine Cnd.mk (fun h => ?_) (fun h => ?_) <;> (first | exact cndT h (by (try dsimp only); omega) | exact cndF h (by (try dsimp only); omega) | (exfalso; simp at h; omega) | simp at h | skip)) | refine kp ?_ ?_ | refine tw ?_ ?_ | refine appnil rfl ?_ | refine rawnil rfl ?_ | exact trivial | refine side2 ?_ | refine sideL2 ?_ | refine Or.inr ?_ | refine sat_drawH (Tryd.ok ..) (by kernel_rfl) ?_ | refine xi _ (And.intro rfl rfl) ?_ | refine xi _ (fun _ => And.intro rfl rfl) ?_ | refine xi _ rfl ?_ | refine xi _ (fun _ => (ro_at rfl rfl hrA hx rfl)) ?_ | refine xi _ (ro_at rfl rfl hrA hx rfl) ?_)
    refine ⟨i + 1, ⟨hi1, by omega⟩, ?_, ?_, rfl⟩
    all_goals ((repeat' (first | exact trivial | exact rfl | refine And.intro ?_ ?_)) <;> (try (conv => whnf)) <;> (try simp only [SV.real, SV.r2, SV.r1]))
    all_goals first | exact congrArg Value.string hend | exact congrArg (Value.int IntKind.i64) (by omega)
  obtain ⟨s, hs⟩ : ∃ s, e[k]? = some s := ⟨_, List.getElem?_eq_getElem hk1⟩
  obtain ⟨p3, rfl, rfl⟩ := some_of aA3 hrA3 (by omega)
  repeat' ((conv => whnf); first | refine walk (Tryd.ok ..) ?_ | (refine Cnd.mk (fun h => ?_) (fun h => ?_) <;> (first | exact cndT h (by (try dsimp only); omega) | exact cndF h (by (try dsimp only); omega) | (exfalso; simp at h; omega) | simp at h | skip)) | refine kp ?_ ?_ | refine tw ?_ ?_ | refine appnil rfl ?_ | refine rawnil rfl ?_ | exact trivial | refine side2 ?_ | refine sideL2 ?_ | refine Or.inr ?_ | refine sat_drawH (Tryd.ok ..) (by kernel_rfl) ?_ | refine xi _ (And.intro rfl rfl) ?_ | refine xi _ (fun _ => And.intro rfl rfl) ?_ | refine xi _ rfl ?_ | refine xi _ (fun _ => (ro_at rfl rfl hrA hx rfl)) ?_ | refine xi _ (ro_at rfl rfl hrA hx rfl) ?_ | refine xi _ (fun _ => (ro_at rfl rfl hrA3 (str_cell hs) rfl)) ?_ | refine xi _ (ro_at rfl rfl hrA3 (str_cell hs) rfl) ?_)
  · have hval : s = (if (0 ≤ el ∧ el < i) ∨ (el = i ∧ 0 ≤ co ∧ co < ((k + 1 : Nat) : Int)) then fieldS d el co else emp) := by
      rw [if_pos (by omega)]
      unfold fieldS
      rw [if_pos (by omega), ← h.1, ← h.2, Int.toNat_natCast, Int.toNat_natCast, he]
      show s = (e[k]?).getD emp
      rw [hs]
      rfl
    refine ⟨k + 1, ⟨hk1, by omega⟩, ?_, ?_, rfl⟩
    all_goals ((repeat' (first | exact trivial | exact rfl | refine And.intro ?_ ?_)) <;> (try (conv => whnf)) <;> (try simp only [SV.real, SV.r2, SV.r1]))
    all_goals first | exact congrArg Value.string hval | exact congrArg (Value.int IntKind.i64) (by omega)
  · refine ⟨k + 1, ⟨hk1, by omega⟩, ?_, ?_, rfl⟩
    all_goals ((repeat' (first | exact trivial | exact rfl | refine And.intro ?_ ?_)) <;> (try (conv => whnf)) <;> (try simp only [SV.real, SV.r2, SV.r1]))
    all_goals first | exact congrArg Value.string (ite_iff (by omega) _ _) | exact congrArg (Value.int IntKind.i64) (by omega)
end Go.Proofs.YtdohcglpcgahaaaDoor
