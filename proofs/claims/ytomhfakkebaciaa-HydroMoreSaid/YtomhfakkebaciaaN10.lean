/-
  The walks of the frac package: whole numbers, quotients; fractions are compared, turned, added.
-/
import Derived.Test.YtomhfakkebaciaaN9
import Derived.Test.YtomhfakkebaciaaFE
namespace Go.Proofs.Ytomhfakkebaciaa
open Go Sat Go.RowKit Go.PlainAid
set_option linter.unusedSimpArgs false
set_option linter.unusedVariables false
theorem frV_val (f : Fr) : frV f = .agg (.bool f.neg :: (us (lim f.num) ++ us (lim f.den))).toArray := by
  have := map_r1 (.bool f.neg :: (us (lim f.num) ++ us (lim f.den)))
  rw [List.map_cons, List.map_append] at this
  exact congrArg (fun l : List Value => Value.agg l.toArray) this
def eqFr (f g : Fr) : Bool := f.neg == g.neg && (decide (f.num = g.num) && (decide (f.den = g.den) && true))
theorem eqFr_iff {f g : Fr} : eqFr f g = true ↔ f = g := by
  obtain ⟨a, b, c⟩ := f
  obtain ⟨a', b', c'⟩ := g
  simp [eqFr]
theorem lim_dec {n m : Nat} (h : n < big) (h' : m < big) : decide (lim n = lim m) = decide (n = m) := decide_eq_decide.2 (lim_inj h h')
theorem us_get8 (n : Nat) : (us (lim n)).length = 8 := by rw [us_len, lim_len]
theorem eqInFr1 (d : Nat) (f g : Fr) (hf : Big f) (hg : Big g) (w : World) : (Op.equalIn (d + 1 + 1 + 1) 26 (frV f) (frV g)).run Try.prog w = .ok (eqFr f g) w := by
  rw [frV_val, frV_val]
  have px : ∀ (h : Fr) (w : World), (part 4 (.bool h.neg :: (us (lim h.num) ++ us (lim h.den))).toArray 0).run Try.prog w = .ok (.bool h.neg) w := fun h w =>
    run_part_one (cx := Try.cx 0 [] [] [] w) (Try.ok 0 [] [] [] w.heap.size [] w).T (t := 4) rfl rfl rfl w
  have pn : ∀ (h : Fr) (w : World), (part 24 (.bool h.neg :: (us (lim h.num) ++ us (lim h.den))).toArray 1).run Try.prog w = .ok (.agg (u32L (lim h.num)).toArray) w := fun h w => by
    have h1 := run_part_agg (cx := Try.cx 0 [] [] [] w) (Try.ok 0 [] [] [] w.heap.size [] w).T (t := 24) (j := _) rfl rfl (cs := (.bool h.neg :: (us (lim h.num) ++ us (lim h.den))).toArray) (off := 1) w
    refine h1.trans (congrArg (fun a => Result.ok (Value.agg a) w) ?_)
    apply Array.toList_inj.1
    rw [Array.toList_extract]
    show (((.bool h.neg :: (us (lim h.num) ++ us (lim h.den))) : List Value).drop 1).take 8 = us (lim h.num)
    rw [List.drop_one, List.tail_cons, List.take_append_of_le_length (by rw [us_get8]; omega), List.take_of_length_le (by rw [us_get8]; omega)]
  have pd : ∀ (h : Fr) (w : World), (part 24 (.bool h.neg :: (us (lim h.num) ++ us (lim h.den))).toArray 9).run Try.prog w = .ok (.agg (u32L (lim h.den)).toArray) w := fun h w => by
    have h1 := run_part_agg (cx := Try.cx 0 [] [] [] w) (Try.ok 0 [] [] [] w.heap.size [] w).T (t := 24) (j := _) rfl rfl (cs := (.bool h.neg :: (us (lim h.num) ++ us (lim h.den))).toArray) (off := 9) w
    refine h1.trans (congrArg (fun a => Result.ok (Value.agg a) w) ?_)
    apply Array.toList_inj.1
    rw [Array.toList_extract]
    show (((.bool h.neg :: (us (lim h.num) ++ us (lim h.den))) : List Value).drop 9).take 8 = us (lim h.den)
    have e := List.drop_left (l₁ := .bool h.neg :: us (lim h.num)) (l₂ := us (lim h.den))
    rw [List.length_cons, us_get8] at e
    rw [show ((.bool h.neg :: (us (lim h.num) ++ us (lim h.den))) : List Value) = (.bool h.neg :: us (lim h.num)) ++ us (lim h.den) from rfl, e, List.take_of_length_le (by rw [us_get8]; omega)]
  have ea : ∀ n m : Nat, n < big → m < big → (Op.equalIn (d + 1 + 1) 24 (.agg (u32L (lim n)).toArray) (.agg (u32L (lim m)).toArray)).run Try.prog w = .ok (decide (n = m)) w := fun n m hn hm => by
    rw [← lim_dec hn hm]
    exact eq_arr (T := (Try.cx 0 [] [] [] w).T) (Try.ok 0 [] [] [] w.heap.size [] w).T (t := 24) (e := 23) rfl rfl rfl rfl rfl d w (lim_len n) (lim_len m)
  exact equalIn_st [(true, 4, 0), (true, 24, 1), (true, 24, 9)] (by kernel_rfl) (by kernel_rfl) (by kernel_rfl)
    (eqs_cons _ _ (px f w) (px g w) (run_equalIn_bool' w (d + 1) 4 f.neg g.neg (by kernel_rfl)) (eqs_cons _ _ (pn f w) (pn g w) (ea _ _ hf.num hg.num) (eqs_cons _ _ (pd f w) (pd g w) (ea _ _ hf.den hg.den) eqs_nil)))
theorem eqFr1 (f g : Fr) (hf : Big f) (hg : Big g) (w : World) : (Op.equal 26 (SV.a (frC f)).real (SV.a (frC g)).real).run Try.prog w = .ok (eqFr f g) w := eqInFr1 9997 f g hf hg w
theorem eqgFr1 : Try.prog.eqGuardType Try.prog.depth 26 = false := by kernel_rfl
theorem wrap_neg {n : Int} (h0 : n < 0) (h1 : -9223372036854775808 ≤ n) : IntKind.u64.wrap (0 - IntKind.u64.wrap n) = ((n.natAbs : Nat) : Int) := by
  rw [IntKind.wrap_u64, IntKind.wrap_u64]
  omega
theorem tk1 (f : Fr) : List.take 17 (List.drop 0 (frC f)) = frC f := by
  rw [List.drop_zero, List.take_of_length_le (by rw [frC_len]; exact Nat.le_refl _)]
theorem tk2 (f : Fr) : List.take 17 (List.drop 0 (List.take 17 (List.drop 0 (frC f)))) = frC f := by
  rw [tk1, tk1]
structure I64 (n : Int) : Prop where
  lo : -9223372036854775808 ≤ n
  hi : n ≤ 9223372036854775807
set_option maxRecDepth 100000 in
set_option maxHeartbeats 8000000 in
theorem size64_any (n : Int) (w : World) (hn : I64 n) :
    Calls Try.prog 33 #[.int .i64 n] w fun e w' => ∃ v, e = .returned v ∧ w'.ownsRow w.heap.size 23 1 v (dg bb n.natAbs).length (us (dg bb n.natAbs)) ∧ Below w.heap.size w w' := by
  have h1 := hn.lo
  have h2 := hn.hi
  refine calls_sat (cx := Try.cx 12 [] [] [] w) (Try.ok ..) Try.func33 rfl [.v (.int .i64 n)] rfl (by show 1 ≤ 12; omega) [] (holds_nil (Nat.le_refl _)) ?_
  repeat' ((conv => whnf); first | refine walk (Try.ok ..) ?_ | (refine Cnd.mk (fun h => ?_) (fun h => ?_) <;> (first | exact cndT h (by (try dsimp only); omega) | exact cndF h (by (try dsimp only); omega) | (exfalso; simp at h; omega) | simp at h | skip)) | refine sideL2 ?_ | refine Or.inr ?_ | fail)
  · refine called_row 8 (xs := us (dg bb n.natAbs)) (m := (dg bb n.natAbs).length) (fun v => v) (fun A cap => .o 8 A (dg bb n.natAbs).length cap) (fun A cap => rfl) (fun w' hh => by
      have h3 := of_any n.natAbs w' (by omega)
      rw [← wrap_neg h h1] at h3
      exact h3) ?_
    intro A1 c1
    repeat' ((conv => whnf); first | refine walk (Try.ok ..) ?_ | fail)
    exact done_row (mk := fun v => v) rfl rfl 8 A1 c1 rfl rfl
  · refine called_row 11 (xs := us (dg bb n.natAbs)) (m := (dg bb n.natAbs).length) (fun v => v) (fun A cap => .o 11 A (dg bb n.natAbs).length cap) (fun A cap => rfl) (fun w' hh => by
      have h3 := of_any n.natAbs w' (by omega)
      rw [show ((n.natAbs : Nat) : Int) = n by omega] at h3
      exact h3) ?_
    intro A1 c1
    repeat' ((conv => whnf); first | refine walk (Try.ok ..) ?_ | fail)
    exact done_row (mk := fun v => v) rfl rfl 11 A1 c1 rfl rfl
theorem abs_len {n : Int} (hn : I64 n) : (dg bb n.natAbs).length ≤ 2 := by
  have h1 := hn.lo
  have h2 := hn.hi
  rw [dg_len (by decide)]
  show _ < 18446744073709551616
  omega
theorem dg_1 : dg bb 1 = [1] := dg_one (by omega) (by decide)
set_option maxRecDepth 100000 in
set_option maxHeartbeats 8000000 in
theorem of_frac (n : Int) (w : World) (hn : I64 n) :
    Calls Try.prog 13 #[.int .i64 n] w fun e w' => e = .returned (frV (ofF n)) ∧ Below w.heap.size w w' := by
  have hl := abs_len hn
  refine calls_sat (cx := Try.cx 15 [] [] [] w) (Try.ok ..) Try.func13 rfl [.v (.int .i64 n)] rfl (by show 1 ≤ 15; omega) [] (holds_nil (Nat.le_refl _)) ?_
  obtain ⟨r, er⟩ : ∃ r, r = (fitF (decide (n < 0)) n.natAbs 1).1 := ⟨_, rfl⟩
  obtain ⟨e0, ee⟩ : ∃ r, r = (fitF (decide (n < 0)) n.natAbs 1).2 := ⟨_, rfl⟩
  rw [show ofF n = r from er.symm]
  repeat' ((conv => whnf); first | refine walk (Try.ok ..) ?_ | fail)
  intro g2 hg2
  repeat' ((conv => whnf); first | refine walk (Try.ok ..) ?_ | fail)
  refine called_row 9 (xs := us (dg bb n.natAbs)) (m := (dg bb n.natAbs).length) (fun v => v) (fun A cap => .o 9 A (dg bb n.natAbs).length cap) (fun A cap => rfl) (fun w' hh => size64_any n w' hn) ?_
  intro A1 c1
  skip
  refine called_row 10 (xs := us (dg bb 1)) (m := (dg bb 1).length) (fun v => v) (fun A cap => .o 10 A (dg bb 1).length cap) (fun A cap => rfl) (fun w' hh => of_any 1 w' (by omega)) ?_
  intro A2 c2
  skip
  refine called_at (.t [.a (frC r), .v (.int .i64 e0)]) rfl (fun w' hh => by
    rw [er, ee]
    exact fit_any (decide (n < 0)) n.natAbs 1 A1 A2 c1 c2 w' (ro_of_row hh (id := 9) rfl) (ro_of_row hh (id := 10) rfl) (by omega) (by rw [dg_1]; show 1 ≤ _; omega) (by omega)) ?_
  skip
  intro g3 hg3
  repeat' ((conv => whnf); first | refine walk (Try.ok ..) ?_ | refine side2 ?_ | fail)
  exact done_pure rfl rfl (congrArg (fun l => (SV.a l).real) (tk2 r))
end Go.Proofs.Ytomhfakkebaciaa
