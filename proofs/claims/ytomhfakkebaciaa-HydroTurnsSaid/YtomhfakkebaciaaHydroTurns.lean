/-
  HydroTurns: for all tables that Made returns the law answers true.
-/
import Derived.Test.YtomhfakkebaciaaDX
import Derived.Test.YtomhfakkebaciaaHU
import Derived.Test.YtomhfakkebaciaaHT
set_option linter.unusedSimpArgs false
set_option linter.unusedVariables false
namespace Go.Proofs.Ytomhfakkebaciaa
set_option maxRecDepth 100000
open Go.ChangeShapes Go.WideShapes Go.ChangeAt Go.WideMaps Go.WideElems Go.RowKit
open Go.ChangeMaps (open_string)
theorem hydroTurns_contract (H : Type) (enc : TypeId × Value → H) (W : World) (base : Nat) (args : Array Value) (ds gs : List (DataW H)) (before : List MemPlace)
    (hval0 : ∀ (j : Nat) t v, Try.f8.params[j]? = some t → args[j]? = some v → Value.okWide Try.prog W .any base t v)
    (hW : DataW.Whole enc Try.prog Try.f8.params.toList Rows.hydroTurnsSpec.vars false W args.toList ds gs before)
    (hwt : (DataW.weightsEach Try.prog (Try.f8.params.toList ++ (OpenSpec.ofChange Rows.hydroTurnsSpec).bare.plain.varTypes Try.prog) (ds ++ gs)).all (· ≤ reachBytes) = true)
    (hL : laidMetH Try.prog Rows.hydroTellsRow.laid W) (hs : W.ShapedOpen Try.prog) :
    Calls Try.prog 8 args W fun e W' => ∃ v, e = .returned v ∧ Rows.hydroTurnsSpec.post enc Try.prog Try.f8 false true false false W args v W' := by
  have hval := hval0
  have hW' := hW
  obtain ⟨p, q, hA0, hV, rfl, hfz, hnd⟩ := hW
  have hA : DataW.TrodAll enc Try.prog W 0 (fun _ => true) true Try.f8.params.toList args.toList ds p := hA0
  rw [Try.params8] at hA hval
  obtain ⟨v0, vs0, d0, ds0, p0, q0, hargs0, e0, f0, h0, r0⟩ := trodAll_cons hA
  obtain ⟨v1, vs1, d1, ds1, p1, q1, hargs1, e1, f1, h1, r1⟩ := trodAll_cons r0
  obtain ⟨v2, vs2, d2, ds2, p2, q2, hargs2, e2, f2, h2, r2⟩ := trodAll_cons r1
  obtain ⟨v3, vs3, d3, ds3, p3, q3, hargs3, e3, f3, h3, r3⟩ := trodAll_cons r2
  obtain ⟨v4, vs4, d4, ds4, p4, q4, hargs4, e4, f4, h4, r4⟩ := trodAll_cons r3
  obtain ⟨ea, ed, ep⟩ := trodAll_nil r4
  subst ed
  subst e4 f4
  subst e3 f3
  subst e2 f2
  subst e1 f1
  subst e0 f0
  have hargs : args = #[v0, v1, v2, v3, v4] := by
    cases args
    simp_all
  subst hargs
  obtain ⟨rfl, rfl⟩ := trodVars_none hV
  have hh0 := h0
  obtain ⟨A0, cap0, x0, rfl, ro0, bx0, hl0, hc0⟩ := open_steps (hval 0 42 v0 rfl rfl) h0
  obtain ⟨x1, rfl, rfl, rfl, wx1⟩ := open_int Try.underlying23 (hval 1 23 v1 rfl rfl) h1
  obtain ⟨x2, rfl, rfl, rfl, wx2⟩ := open_int Try.underlying23 (hval 2 23 v2 rfl rfl) h2
  obtain ⟨x3, rfl, rfl, rfl, wx3⟩ := open_int Try.underlying23 (hval 3 23 v3 rfl rfl) h3
  obtain ⟨x4, rfl, rfl, rfl, wx4⟩ := open_int Try.underlying5 (hval 4 5 v4 rfl rfl) h4
  have hw := wf_of hL hs
  refine (hydroTurns_any x0 x1 x2 x3 x4 A0 cap0 W ro0 bx0 (by unfold maxLen at hl0; omega) hc0 (bounds_u32 wx1) (bounds_u32 wx2) (bounds_u32 wx3) (bounds_u8 wx4)).mono fun e W' ⟨he, hb⟩ => ?_
  subst he
  exact ⟨_, rfl, law_post (tb := 4) (by kernel_rfl) (by kernel_rfl) Try.underlying4 rfl laidOut (by kernel_rfl) hW' rfl hb⟩
theorem hydroTurns_reads (os : Os) {H : Type} (enc : TypeId × Value → H) : ∃ x, DataW.whole enc Try.prog ((laidWorld os).forCall (fun _ _ => 0) ⟨#[], #[.slice none 0 0, .int .u32 0, .int .u32 0, .int .u32 0, .int .u8 0], []⟩).memory Try.f8.params.toList Rows.hydroTurnsSpec.vars false (#[.slice none 0 0, .int .u32 0, .int .u32 0, .int .u32 0, .int .u8 0] : Array Value).toList 8 = some x ∧ Rows.uptoSmall H (x.1 ++ x.2.1) = true :=
  ⟨([.nil, .lit (.int .u32 0), .lit (.int .u32 0), .lit (.int .u32 0), .lit (.int .u8 0)], [], []), by kernel_rfl, by kernel_rfl⟩
set_option maxRecDepth 100000 in
theorem hydroTurns_lifted (os : Os) (started : os.Started) (H : Type) (enc : TypeId × Value → H) (F : Stop.Interp) :
    ReturnsInHanded {} Try.checked os 8 .any ((OpenSpec.ofChange Rows.hydroTurnsSpec).preRow enc Try.prog Try.f8 Rows.hydroTurnsRow.domain false Rows.hydroTurnsRow.laid) (((OpenSpec.ofChange Rows.hydroTurnsSpec).at F).post enc Try.prog Try.f8 false true false false) := by
  obtain ⟨x, hx, hsm⟩ := hydroTurns_reads os enc
  refine returnsInHanded_of_row (C := Try.checked) (s := (OpenSpec.ofChange Rows.hydroTurnsSpec)) own started (by kernel_rfl) Try.func8
    (witness_row_atRef (enc := enc) (C := Try.checked) false (laidWorld os) #[.slice none 0 0, .int .u32 0, .int .u32 0, .int .u32 0, .int .u8 0] rfl (door_vars os _) (door_rest os _) (by kernel_rfl)
      (OpenSpec.preRow_of_cond 8 hx rfl (fun k hk => by first | (cases hk; exact hsm) | cases hk) (by kernel_rfl) (laid_met os _))) ?_
  intro W base args ds gs before hval hW _ hcond hwt hL hsh _
  exact hydroTurns_contract H enc W base args ds gs before hval hW hwt hL hsh
theorem hydroTurns_holds : Rows.HydroTurnsSaid :=
  OpenClaim.holds_of_cond 8 Try.f8 rfl rfl rfl rfl rfl rfl rfl ⟨rfl, rfl, rfl, rfl, rfl⟩ rfl rfl rfl rfl rfl (by kernel_rfl) Try.func8 (by kernel_rfl)
    (of_decide_eq_true (by kernel_rfl)) (by unfold Func.isWrapper; first | (rw [if_pos (by decide +kernel)]; kernel_rfl) | (rw [if_neg (by decide +kernel)]; exact ⟨rfl, rfl⟩))
    (fun os started H enc _ F => by rw [OpenClaim.pre_eq_preRow]; exact hydroTurns_lifted os started H enc F)
#print axioms hydroTurns_holds
end Go.Proofs.Ytomhfakkebaciaa
