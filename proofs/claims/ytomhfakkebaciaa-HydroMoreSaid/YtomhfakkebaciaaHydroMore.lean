/-
  HydroMore: for all tables that Made returns the law answers true.
-/
import Derived.Test.YtomhfakkebaciaaDX
import Derived.Test.YtomhfakkebaciaaHU
import Derived.Test.YtomhfakkebaciaaHR
set_option linter.unusedSimpArgs false
set_option linter.unusedVariables false
namespace Go.Proofs.Ytomhfakkebaciaa
set_option maxRecDepth 100000
open Go.ChangeShapes Go.WideShapes Go.ChangeAt Go.WideMaps Go.WideElems Go.RowKit
open Go.ChangeMaps (open_string)
theorem hydroMore_contract (H : Type) (enc : TypeId × Value → H) (W : World) (base : Nat) (args : Array Value) (ds gs : List (DataW H)) (before : List MemPlace)
    (hval0 : ∀ (j : Nat) t v, Try.f6.params[j]? = some t → args[j]? = some v → Value.okWide Try.prog W .any base t v)
    (hW : DataW.Whole enc Try.prog Try.f6.params.toList Rows.hydroMoreSpec.vars false W args.toList ds gs before)
    (hwt : (DataW.weightsEach Try.prog (Try.f6.params.toList ++ (OpenSpec.ofChange Rows.hydroMoreSpec).bare.plain.varTypes Try.prog) (ds ++ gs)).all (· ≤ reachBytes) = true)
    (hL : laidMetH Try.prog Rows.hydroTellsRow.laid W) (hs : W.ShapedOpen Try.prog) :
    Calls Try.prog 6 args W fun e W' => ∃ v, e = .returned v ∧ Rows.hydroMoreSpec.post enc Try.prog Try.f6 false true false false W args v W' := by
  have hval := hval0
  have hW' := hW
  obtain ⟨p, q, hA0, hV, rfl, hfz, hnd⟩ := hW
  have hA : DataW.TrodAll enc Try.prog W 0 (fun _ => true) true Try.f6.params.toList args.toList ds p := hA0
  rw [Try.params6] at hA hval
  obtain ⟨v0, vs0, d0, ds0, p0, q0, hargs0, e0, f0, h0, r0⟩ := trodAll_cons hA
  obtain ⟨v1, vs1, d1, ds1, p1, q1, hargs1, e1, f1, h1, r1⟩ := trodAll_cons r0
  obtain ⟨v2, vs2, d2, ds2, p2, q2, hargs2, e2, f2, h2, r2⟩ := trodAll_cons r1
  obtain ⟨ea, ed, ep⟩ := trodAll_nil r2
  subst ed
  subst e2 f2
  subst e1 f1
  subst e0 f0
  have hargs : args = #[v0, v1, v2] := by
    cases args
    simp_all
  subst hargs
  obtain ⟨rfl, rfl⟩ := trodVars_none hV
  have hh0 := h0
  obtain ⟨A0, cap0, x0, rfl, ro0, bx0, hl0, hc0⟩ := open_steps (hval 0 42 v0 rfl rfl) h0
  obtain ⟨x1, rfl, rfl, rfl, wx1⟩ := open_int Try.underlying5 (hval 1 5 v1 rfl rfl) h1
  obtain ⟨x2, rfl, rfl, rfl, wx2⟩ := open_int Try.underlying23 (hval 2 23 v2 rfl rfl) h2
  have hw := wf_of hL hs
  refine (hydroMore_any x0 x1 x2 A0 cap0 W ro0 bx0 (by unfold maxLen at hl0; omega) hc0 (bounds_u8 wx1) (bounds_u32 wx2)).mono fun e W' ⟨he, hb⟩ => ?_
  subst he
  exact ⟨_, rfl, law_post (tb := 4) (by kernel_rfl) (by kernel_rfl) Try.underlying4 rfl laidOut (by kernel_rfl) hW' rfl hb⟩
theorem hydroMore_reads (os : Os) {H : Type} (enc : TypeId × Value → H) : ∃ x, DataW.whole enc Try.prog ((laidWorld os).forCall (fun _ _ => 0) ⟨#[], #[.slice none 0 0, .int .u8 0, .int .u32 0], []⟩).memory Try.f6.params.toList Rows.hydroMoreSpec.vars false (#[.slice none 0 0, .int .u8 0, .int .u32 0] : Array Value).toList 8 = some x ∧ Rows.uptoSmall H (x.1 ++ x.2.1) = true :=
  ⟨([.nil, .lit (.int .u8 0), .lit (.int .u32 0)], [], []), by kernel_rfl, by kernel_rfl⟩
set_option maxRecDepth 100000 in
theorem hydroMore_lifted (os : Os) (started : os.Started) (H : Type) (enc : TypeId × Value → H) (F : Stop.Interp) :
    ReturnsInHanded {} Try.checked os 6 .any ((OpenSpec.ofChange Rows.hydroMoreSpec).preRow enc Try.prog Try.f6 Rows.hydroMoreRow.domain false Rows.hydroMoreRow.laid) (((OpenSpec.ofChange Rows.hydroMoreSpec).at F).post enc Try.prog Try.f6 false true false false) := by
  obtain ⟨x, hx, hsm⟩ := hydroMore_reads os enc
  refine returnsInHanded_of_row (C := Try.checked) (s := (OpenSpec.ofChange Rows.hydroMoreSpec)) own started (by kernel_rfl) Try.func6
    (witness_row_atRef (enc := enc) (C := Try.checked) false (laidWorld os) #[.slice none 0 0, .int .u8 0, .int .u32 0] rfl (door_vars os _) (door_rest os _) (by kernel_rfl)
      (OpenSpec.preRow_of_cond 8 hx rfl (fun k hk => by first | (cases hk; exact hsm) | cases hk) (by kernel_rfl) (laid_met os _))) ?_
  intro W base args ds gs before hval hW _ hcond hwt hL hsh _
  exact hydroMore_contract H enc W base args ds gs before hval hW hwt hL hsh
theorem hydroMore_holds : Rows.HydroMoreSaid :=
  OpenClaim.holds_of_cond 6 Try.f6 rfl rfl rfl rfl rfl rfl rfl ⟨rfl, rfl, rfl, rfl, rfl⟩ rfl rfl rfl rfl rfl (by kernel_rfl) Try.func6 (by kernel_rfl)
    (of_decide_eq_true (by kernel_rfl)) (by unfold Func.isWrapper; first | (rw [if_pos (by decide +kernel)]; kernel_rfl) | (rw [if_neg (by decide +kernel)]; exact ⟨rfl, rfl⟩))
    (fun os started H enc _ F => by rw [OpenClaim.pre_eq_preRow]; exact hydroMore_lifted os started H enc F)
#print axioms hydroMore_holds
end Go.Proofs.Ytomhfakkebaciaa
