/-
  IsoBack: for every number and any positions the law answers true: the row and its tied card. Condition: the table iso.kinds is as the program's text lays it (tied).
-/
import Derived.Test.YtedpadjlkddgjaaDoorLaid
import Derived.Test.YtedpadjlkddgjaaDoorOpen
import Derived.Test.YtedpadjlkddgjaaDoorT
import Derived.Test.YtedpadjlkddgjaaDoorCards
import Derived.Test.YtedpadjlkddgjaaDoorTie
namespace Go.Proofs.YtedpadjlkddgjaaDoor
open Go.ChangeShapes Go.WideShapes Go.ChangeAt Go.WideMaps Go.WideElems Go.RowKit
open Go.ChangeMaps (open_string)
set_option maxRecDepth 100000 in
theorem isoBack_lifted (os : Os) (started : os.Started) (H : Type) (enc : TypeId × Value → H) :
    ReturnsInHanded {} Tryd.checked os 5 .any (fun w args => (Rows.isoBackSpec.pre enc Tryd.prog Tryd.f5 [] false w args ∧ laidMetH Tryd.prog laid1 w) ∧ sizedMet enc Tryd.prog Tryd.f5 (OpenSpec.ofChange Rows.isoBackSpec) false w args)
      (Rows.isoBackSpec.post enc Tryd.prog Tryd.f5 false true false false) := by
  refine returnsInHanded_of_change_and (C := Tryd.checked) (X := fun w _ => laidMetH Tryd.prog laid1 w) (fun _ _ _ hh h => h.of_heap hh) own started (by kernel_rfl) Tryd.func5
    (ChangeSpec.witness_shaped (enc := enc) (C := Tryd.checked) (os := os) (X := fun w _ => laidMetH Tryd.prog laid1 w) false (World.doorLaid Tryd.prog 26 os) #[.int .u64 0, .slice none 0 0] 8 rfl (World.shaped_of_RefB (by kernel_rfl) (by kernel_rfl)) (by kernel_rfl) (by kernel_rfl) (by kernel_rfl) (door_met os _)) ?_
  intro W base args ds gs before hval0 hW _ _ hL _
  have hval : ∀ (j : Nat) t v, Tryd.f5.params[j]? = some t → args[j]? = some v → Value.okWide Tryd.prog W .any base t v := hval0
  have hW' := hW
  obtain ⟨p, q, hA0, hV, rfl, hfz, hnd⟩ := hW
  have hA : DataW.TrodAll enc Tryd.prog W 0 (fun _ => true) true Tryd.f5.params.toList args.toList ds p := hA0
  rw [Tryd.params5] at hA hval
  obtain ⟨v0, v1, d0, d1, p0, p1, rfl, rfl, rfl, h0, h1⟩ := trodAll_two hA
  obtain ⟨rfl, rfl⟩ := trodVars_none hV
  obtain ⟨x0, rfl, rfl, rfl, wx0⟩ := open_int Tryd.underlying24 (hval 0 24 v0 rfl rfl) h0
  obtain ⟨A1, cap1, x1, rfl, ro1, wx1, hlen1⟩ := open_ints_ro Tryd.underlying37 Tryd.underlying3 (by kernel_rfl) (hval 1 37 v1 rfl rfl) h1
  obtain ⟨b, o, c, hk⟩ := of_laid hL
  have b0 := bounds_u64 wx0
  refine (isoBack_any x0 A1 cap1 x1 W b o c hk b0.1 b0.2 (fun x hx => bounds_i64 (wx1 x hx)) ro1 (by unfold maxLen at hlen1; omega)).mono fun e W' ⟨he, hb⟩ => ?_
  subst he
  exact ⟨_, rfl, law_post (tb := 4) (by kernel_rfl) (by kernel_rfl) Tryd.underlying4 rfl laidOut (by kernel_rfl) hW' rfl hb⟩
theorem isoBack_holds : Rows.IsoBackSaid :=
  OpenClaim.holds_of_wide 5 Tryd.f5 rfl rfl rfl rfl rfl rfl rfl ⟨rfl, rfl, rfl, rfl, rfl⟩ rfl rfl rfl rfl rfl (by kernel_rfl) Tryd.func5 (by kernel_rfl)
    (of_decide_eq_true (by kernel_rfl)) (by unfold Func.isWrapper; first | (rw [if_pos (by decide +kernel)]; kernel_rfl) | (rw [if_neg (by decide +kernel)]; exact ⟨rfl, rfl⟩))
    (fun os started H enc _ => isoBack_lifted os started H enc)
theorem isoBack_card : Rows.IsoBackCardSaid :=
  Claim7.holds_tied_plain_at .later [] [.data] true (true, "935e74c36ee97e11907b9246a66822b76eaacac179b2aab417506f1982cc0246") false
    isoBack_holds (fun _ h => by cases h) (by kernel_rfl) (fun _ h => by cases h) isoBack_row_tie rfl ⟨rfl, rfl⟩ (by kernel_rfl) rfl
    (fun f fn hf hfn => by
      obtain rfl : f = 5 := Option.some.inj ((show Tryd.prog.funcNamed Rows.isoBackRow.func = some 5 by kernel_rfl).symm.trans hf) |>.symm
      obtain rfl : fn = Tryd.f5 := (Option.some.inj (Tryd.func5.symm.trans hfn)).symm
      exact ⟨by kernel_rfl, fun j t ht => by
        rw [Tryd.params5] at ht
        have hm : t ∈ [24, 37] := by simpa using Array.mem_of_getElem? ht
        have hall : ([24, 37].all fun u => !Tryd.prog.wantsStandIn u) = true := by kernel_rfl
        exact (show Tryd.prog.wantsStandIn t = false by simpa using List.all_eq_true.1 hall t hm)⟩)
    (by kernel_rfl)
#print axioms isoBack_card
end Go.Proofs.YtedpadjlkddgjaaDoor
