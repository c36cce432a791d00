/-
  The walks of IsoTells and IsoCodes.
-/
import Derived.Test.YtedpadjlkddgjaaDoorL
namespace Go.Proofs.YtedpadjlkddgjaaDoor
open Go.RowKit Go.PlainAid
set_option maxHeartbeats 800000 in
theorem isoTells_any (s : ByteArray) (w : World) (b o c : Nat) (hk : Kin w b o c) (hs : s.size ≤ maxLen) :
    Calls Tryd.prog 3 #[.string s] w fun e w' => e = .returned (.bool true) ∧ Below w.heap.size w w' := by
  have hs' := hs
  unfold maxLen at hs'
  by_cases hl : 60 < s.size
  · go_enter Tryd.func3, Tryd.ntmps3
    go_wp2_with fail
    refine (awake_any _ b o c hk).mono ?_
    rintro e w1 ⟨rfl, hb1⟩
    go_wp2_with fail
    go_ret
    exact ⟨rfl, hb1⟩
  · go_enter Tryd.func3, Tryd.ntmps3
    go_wp2_with fail
    refine (tells_any s _ b o c hk hs).mono ?_
    rintro e w1 ⟨rfl, hb1⟩
    go_wp2_with fail
    refine (lawmisses_any s _ hs).mono ?_
    rintro e w2 ⟨rfl, hb'⟩
    have hb2 := below_step hb1 hb' hb1.size
    clear hb' hb1
    go_wp2_with fail
    refine (awake_any _ b o c (hk.below hb2)).mono ?_
    rintro e w3 ⟨rfl, hb'⟩
    have hb3 := below_step hb2 hb' hb2.size
    clear hb' hb2
    go_wp2_with fail
    go_ret
    exact ⟨rfl, hb3⟩
set_option maxHeartbeats 800000 in
theorem isoCodes_any (z : Int) (h r : Bool) (w : World) (b o c : Nat) (hk : Kin w b o c) :
    Calls Tryd.prog 7 #[.int .u8 z, .bool h, .bool r] w fun e w' => e = .returned (.bool true) ∧ Below w.heap.size w w' := by
  go_enter Tryd.func7, Tryd.ntmps7
  go_wp2_with fail
  refine (coded_any z h r _ b o c hk).mono ?_
  rintro e w1 ⟨rfl, hb1⟩
  go_wp2_with fail
  refine (awake_any _ b o c (hk.below hb1)).mono ?_
  rintro e w3 ⟨rfl, hb'⟩
  have hb3 := below_step hb1 hb' hb1.size
  clear hb' hb1
  go_wp2_with fail
  go_ret
  exact ⟨rfl, hb3⟩
end Go.Proofs.YtedpadjlkddgjaaDoor
