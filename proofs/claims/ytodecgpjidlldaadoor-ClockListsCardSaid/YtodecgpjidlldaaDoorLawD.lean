/-
  The laws of the clock: work that may be interrupted, and work that must not be.
-/
import Derived.Test.YtodecgpjidlldaaDoorLawC
import Derived.Test.YtodecgpjidlldaaDoorL4
namespace Go.Proofs.YtodecgpjidlldaaDoor
open Go Sat Go.RowKit Go.PlainAid
set_option linter.unusedSimpArgs false
set_option linter.unusedVariables false
def atO (r : Int) : Int := IntKind.i64.wrap (r / 2 ^ Int.toNat 1)
def nW (n : Int) : Int := 1 + n % 3000
theorem bt_is {x : List Int} (hx : U8 x) {a b : Int} (h : 0 ≤ a ∧ a ≤ b ∧ b ≤ 100000000) : btV (mdL x) a b = cnt (mdL x) a b ∧ btE (mdL x) a b = 0 := by
  have hk : btOk (mdL x) a b = true := by
    unfold btOk orderedB timedB
    rw [md_apart hx, decide_eq_true h.1, decide_eq_true (show a ≤ 100000000 by omega), decide_eq_true (show 0 ≤ b by omega), decide_eq_true h.2.2, decide_eq_true h.2.1]
    rfl
  exact ⟨(bt_yes hk).1.symm, (bt_yes hk).2.symm⟩
set_option maxRecDepth 100000 in
set_option maxHeartbeats 16000000 in
theorem clockWorks_any (hS : SpansAny) (x : List Int) (A : Option (Nat × Nat)) (cap : Nat) (r m : Int) (w : World) (hA : Ro w A x.length 1 (u8s x)) (hx : U8 x) (hl : x.length ≤ 9223372036854775800)
    (hr : 0 ≤ r ∧ r ≤ 65535) (hm : 0 ≤ m ∧ m ≤ 65535) (hw : Wf w) :
    Calls Tryd.prog 9 #[.slice (adr A) x.length cap, .int .u16 r, .int .u16 m] w fun e w' => e = .returned (.bool true) ∧ Below w.heap.size w w' := by
  refine calls_sat (cx := Tryd.cx 199 [] [] [] w) (Tryd.ok ..) Tryd.func9 rfl [.o 300 A x.length cap, .v (.int .u16 r), .v (.int .u16 m)] rfl (by show 3 ≤ 199; omega) [(300, .ro A x.length 1 (u8s x))] (holds_ros rfl rfl ⟨hA, trivial⟩) ?_
  have b1 : 0 ≤ atO r ∧ atO r ≤ 32767 := by
    unfold atO
    rw [half_is (by omega)]
    omega
  have b2 : 1 ≤ nW m ∧ nW m ≤ 3000 := by unfold nW; omega
  have hnw : nW m = 1 + m % 3000 := rfl
  have hat : atO r = IntKind.i64.wrap (r / 2 ^ Int.toNat 1) := rfl
  have hml := mdL_len x
  have hmn := mdN_le x
  have hall := sps_all (mdL x)
  have hsl := sps_len (mdL x)
  have htk : (sps (mdL x)).take ((mdL x).length * 2) = sps (mdL x) := by rw [← hsl]; exact List.take_length
  have hall2 : allV ((sps (mdL x)).take ((mdL x).length * 2)) = true := by rw [htk]; exact hall
  repeat' ((conv => whnf); first
    | refine walk (Tryd.ok ..) ?_
    | refine walk (COk.with_ (Tryd.ok ..) _ _) ?_
    | refine walk (COk.with_ (COk.with_ (Tryd.ok ..) _ _) _ _) ?_
    | (refine Cnd.mk (fun h => ?_) (fun h => ?_) <;> (first | (exfalso; simp only [decide_eq_true_eq, decide_eq_false_iff_not, Bool.not_eq_true', Bool.not_eq_false'] at h; omega) | (exfalso; simp at h; omega) | simp at h | skip))
    | refine And.intro (Kept.mk ?_) ?_
    | refine Two.mk (And.intro ?_ ?_)
    | exact trivial
    | refine side ?_
    | refine sideL ?_
    | refine Or.inr ?_
    | refine sat_drawH (Tryd.ok ..) (by kernel_rfl) ?_
    | refine sat_drawH (COk.with_ (Tryd.ok ..) _ _) (by kernel_rfl) ?_
    | refine sat_drawH (COk.with_ (COk.with_ (Tryd.ok ..) _ _) _ _) (by kernel_rfl) ?_
    | refine Exists.intro [_] (And.intro (one_byte rfl) ?_)
    | refine Exists.intro [_] (And.intro (fun _ => one_byte rfl) ?_)
    | refine Exists.intro _ (And.intro (And.intro rfl rfl) ?_)
    | refine Exists.intro _ (And.intro (fun _ => And.intro rfl rfl) ?_)
    | refine Exists.intro _ (And.intro rfl ?_))
  refine called_at (.v (.bool true)) rfl (fun w' hh => awake_any hS w' (hw.at_ rfl rfl hh)) ?_
  repeat' ((conv => whnf); first
    | refine walk (Tryd.ok ..) ?_
    | refine walk (COk.with_ (Tryd.ok ..) _ _) ?_
    | refine walk (COk.with_ (COk.with_ (Tryd.ok ..) _ _) _ _) ?_
    | (refine Cnd.mk (fun h => ?_) (fun h => ?_) <;> (first | (exfalso; simp only [decide_eq_true_eq, decide_eq_false_iff_not, Bool.not_eq_true', Bool.not_eq_false'] at h; omega) | (exfalso; simp at h; omega) | simp at h | skip))
    | refine And.intro (Kept.mk ?_) ?_
    | refine Two.mk (And.intro ?_ ?_)
    | exact trivial
    | refine side ?_
    | refine sideL ?_
    | refine Or.inr ?_
    | refine sat_drawH (Tryd.ok ..) (by kernel_rfl) ?_
    | refine sat_drawH (COk.with_ (Tryd.ok ..) _ _) (by kernel_rfl) ?_
    | refine sat_drawH (COk.with_ (COk.with_ (Tryd.ok ..) _ _) _ _) (by kernel_rfl) ?_
    | refine Exists.intro [_] (And.intro (one_byte rfl) ?_)
    | refine Exists.intro [_] (And.intro (fun _ => one_byte rfl) ?_)
    | refine Exists.intro _ (And.intro (And.intro rfl rfl) ?_)
    | refine Exists.intro _ (And.intro (fun _ => And.intro rfl rfl) ?_)
    | refine Exists.intro _ (And.intro rfl ?_))
  refine called_row 29 (xs := sps (mdL x)) (fun v => v) (fun A cap => .o 29 A (mdL x).length cap) (fun A cap => rfl) (fun w' hh => made_any x A cap w' (ro_of_ro hh (id := 300) rfl) hx hl) ?_
  intro A1 cap1
  repeat' ((conv => whnf); first
    | refine walk (Tryd.ok ..) ?_
    | refine walk (COk.with_ (Tryd.ok ..) _ _) ?_
    | refine walk (COk.with_ (COk.with_ (Tryd.ok ..) _ _) _ _) ?_
    | (refine Cnd.mk (fun h => ?_) (fun h => ?_) <;> (first | (exfalso; simp only [decide_eq_true_eq, decide_eq_false_iff_not, Bool.not_eq_true', Bool.not_eq_false'] at h; omega) | (exfalso; simp at h; omega) | simp at h | skip))
    | refine And.intro (Kept.mk ?_) ?_
    | refine Two.mk (And.intro ?_ ?_)
    | exact trivial
    | refine side ?_
    | refine sideL ?_
    | refine Or.inr ?_
    | refine sat_drawH (Tryd.ok ..) (by kernel_rfl) ?_
    | refine sat_drawH (COk.with_ (Tryd.ok ..) _ _) (by kernel_rfl) ?_
    | refine sat_drawH (COk.with_ (COk.with_ (Tryd.ok ..) _ _) _ _) (by kernel_rfl) ?_
    | refine Exists.intro [_] (And.intro (one_byte rfl) ?_)
    | refine Exists.intro [_] (And.intro (fun _ => one_byte rfl) ?_)
    | refine Exists.intro _ (And.intro (And.intro rfl rfl) ?_)
    | refine Exists.intro _ (And.intro (fun _ => And.intro rfl rfl) ?_)
    | refine Exists.intro _ (And.intro rfl ?_))
  obtain ⟨left, hleft⟩ : ∃ v, v = cnt (mdL x) (atO r) 100000000 := ⟨_, rfl⟩
  have hbl := bt_is hx (a := atO r) (b := 100000000) (by omega)
  rw [← hleft] at hbl
  have hfi := fin_iff (md_ok hx) (a := atO r) b2.1
  rw [← hleft] at hfi
  rcases fn_is hx (a := atO r) (m := nW m) (by omega) (by omega) with ⟨hf, hfv, hfe⟩ | ⟨e1, hf, hfv, hfe⟩
  · have hlt := hfi.1 hf
    rcases ft_is hx (a := atO r) (m := nW m) (by omega) (by omega) with ⟨hg, hgv, hge⟩ | ⟨b, hg, hgv, hge⟩
    · refine called_at (.t [.v (.int .i64 0), .v (.int .i64 6)]) rfl (fun w' hh => by rw [← hfv, ← hfe]; exact finish_any (mdL x) A1 cap1 (atO r) (nW m) w' (ro_of_row hh (id := 29) rfl) (by omega)) ?_
      repeat' ((conv => whnf); first
        | refine walk (Tryd.ok ..) ?_
        | refine walk (COk.with_ (Tryd.ok ..) _ _) ?_
        | refine walk (COk.with_ (COk.with_ (Tryd.ok ..) _ _) _ _) ?_
        | (refine Cnd.mk (fun h => ?_) (fun h => ?_) <;> (first | (exfalso; simp only [decide_eq_true_eq, decide_eq_false_iff_not, Bool.not_eq_true', Bool.not_eq_false'] at h; omega) | (exfalso; simp at h; omega) | simp at h | skip))
        | refine And.intro (Kept.mk ?_) ?_
        | refine Two.mk (And.intro ?_ ?_)
        | exact trivial
        | refine side ?_
        | refine sideL ?_
        | refine Or.inr ?_
        | refine sat_drawH (Tryd.ok ..) (by kernel_rfl) ?_
        | refine sat_drawH (COk.with_ (Tryd.ok ..) _ _) (by kernel_rfl) ?_
        | refine sat_drawH (COk.with_ (COk.with_ (Tryd.ok ..) _ _) _ _) (by kernel_rfl) ?_
        | refine Exists.intro [_] (And.intro (one_byte rfl) ?_)
        | refine Exists.intro [_] (And.intro (fun _ => one_byte rfl) ?_)
        | refine Exists.intro _ (And.intro (And.intro rfl rfl) ?_)
        | refine Exists.intro _ (And.intro (fun _ => And.intro rfl rfl) ?_)
        | refine Exists.intro _ (And.intro rfl ?_))
      refine called_at (.t [.v (.int .i64 left), .v (.int .i64 0)]) rfl (fun w' hh => by rw [← hbl.1, ← hbl.2]; exact between_any (mdL x) A1 cap1 (atO r) 100000000 w' (ro_of_row hh (id := 29) rfl) (by omega)) ?_
      repeat' ((conv => whnf); first
        | refine walk (Tryd.ok ..) ?_
        | refine walk (COk.with_ (Tryd.ok ..) _ _) ?_
        | refine walk (COk.with_ (COk.with_ (Tryd.ok ..) _ _) _ _) ?_
        | (refine Cnd.mk (fun h => ?_) (fun h => ?_) <;> (first | (exfalso; simp only [decide_eq_true_eq, decide_eq_false_iff_not, Bool.not_eq_true', Bool.not_eq_false'] at h; omega) | (exfalso; simp at h; omega) | simp at h | skip))
        | refine And.intro (Kept.mk ?_) ?_
        | refine Two.mk (And.intro ?_ ?_)
        | exact trivial
        | refine side ?_
        | refine sideL ?_
        | refine Or.inr ?_
        | refine sat_drawH (Tryd.ok ..) (by kernel_rfl) ?_
        | refine sat_drawH (COk.with_ (Tryd.ok ..) _ _) (by kernel_rfl) ?_
        | refine sat_drawH (COk.with_ (COk.with_ (Tryd.ok ..) _ _) _ _) (by kernel_rfl) ?_
        | refine Exists.intro [_] (And.intro (one_byte rfl) ?_)
        | refine Exists.intro [_] (And.intro (fun _ => one_byte rfl) ?_)
        | refine Exists.intro _ (And.intro (And.intro rfl rfl) ?_)
        | refine Exists.intro _ (And.intro (fun _ => And.intro rfl rfl) ?_)
        | refine Exists.intro _ (And.intro rfl ?_))
      refine called_at (.t [.v (.int .i64 0), .v (.int .i64 6)]) rfl (fun w' hh => by rw [← hgv, ← hge]; exact fit_any (mdL x) A1 cap1 (atO r) (nW m) w' (ro_of_row hh (id := 29) rfl) (by omega)) ?_
      repeat' ((conv => whnf); first
        | refine walk (Tryd.ok ..) ?_
        | refine walk (COk.with_ (Tryd.ok ..) _ _) ?_
        | refine walk (COk.with_ (COk.with_ (Tryd.ok ..) _ _) _ _) ?_
        | (refine Cnd.mk (fun h => ?_) (fun h => ?_) <;> (first | (exfalso; simp only [decide_eq_true_eq, decide_eq_false_iff_not, Bool.not_eq_true', Bool.not_eq_false'] at h; omega) | (exfalso; simp at h; omega) | simp at h | skip))
        | refine And.intro (Kept.mk ?_) ?_
        | refine Two.mk (And.intro ?_ ?_)
        | exact trivial
        | refine side ?_
        | refine sideL ?_
        | refine Or.inr ?_
        | refine sat_drawH (Tryd.ok ..) (by kernel_rfl) ?_
        | refine sat_drawH (COk.with_ (Tryd.ok ..) _ _) (by kernel_rfl) ?_
        | refine sat_drawH (COk.with_ (COk.with_ (Tryd.ok ..) _ _) _ _) (by kernel_rfl) ?_
        | refine Exists.intro [_] (And.intro (one_byte rfl) ?_)
        | refine Exists.intro [_] (And.intro (fun _ => one_byte rfl) ?_)
        | refine Exists.intro _ (And.intro (And.intro rfl rfl) ?_)
        | refine Exists.intro _ (And.intro (fun _ => And.intro rfl rfl) ?_)
        | refine Exists.intro _ (And.intro rfl ?_))
      refine sat_loop (Tryd.ok ..) (α := Nat) (fun k => ([(8, .yes, .v (.int .i64 (atO r))), (9, .yes, .v (.int .i64 (nW m))), (183, .yes, .o 29 A1 (mdL x).length cap1), (184, .yes, .v (.int .i64 (mdL x).length)), (185, .yes, .v (.int .i64 k))], [(29, .row A1 52 2 (mdL x).length cap1 (sps (mdL x)))])) (fun k => k ≤ (mdL x).length) (fun k => (mdL x).length - k) (fun _ => rfl) ?_ ?_
      · refine ⟨0, Nat.zero_le _, ?_, ?_, rfl⟩
        all_goals ((repeat' (first | exact trivial | exact rfl | refine And.intro ?_ ?_)) <;> (try (conv => whnf)) <;> (try simp only [SV.real, SV.r2, SV.r1]))
      intro k hk
      by_cases hk1 : k < (mdL x).length
      · obtain ⟨s, hs⟩ : ∃ s, (mdL x)[k]? = some s := ⟨(mdL x)[k], List.getElem?_eq_getElem hk1⟩
        have hso := ok_own (md_ok hx) hs
        have hno := fit_no hg (List.mem_of_getElem? hs)
        repeat' ((conv => whnf); first
          | refine walk (Tryd.ok ..) ?_
          | refine walk (COk.with_ (Tryd.ok ..) _ _) ?_
          | refine walk (COk.with_ (COk.with_ (Tryd.ok ..) _ _) _ _) ?_
          | (refine Cnd.mk (fun h => ?_) (fun h => ?_) <;> (first | (exfalso; simp only [decide_eq_true_eq, decide_eq_false_iff_not, Bool.not_eq_true', Bool.not_eq_false'] at h; omega) | (exfalso; simp at h; omega) | simp at h | skip))
          | refine And.intro (Kept.mk ?_) ?_
          | refine Two.mk (And.intro ?_ ?_)
          | exact trivial
          | refine side ?_
          | refine sideL ?_
          | refine Or.inr ?_
          | refine sat_drawH (Tryd.ok ..) (by kernel_rfl) ?_
          | refine sat_drawH (COk.with_ (Tryd.ok ..) _ _) (by kernel_rfl) ?_
          | refine sat_drawH (COk.with_ (COk.with_ (Tryd.ok ..) _ _) _ _) (by kernel_rfl) ?_
          | refine Exists.intro [_] (And.intro (one_byte rfl) ?_)
          | refine Exists.intro [_] (And.intro (fun _ => one_byte rfl) ?_)
          | refine Exists.intro _ (And.intro (And.intro rfl rfl) ?_)
          | refine Exists.intro _ (And.intro (fun _ => And.intro rfl rfl) ?_)
          | refine Exists.intro _ (And.intro rfl ?_)
          | refine Exists.intro _ (And.intro (fun _ => (at_s hs rfl)) ?_)
          | refine Exists.intro _ (And.intro (at_s hs rfl) ?_))
        intro g25 hg25
        repeat' ((conv => whnf); first
          | refine walk (Tryd.ok ..) ?_
          | refine walk (COk.with_ (Tryd.ok ..) _ _) ?_
          | refine walk (COk.with_ (COk.with_ (Tryd.ok ..) _ _) _ _) ?_
          | (refine Cnd.mk (fun h => ?_) (fun h => ?_) <;> (first | (exfalso; simp only [decide_eq_true_eq, decide_eq_false_iff_not, Bool.not_eq_true', Bool.not_eq_false'] at h; omega) | (exfalso; simp at h; omega) | simp at h | skip))
          | refine And.intro (Kept.mk ?_) ?_
          | refine Two.mk (And.intro ?_ ?_)
          | exact trivial
          | refine side ?_
          | refine sideL ?_
          | refine Or.inr ?_
          | refine sat_drawH (Tryd.ok ..) (by kernel_rfl) ?_
          | refine sat_drawH (COk.with_ (Tryd.ok ..) _ _) (by kernel_rfl) ?_
          | refine sat_drawH (COk.with_ (COk.with_ (Tryd.ok ..) _ _) _ _) (by kernel_rfl) ?_
          | refine Exists.intro [_] (And.intro (one_byte rfl) ?_)
          | refine Exists.intro [_] (And.intro (fun _ => one_byte rfl) ?_)
          | refine Exists.intro _ (And.intro (And.intro rfl rfl) ?_)
          | refine Exists.intro _ (And.intro (fun _ => And.intro rfl rfl) ?_)
          | refine Exists.intro _ (And.intro rfl ?_))
        refine ⟨k + 1, ⟨by omega, by omega⟩, ?_, ?_, rfl⟩
        all_goals ((repeat' (first | exact trivial | exact rfl | refine And.intro ?_ ?_)) <;> (try (conv => whnf)) <;> (try simp only [SV.real, SV.r2, SV.r1]))
      · obtain rfl : k = (mdL x).length := by omega
        repeat' ((conv => whnf); first
          | refine walk (Tryd.ok ..) ?_
          | refine walk (COk.with_ (Tryd.ok ..) _ _) ?_
          | refine walk (COk.with_ (COk.with_ (Tryd.ok ..) _ _) _ _) ?_
          | (refine Cnd.mk (fun h => ?_) (fun h => ?_) <;> (first | (exfalso; simp only [decide_eq_true_eq, decide_eq_false_iff_not, Bool.not_eq_true', Bool.not_eq_false'] at h; omega) | (exfalso; simp at h; omega) | simp at h | skip))
          | refine And.intro (Kept.mk ?_) ?_
          | refine Two.mk (And.intro ?_ ?_)
          | exact trivial
          | refine side ?_
          | refine sideL ?_
          | refine Or.inr ?_
          | refine sat_drawH (Tryd.ok ..) (by kernel_rfl) ?_
          | refine sat_drawH (COk.with_ (Tryd.ok ..) _ _) (by kernel_rfl) ?_
          | refine sat_drawH (COk.with_ (COk.with_ (Tryd.ok ..) _ _) _ _) (by kernel_rfl) ?_
          | refine Exists.intro [_] (And.intro (one_byte rfl) ?_)
          | refine Exists.intro [_] (And.intro (fun _ => one_byte rfl) ?_)
          | refine Exists.intro _ (And.intro (And.intro rfl rfl) ?_)
          | refine Exists.intro _ (And.intro (fun _ => And.intro rfl rfl) ?_)
          | refine Exists.intro _ (And.intro rfl ?_))
        exact done_pure rfl rfl rfl
    · exfalso
      obtain ⟨e, h1, _⟩ := fit_fin (md_ok hx) b2.1 hg
      rw [hf] at h1
      cases h1
  · obtain ⟨f1, f2, f3, f4, f5⟩ := fin_facts (md_ok hx) b2.1 hf
    have hge0 : nW m ≤ left := by
      rcases Int.lt_or_le left (nW m) with c | c
      · rw [hfi.2 c] at hf; cases hf
      · exact c
    have hbe := bt_is hx (a := atO r) (b := e1) (by omega)
    rw [f1] at hbe
    refine called_at (.t [.v (.int .i64 e1), .v (.int .i64 0)]) rfl (fun w' hh => by rw [← hfv, ← hfe]; exact finish_any (mdL x) A1 cap1 (atO r) (nW m) w' (ro_of_row hh (id := 29) rfl) (by omega)) ?_
    repeat' ((conv => whnf); first
      | refine walk (Tryd.ok ..) ?_
      | refine walk (COk.with_ (Tryd.ok ..) _ _) ?_
      | refine walk (COk.with_ (COk.with_ (Tryd.ok ..) _ _) _ _) ?_
      | (refine Cnd.mk (fun h => ?_) (fun h => ?_) <;> (first | (exfalso; simp only [decide_eq_true_eq, decide_eq_false_iff_not, Bool.not_eq_true', Bool.not_eq_false'] at h; omega) | (exfalso; simp at h; omega) | simp at h | skip))
      | refine And.intro (Kept.mk ?_) ?_
      | refine Two.mk (And.intro ?_ ?_)
      | exact trivial
      | refine side ?_
      | refine sideL ?_
      | refine Or.inr ?_
      | refine sat_drawH (Tryd.ok ..) (by kernel_rfl) ?_
      | refine sat_drawH (COk.with_ (Tryd.ok ..) _ _) (by kernel_rfl) ?_
      | refine sat_drawH (COk.with_ (COk.with_ (Tryd.ok ..) _ _) _ _) (by kernel_rfl) ?_
      | refine Exists.intro [_] (And.intro (one_byte rfl) ?_)
      | refine Exists.intro [_] (And.intro (fun _ => one_byte rfl) ?_)
      | refine Exists.intro _ (And.intro (And.intro rfl rfl) ?_)
      | refine Exists.intro _ (And.intro (fun _ => And.intro rfl rfl) ?_)
      | refine Exists.intro _ (And.intro rfl ?_))
    refine called_at (.t [.v (.int .i64 left), .v (.int .i64 0)]) rfl (fun w' hh => by rw [← hbl.1, ← hbl.2]; exact between_any (mdL x) A1 cap1 (atO r) 100000000 w' (ro_of_row hh (id := 29) rfl) (by omega)) ?_
    repeat' ((conv => whnf); first
      | refine walk (Tryd.ok ..) ?_
      | refine walk (COk.with_ (Tryd.ok ..) _ _) ?_
      | refine walk (COk.with_ (COk.with_ (Tryd.ok ..) _ _) _ _) ?_
      | (refine Cnd.mk (fun h => ?_) (fun h => ?_) <;> (first | (exfalso; simp only [decide_eq_true_eq, decide_eq_false_iff_not, Bool.not_eq_true', Bool.not_eq_false'] at h; omega) | (exfalso; simp at h; omega) | simp at h | skip))
      | refine And.intro (Kept.mk ?_) ?_
      | refine Two.mk (And.intro ?_ ?_)
      | exact trivial
      | refine side ?_
      | refine sideL ?_
      | refine Or.inr ?_
      | refine sat_drawH (Tryd.ok ..) (by kernel_rfl) ?_
      | refine sat_drawH (COk.with_ (Tryd.ok ..) _ _) (by kernel_rfl) ?_
      | refine sat_drawH (COk.with_ (COk.with_ (Tryd.ok ..) _ _) _ _) (by kernel_rfl) ?_
      | refine Exists.intro [_] (And.intro (one_byte rfl) ?_)
      | refine Exists.intro [_] (And.intro (fun _ => one_byte rfl) ?_)
      | refine Exists.intro _ (And.intro (And.intro rfl rfl) ?_)
      | refine Exists.intro _ (And.intro (fun _ => And.intro rfl rfl) ?_)
      | refine Exists.intro _ (And.intro rfl ?_))
    rcases ft_is hx (a := atO r) (m := nW m) (by omega) (by omega) with ⟨hg, hgv, hge⟩ | ⟨b, hg, hgv, hge⟩
    · refine called_at (.t [.v (.int .i64 0), .v (.int .i64 6)]) rfl (fun w' hh => by rw [← hgv, ← hge]; exact fit_any (mdL x) A1 cap1 (atO r) (nW m) w' (ro_of_row hh (id := 29) rfl) (by omega)) ?_
      repeat' ((conv => whnf); first
        | refine walk (Tryd.ok ..) ?_
        | refine walk (COk.with_ (Tryd.ok ..) _ _) ?_
        | refine walk (COk.with_ (COk.with_ (Tryd.ok ..) _ _) _ _) ?_
        | (refine Cnd.mk (fun h => ?_) (fun h => ?_) <;> (first | (exfalso; simp only [decide_eq_true_eq, decide_eq_false_iff_not, Bool.not_eq_true', Bool.not_eq_false'] at h; omega) | (exfalso; simp at h; omega) | simp at h | skip))
        | refine And.intro (Kept.mk ?_) ?_
        | refine Two.mk (And.intro ?_ ?_)
        | exact trivial
        | refine side ?_
        | refine sideL ?_
        | refine Or.inr ?_
        | refine sat_drawH (Tryd.ok ..) (by kernel_rfl) ?_
        | refine sat_drawH (COk.with_ (Tryd.ok ..) _ _) (by kernel_rfl) ?_
        | refine sat_drawH (COk.with_ (COk.with_ (Tryd.ok ..) _ _) _ _) (by kernel_rfl) ?_
        | refine Exists.intro [_] (And.intro (one_byte rfl) ?_)
        | refine Exists.intro [_] (And.intro (fun _ => one_byte rfl) ?_)
        | refine Exists.intro _ (And.intro (And.intro rfl rfl) ?_)
        | refine Exists.intro _ (And.intro (fun _ => And.intro rfl rfl) ?_)
        | refine Exists.intro _ (And.intro rfl ?_))
      refine called_at (.t [.v (.int .i64 (nW m)), .v (.int .i64 0)]) rfl (fun w' hh => by
        have h1 := between_any (mdL x) A1 cap1 (atO r) e1 w' (ro_of_row hh (id := 29) rfl) (by omega)
        rw [hbe.1, hbe.2] at h1
        exact h1) ?_
      repeat' ((conv => whnf); first
        | refine walk (Tryd.ok ..) ?_
        | refine walk (COk.with_ (Tryd.ok ..) _ _) ?_
        | refine walk (COk.with_ (COk.with_ (Tryd.ok ..) _ _) _ _) ?_
        | (refine Cnd.mk (fun h => ?_) (fun h => ?_) <;> (first | (exfalso; simp only [decide_eq_true_eq, decide_eq_false_iff_not, Bool.not_eq_true', Bool.not_eq_false'] at h; omega) | (exfalso; simp at h; omega) | simp at h | skip))
        | refine And.intro (Kept.mk ?_) ?_
        | refine Two.mk (And.intro ?_ ?_)
        | exact trivial
        | refine side ?_
        | refine sideL ?_
        | refine Or.inr ?_
        | refine sat_drawH (Tryd.ok ..) (by kernel_rfl) ?_
        | refine sat_drawH (COk.with_ (Tryd.ok ..) _ _) (by kernel_rfl) ?_
        | refine sat_drawH (COk.with_ (COk.with_ (Tryd.ok ..) _ _) _ _) (by kernel_rfl) ?_
        | refine Exists.intro [_] (And.intro (one_byte rfl) ?_)
        | refine Exists.intro [_] (And.intro (fun _ => one_byte rfl) ?_)
        | refine Exists.intro _ (And.intro (And.intro rfl rfl) ?_)
        | refine Exists.intro _ (And.intro (fun _ => And.intro rfl rfl) ?_)
        | refine Exists.intro _ (And.intro rfl ?_))
      refine calledQ_at (.v (.bool true)) rfl (fun _ w' hh => by rw [← f5]; exact lin_any (mdL x) A1 cap1 (e1 - 1) w' (ro_of_row hh (id := 29) rfl) (by omega)) ?_
      repeat' ((conv => whnf); first
        | refine walk (Tryd.ok ..) ?_
        | refine walk (COk.with_ (Tryd.ok ..) _ _) ?_
        | refine walk (COk.with_ (COk.with_ (Tryd.ok ..) _ _) _ _) ?_
        | (refine Cnd.mk (fun h => ?_) (fun h => ?_) <;> (first | (exfalso; simp only [decide_eq_true_eq, decide_eq_false_iff_not, Bool.not_eq_true', Bool.not_eq_false'] at h; omega) | (exfalso; simp at h; omega) | simp at h | skip))
        | refine And.intro (Kept.mk ?_) ?_
        | refine Two.mk (And.intro ?_ ?_)
        | exact trivial
        | refine side ?_
        | refine sideL ?_
        | refine Or.inr ?_
        | refine sat_drawH (Tryd.ok ..) (by kernel_rfl) ?_
        | refine sat_drawH (COk.with_ (Tryd.ok ..) _ _) (by kernel_rfl) ?_
        | refine sat_drawH (COk.with_ (COk.with_ (Tryd.ok ..) _ _) _ _) (by kernel_rfl) ?_
        | refine Exists.intro [_] (And.intro (one_byte rfl) ?_)
        | refine Exists.intro [_] (And.intro (fun _ => one_byte rfl) ?_)
        | refine Exists.intro _ (And.intro (And.intro rfl rfl) ?_)
        | refine Exists.intro _ (And.intro (fun _ => And.intro rfl rfl) ?_)
        | refine Exists.intro _ (And.intro rfl ?_))
      refine sat_loop (Tryd.ok ..) (α := Nat) (fun k => ([(8, .yes, .v (.int .i64 (atO r))), (9, .yes, .v (.int .i64 (nW m))), (183, .yes, .o 29 A1 (mdL x).length cap1), (184, .yes, .v (.int .i64 (mdL x).length)), (185, .yes, .v (.int .i64 k))], [(29, .row A1 52 2 (mdL x).length cap1 (sps (mdL x)))])) (fun k => k ≤ (mdL x).length) (fun k => (mdL x).length - k) (fun _ => rfl) ?_ ?_
      · refine ⟨0, Nat.zero_le _, ?_, ?_, rfl⟩
        all_goals ((repeat' (first | exact trivial | exact rfl | refine And.intro ?_ ?_)) <;> (try (conv => whnf)) <;> (try simp only [SV.real, SV.r2, SV.r1]))
      intro k hk
      by_cases hk1 : k < (mdL x).length
      · obtain ⟨s, hs⟩ : ∃ s, (mdL x)[k]? = some s := ⟨(mdL x)[k], List.getElem?_eq_getElem hk1⟩
        have hso := ok_own (md_ok hx) hs
        have hno := fit_no hg (List.mem_of_getElem? hs)
        repeat' ((conv => whnf); first
          | refine walk (Tryd.ok ..) ?_
          | refine walk (COk.with_ (Tryd.ok ..) _ _) ?_
          | refine walk (COk.with_ (COk.with_ (Tryd.ok ..) _ _) _ _) ?_
          | (refine Cnd.mk (fun h => ?_) (fun h => ?_) <;> (first | (exfalso; simp only [decide_eq_true_eq, decide_eq_false_iff_not, Bool.not_eq_true', Bool.not_eq_false'] at h; omega) | (exfalso; simp at h; omega) | simp at h | skip))
          | refine And.intro (Kept.mk ?_) ?_
          | refine Two.mk (And.intro ?_ ?_)
          | exact trivial
          | refine side ?_
          | refine sideL ?_
          | refine Or.inr ?_
          | refine sat_drawH (Tryd.ok ..) (by kernel_rfl) ?_
          | refine sat_drawH (COk.with_ (Tryd.ok ..) _ _) (by kernel_rfl) ?_
          | refine sat_drawH (COk.with_ (COk.with_ (Tryd.ok ..) _ _) _ _) (by kernel_rfl) ?_
          | refine Exists.intro [_] (And.intro (one_byte rfl) ?_)
          | refine Exists.intro [_] (And.intro (fun _ => one_byte rfl) ?_)
          | refine Exists.intro _ (And.intro (And.intro rfl rfl) ?_)
          | refine Exists.intro _ (And.intro (fun _ => And.intro rfl rfl) ?_)
          | refine Exists.intro _ (And.intro rfl ?_)
          | refine Exists.intro _ (And.intro (fun _ => (at_s hs rfl)) ?_)
          | refine Exists.intro _ (And.intro (at_s hs rfl) ?_))
        intro g25 hg25
        repeat' ((conv => whnf); first
          | refine walk (Tryd.ok ..) ?_
          | refine walk (COk.with_ (Tryd.ok ..) _ _) ?_
          | refine walk (COk.with_ (COk.with_ (Tryd.ok ..) _ _) _ _) ?_
          | (refine Cnd.mk (fun h => ?_) (fun h => ?_) <;> (first | (exfalso; simp only [decide_eq_true_eq, decide_eq_false_iff_not, Bool.not_eq_true', Bool.not_eq_false'] at h; omega) | (exfalso; simp at h; omega) | simp at h | skip))
          | refine And.intro (Kept.mk ?_) ?_
          | refine Two.mk (And.intro ?_ ?_)
          | exact trivial
          | refine side ?_
          | refine sideL ?_
          | refine Or.inr ?_
          | refine sat_drawH (Tryd.ok ..) (by kernel_rfl) ?_
          | refine sat_drawH (COk.with_ (Tryd.ok ..) _ _) (by kernel_rfl) ?_
          | refine sat_drawH (COk.with_ (COk.with_ (Tryd.ok ..) _ _) _ _) (by kernel_rfl) ?_
          | refine Exists.intro [_] (And.intro (one_byte rfl) ?_)
          | refine Exists.intro [_] (And.intro (fun _ => one_byte rfl) ?_)
          | refine Exists.intro _ (And.intro (And.intro rfl rfl) ?_)
          | refine Exists.intro _ (And.intro (fun _ => And.intro rfl rfl) ?_)
          | refine Exists.intro _ (And.intro rfl ?_))
        refine ⟨k + 1, ⟨by omega, by omega⟩, ?_, ?_, rfl⟩
        all_goals ((repeat' (first | exact trivial | exact rfl | refine And.intro ?_ ?_)) <;> (try (conv => whnf)) <;> (try simp only [SV.real, SV.r2, SV.r1]))
      · obtain rfl : k = (mdL x).length := by omega
        repeat' ((conv => whnf); first
          | refine walk (Tryd.ok ..) ?_
          | refine walk (COk.with_ (Tryd.ok ..) _ _) ?_
          | refine walk (COk.with_ (COk.with_ (Tryd.ok ..) _ _) _ _) ?_
          | (refine Cnd.mk (fun h => ?_) (fun h => ?_) <;> (first | (exfalso; simp only [decide_eq_true_eq, decide_eq_false_iff_not, Bool.not_eq_true', Bool.not_eq_false'] at h; omega) | (exfalso; simp at h; omega) | simp at h | skip))
          | refine And.intro (Kept.mk ?_) ?_
          | refine Two.mk (And.intro ?_ ?_)
          | exact trivial
          | refine side ?_
          | refine sideL ?_
          | refine Or.inr ?_
          | refine sat_drawH (Tryd.ok ..) (by kernel_rfl) ?_
          | refine sat_drawH (COk.with_ (Tryd.ok ..) _ _) (by kernel_rfl) ?_
          | refine sat_drawH (COk.with_ (COk.with_ (Tryd.ok ..) _ _) _ _) (by kernel_rfl) ?_
          | refine Exists.intro [_] (And.intro (one_byte rfl) ?_)
          | refine Exists.intro [_] (And.intro (fun _ => one_byte rfl) ?_)
          | refine Exists.intro _ (And.intro (And.intro rfl rfl) ?_)
          | refine Exists.intro _ (And.intro (fun _ => And.intro rfl rfl) ?_)
          | refine Exists.intro _ (And.intro rfl ?_))
        exact done_pure rfl rfl rfl
    · obtain ⟨k1, k2, k3⟩ := cnt_fit (md_ok hx) b2.1 hg
      obtain ⟨e2, k4, k5⟩ := fit_fin (md_ok hx) b2.1 hg
      rw [hf] at k4
      cases k4
      have hbb := bt_is hx (a := b) (b := b + nW m) (by omega)
      rw [k1] at hbb
      refine called_at (.t [.v (.int .i64 b), .v (.int .i64 0)]) rfl (fun w' hh => by rw [← hgv, ← hge]; exact fit_any (mdL x) A1 cap1 (atO r) (nW m) w' (ro_of_row hh (id := 29) rfl) (by omega)) ?_
      repeat' ((conv => whnf); first
        | refine walk (Tryd.ok ..) ?_
        | refine walk (COk.with_ (Tryd.ok ..) _ _) ?_
        | refine walk (COk.with_ (COk.with_ (Tryd.ok ..) _ _) _ _) ?_
        | (refine Cnd.mk (fun h => ?_) (fun h => ?_) <;> (first | (exfalso; simp only [decide_eq_true_eq, decide_eq_false_iff_not, Bool.not_eq_true', Bool.not_eq_false'] at h; omega) | (exfalso; simp at h; omega) | simp at h | skip))
        | refine And.intro (Kept.mk ?_) ?_
        | refine Two.mk (And.intro ?_ ?_)
        | exact trivial
        | refine side ?_
        | refine sideL ?_
        | refine Or.inr ?_
        | refine sat_drawH (Tryd.ok ..) (by kernel_rfl) ?_
        | refine sat_drawH (COk.with_ (Tryd.ok ..) _ _) (by kernel_rfl) ?_
        | refine sat_drawH (COk.with_ (COk.with_ (Tryd.ok ..) _ _) _ _) (by kernel_rfl) ?_
        | refine Exists.intro [_] (And.intro (one_byte rfl) ?_)
        | refine Exists.intro [_] (And.intro (fun _ => one_byte rfl) ?_)
        | refine Exists.intro _ (And.intro (And.intro rfl rfl) ?_)
        | refine Exists.intro _ (And.intro (fun _ => And.intro rfl rfl) ?_)
        | refine Exists.intro _ (And.intro rfl ?_))
      refine called_at (.t [.v (.int .i64 (nW m)), .v (.int .i64 0)]) rfl (fun w' hh => by
        have h1 := between_any (mdL x) A1 cap1 (atO r) e1 w' (ro_of_row hh (id := 29) rfl) (by omega)
        rw [hbe.1, hbe.2] at h1
        exact h1) ?_
      repeat' ((conv => whnf); first
        | refine walk (Tryd.ok ..) ?_
        | refine walk (COk.with_ (Tryd.ok ..) _ _) ?_
        | refine walk (COk.with_ (COk.with_ (Tryd.ok ..) _ _) _ _) ?_
        | (refine Cnd.mk (fun h => ?_) (fun h => ?_) <;> (first | (exfalso; simp only [decide_eq_true_eq, decide_eq_false_iff_not, Bool.not_eq_true', Bool.not_eq_false'] at h; omega) | (exfalso; simp at h; omega) | simp at h | skip))
        | refine And.intro (Kept.mk ?_) ?_
        | refine Two.mk (And.intro ?_ ?_)
        | exact trivial
        | refine side ?_
        | refine sideL ?_
        | refine Or.inr ?_
        | refine sat_drawH (Tryd.ok ..) (by kernel_rfl) ?_
        | refine sat_drawH (COk.with_ (Tryd.ok ..) _ _) (by kernel_rfl) ?_
        | refine sat_drawH (COk.with_ (COk.with_ (Tryd.ok ..) _ _) _ _) (by kernel_rfl) ?_
        | refine Exists.intro [_] (And.intro (one_byte rfl) ?_)
        | refine Exists.intro [_] (And.intro (fun _ => one_byte rfl) ?_)
        | refine Exists.intro _ (And.intro (And.intro rfl rfl) ?_)
        | refine Exists.intro _ (And.intro (fun _ => And.intro rfl rfl) ?_)
        | refine Exists.intro _ (And.intro rfl ?_))
      refine calledQ_at (.v (.bool true)) rfl (fun _ w' hh => by rw [← f5]; exact lin_any (mdL x) A1 cap1 (e1 - 1) w' (ro_of_row hh (id := 29) rfl) (by omega)) ?_
      repeat' ((conv => whnf); first
        | refine walk (Tryd.ok ..) ?_
        | refine walk (COk.with_ (Tryd.ok ..) _ _) ?_
        | refine walk (COk.with_ (COk.with_ (Tryd.ok ..) _ _) _ _) ?_
        | (refine Cnd.mk (fun h => ?_) (fun h => ?_) <;> (first | (exfalso; simp only [decide_eq_true_eq, decide_eq_false_iff_not, Bool.not_eq_true', Bool.not_eq_false'] at h; omega) | (exfalso; simp at h; omega) | simp at h | skip))
        | refine And.intro (Kept.mk ?_) ?_
        | refine Two.mk (And.intro ?_ ?_)
        | exact trivial
        | refine side ?_
        | refine sideL ?_
        | refine Or.inr ?_
        | refine sat_drawH (Tryd.ok ..) (by kernel_rfl) ?_
        | refine sat_drawH (COk.with_ (Tryd.ok ..) _ _) (by kernel_rfl) ?_
        | refine sat_drawH (COk.with_ (COk.with_ (Tryd.ok ..) _ _) _ _) (by kernel_rfl) ?_
        | refine Exists.intro [_] (And.intro (one_byte rfl) ?_)
        | refine Exists.intro [_] (And.intro (fun _ => one_byte rfl) ?_)
        | refine Exists.intro _ (And.intro (And.intro rfl rfl) ?_)
        | refine Exists.intro _ (And.intro (fun _ => And.intro rfl rfl) ?_)
        | refine Exists.intro _ (And.intro rfl ?_))
      refine called_at (.t [.v (.int .i64 (nW m)), .v (.int .i64 0)]) rfl (fun w' hh => by
        have h1 := between_any (mdL x) A1 cap1 b (b + nW m) w' (ro_of_row hh (id := 29) rfl) (by omega)
        rw [hbb.1, hbb.2] at h1
        exact h1) ?_
      repeat' ((conv => whnf); first
        | refine walk (Tryd.ok ..) ?_
        | refine walk (COk.with_ (Tryd.ok ..) _ _) ?_
        | refine walk (COk.with_ (COk.with_ (Tryd.ok ..) _ _) _ _) ?_
        | (refine Cnd.mk (fun h => ?_) (fun h => ?_) <;> (first | (exfalso; simp only [decide_eq_true_eq, decide_eq_false_iff_not, Bool.not_eq_true', Bool.not_eq_false'] at h; omega) | (exfalso; simp at h; omega) | simp at h | skip))
        | refine And.intro (Kept.mk ?_) ?_
        | refine Two.mk (And.intro ?_ ?_)
        | exact trivial
        | refine side ?_
        | refine sideL ?_
        | refine Or.inr ?_
        | refine sat_drawH (Tryd.ok ..) (by kernel_rfl) ?_
        | refine sat_drawH (COk.with_ (Tryd.ok ..) _ _) (by kernel_rfl) ?_
        | refine sat_drawH (COk.with_ (COk.with_ (Tryd.ok ..) _ _) _ _) (by kernel_rfl) ?_
        | refine Exists.intro [_] (And.intro (one_byte rfl) ?_)
        | refine Exists.intro [_] (And.intro (fun _ => one_byte rfl) ?_)
        | refine Exists.intro _ (And.intro (And.intro rfl rfl) ?_)
        | refine Exists.intro _ (And.intro (fun _ => And.intro rfl rfl) ?_)
        | refine Exists.intro _ (And.intro rfl ?_))
      intro g127 hg127
      repeat' ((conv => whnf); first
        | refine walk (Tryd.ok ..) ?_
        | refine walk (COk.with_ (Tryd.ok ..) _ _) ?_
        | refine walk (COk.with_ (COk.with_ (Tryd.ok ..) _ _) _ _) ?_
        | (refine Cnd.mk (fun h => ?_) (fun h => ?_) <;> (first | (exfalso; simp only [decide_eq_true_eq, decide_eq_false_iff_not, Bool.not_eq_true', Bool.not_eq_false'] at h; omega) | (exfalso; simp at h; omega) | simp at h | skip))
        | refine And.intro (Kept.mk ?_) ?_
        | refine Two.mk (And.intro ?_ ?_)
        | exact trivial
        | refine side ?_
        | refine sideL ?_
        | refine Or.inr ?_
        | refine sat_drawH (Tryd.ok ..) (by kernel_rfl) ?_
        | refine sat_drawH (COk.with_ (Tryd.ok ..) _ _) (by kernel_rfl) ?_
        | refine sat_drawH (COk.with_ (COk.with_ (Tryd.ok ..) _ _) _ _) (by kernel_rfl) ?_
        | refine Exists.intro [_] (And.intro (one_byte rfl) ?_)
        | refine Exists.intro [_] (And.intro (fun _ => one_byte rfl) ?_)
        | refine Exists.intro _ (And.intro (And.intro rfl rfl) ?_)
        | refine Exists.intro _ (And.intro (fun _ => And.intro rfl rfl) ?_)
        | refine Exists.intro _ (And.intro rfl ?_))
      intro A2 cap2
      repeat' ((conv => whnf); first
        | refine walk (Tryd.ok ..) ?_
        | refine walk (COk.with_ (Tryd.ok ..) _ _) ?_
        | refine walk (COk.with_ (COk.with_ (Tryd.ok ..) _ _) _ _) ?_
        | (refine Cnd.mk (fun h => ?_) (fun h => ?_) <;> (first | (exfalso; simp only [decide_eq_true_eq, decide_eq_false_iff_not, Bool.not_eq_true', Bool.not_eq_false'] at h; omega) | (exfalso; simp at h; omega) | simp at h | skip))
        | refine And.intro (Kept.mk ?_) ?_
        | refine Two.mk (And.intro ?_ ?_)
        | exact trivial
        | refine side ?_
        | refine sideL ?_
        | refine Or.inr ?_
        | refine sat_drawH (Tryd.ok ..) (by kernel_rfl) ?_
        | refine sat_drawH (COk.with_ (Tryd.ok ..) _ _) (by kernel_rfl) ?_
        | refine sat_drawH (COk.with_ (COk.with_ (Tryd.ok ..) _ _) _ _) (by kernel_rfl) ?_
        | refine Exists.intro [_] (And.intro (one_byte rfl) ?_)
        | refine Exists.intro [_] (And.intro (fun _ => one_byte rfl) ?_)
        | refine Exists.intro _ (And.intro (And.intro rfl rfl) ?_)
        | refine Exists.intro _ (And.intro (fun _ => And.intro rfl rfl) ?_)
        | refine Exists.intro _ (And.intro rfl ?_))
      refine sat_loop (Tryd.ok ..) (α := Nat) (fun k => ([(7, .yes, .o 29 A1 (mdL x).length cap1), (8, .yes, .v (.int .i64 (atO r))), (9, .yes, .v (.int .i64 (nW m))), (10, .yes, .v (.int .i64 e1)), (14, .yes, .v (.int .i64 b)), (18, .yes, .v (.int .i64 (nW m))), (19, .yes, .v (.int .i64 0)), (129, .yes, .o 127 A2 (1 + (mdL x).length) cap2), (130, .yes, .v (.int .i64 ((1 + (mdL x).length : Nat) : Int))), (131, .yes, .v (.int .i64 k))], [(29, .row A1 52 2 (mdL x).length cap1 (sps (mdL x))), (127, .row A2 52 2 (1 + (mdL x).length) cap2 (sps (⟨atO r, 0⟩ :: mdL x)))])) (fun k => k ≤ 1 + (mdL x).length) (fun k => 1 + (mdL x).length - k) (fun _ => rfl) ?_ ?_
      · refine ⟨0, Nat.zero_le _, ?_, ?_, rfl⟩
        · ((repeat' (first | exact trivial | exact rfl | refine And.intro ?_ ?_)) <;> (try (conv => whnf)) <;> (try simp only [SV.real, SV.r2, SV.r1]))
        · ((repeat' (first | exact trivial | exact rfl | refine And.intro ?_ ?_)) <;> (try (conv => whnf)) <;> (try simp only [SV.real, SV.r2, SV.r1]))
          rw [← hsl, List.take_length]
          rfl
      intro k hk
      by_cases hk1 : k < 1 + (mdL x).length
      · obtain ⟨s, hs⟩ : ∃ s, ((⟨atO r, 0⟩ : Sp) :: mdL x)[k]? = some s := ⟨((⟨atO r, 0⟩ : Sp) :: mdL x)[k]'(by rw [List.length_cons]; omega), List.getElem?_eq_getElem _⟩
        repeat' ((conv => whnf); first
          | refine walk (Tryd.ok ..) ?_
          | refine walk (COk.with_ (Tryd.ok ..) _ _) ?_
          | refine walk (COk.with_ (COk.with_ (Tryd.ok ..) _ _) _ _) ?_
          | (refine Cnd.mk (fun h => ?_) (fun h => ?_) <;> (first | (exfalso; simp only [decide_eq_true_eq, decide_eq_false_iff_not, Bool.not_eq_true', Bool.not_eq_false'] at h; omega) | (exfalso; simp at h; omega) | simp at h | skip))
          | refine And.intro (Kept.mk ?_) ?_
          | refine Two.mk (And.intro ?_ ?_)
          | exact trivial
          | refine side ?_
          | refine sideL ?_
          | refine Or.inr ?_
          | refine sat_drawH (Tryd.ok ..) (by kernel_rfl) ?_
          | refine sat_drawH (COk.with_ (Tryd.ok ..) _ _) (by kernel_rfl) ?_
          | refine sat_drawH (COk.with_ (COk.with_ (Tryd.ok ..) _ _) _ _) (by kernel_rfl) ?_
          | refine Exists.intro [_] (And.intro (one_byte rfl) ?_)
          | refine Exists.intro [_] (And.intro (fun _ => one_byte rfl) ?_)
          | refine Exists.intro _ (And.intro (And.intro rfl rfl) ?_)
          | refine Exists.intro _ (And.intro (fun _ => And.intro rfl rfl) ?_)
          | refine Exists.intro _ (And.intro rfl ?_)
          | refine Exists.intro _ (And.intro (fun _ => (at_s hs rfl)) ?_)
          | refine Exists.intro _ (And.intro (at_s hs rfl) ?_))
        intro g21 hg21
        repeat' ((conv => whnf); first
          | refine walk (Tryd.ok ..) ?_
          | refine walk (COk.with_ (Tryd.ok ..) _ _) ?_
          | refine walk (COk.with_ (COk.with_ (Tryd.ok ..) _ _) _ _) ?_
          | (refine Cnd.mk (fun h => ?_) (fun h => ?_) <;> (first | (exfalso; simp only [decide_eq_true_eq, decide_eq_false_iff_not, Bool.not_eq_true', Bool.not_eq_false'] at h; omega) | (exfalso; simp at h; omega) | simp at h | skip))
          | refine And.intro (Kept.mk ?_) ?_
          | refine Two.mk (And.intro ?_ ?_)
          | exact trivial
          | refine side ?_
          | refine sideL ?_
          | refine Or.inr ?_
          | refine sat_drawH (Tryd.ok ..) (by kernel_rfl) ?_
          | refine sat_drawH (COk.with_ (Tryd.ok ..) _ _) (by kernel_rfl) ?_
          | refine sat_drawH (COk.with_ (COk.with_ (Tryd.ok ..) _ _) _ _) (by kernel_rfl) ?_
          | refine Exists.intro [_] (And.intro (one_byte rfl) ?_)
          | refine Exists.intro [_] (And.intro (fun _ => one_byte rfl) ?_)
          | refine Exists.intro _ (And.intro (And.intro rfl rfl) ?_)
          | refine Exists.intro _ (And.intro (fun _ => And.intro rfl rfl) ?_)
          | refine Exists.intro _ (And.intro rfl ?_))
        · have hsf := h
          have hbo := bt_is hx (a := s.f) (b := s.f + nW m) (by omega)
          have hne := fit_first (md_ok hx) b2.1 hg hsf.1 hsf.2
          obtain ⟨v, hv⟩ : ∃ v, v = cnt (mdL x) s.f (s.f + nW m) := ⟨_, rfl⟩
          rw [← hv] at hbo hne
          refine called_at (.t [.v (.int .i64 v), .v (.int .i64 0)]) rfl (fun w' hh => by rw [← hbo.1, ← hbo.2]; exact between_any (mdL x) A1 cap1 s.f (s.f + nW m) w' (ro_of_row hh (id := 29) rfl) (by omega)) ?_
          repeat' ((conv => whnf); first
            | refine walk (Tryd.ok ..) ?_
            | refine walk (COk.with_ (Tryd.ok ..) _ _) ?_
            | refine walk (COk.with_ (COk.with_ (Tryd.ok ..) _ _) _ _) ?_
            | (refine Cnd.mk (fun h => ?_) (fun h => ?_) <;> (first | (exfalso; simp only [decide_eq_true_eq, decide_eq_false_iff_not, Bool.not_eq_true', Bool.not_eq_false'] at h; omega) | (exfalso; simp at h; omega) | simp at h | skip))
            | refine And.intro (Kept.mk ?_) ?_
            | refine Two.mk (And.intro ?_ ?_)
            | exact trivial
            | refine side ?_
            | refine sideL ?_
            | refine Or.inr ?_
            | refine sat_drawH (Tryd.ok ..) (by kernel_rfl) ?_
            | refine sat_drawH (COk.with_ (Tryd.ok ..) _ _) (by kernel_rfl) ?_
            | refine sat_drawH (COk.with_ (COk.with_ (Tryd.ok ..) _ _) _ _) (by kernel_rfl) ?_
            | refine Exists.intro [_] (And.intro (one_byte rfl) ?_)
            | refine Exists.intro [_] (And.intro (fun _ => one_byte rfl) ?_)
            | refine Exists.intro _ (And.intro (And.intro rfl rfl) ?_)
            | refine Exists.intro _ (And.intro (fun _ => And.intro rfl rfl) ?_)
            | refine Exists.intro _ (And.intro rfl ?_))
          refine ⟨k + 1, ⟨by omega, by omega⟩, ?_, ?_, rfl⟩
          all_goals ((repeat' (first | exact trivial | exact rfl | refine And.intro ?_ ?_)) <;> (try (conv => whnf)) <;> (try simp only [SV.real, SV.r2, SV.r1]))
        · refine ⟨k + 1, ⟨by omega, by omega⟩, ?_, ?_, rfl⟩
          all_goals ((repeat' (first | exact trivial | exact rfl | refine And.intro ?_ ?_)) <;> (try (conv => whnf)) <;> (try simp only [SV.real, SV.r2, SV.r1]))
      · obtain rfl : k = 1 + (mdL x).length := by omega
        repeat' ((conv => whnf); first
          | refine walk (Tryd.ok ..) ?_
          | refine walk (COk.with_ (Tryd.ok ..) _ _) ?_
          | refine walk (COk.with_ (COk.with_ (Tryd.ok ..) _ _) _ _) ?_
          | (refine Cnd.mk (fun h => ?_) (fun h => ?_) <;> (first | (exfalso; simp only [decide_eq_true_eq, decide_eq_false_iff_not, Bool.not_eq_true', Bool.not_eq_false'] at h; omega) | (exfalso; simp at h; omega) | simp at h | skip))
          | refine And.intro (Kept.mk ?_) ?_
          | refine Two.mk (And.intro ?_ ?_)
          | exact trivial
          | refine side ?_
          | refine sideL ?_
          | refine Or.inr ?_
          | refine sat_drawH (Tryd.ok ..) (by kernel_rfl) ?_
          | refine sat_drawH (COk.with_ (Tryd.ok ..) _ _) (by kernel_rfl) ?_
          | refine sat_drawH (COk.with_ (COk.with_ (Tryd.ok ..) _ _) _ _) (by kernel_rfl) ?_
          | refine Exists.intro [_] (And.intro (one_byte rfl) ?_)
          | refine Exists.intro [_] (And.intro (fun _ => one_byte rfl) ?_)
          | refine Exists.intro _ (And.intro (And.intro rfl rfl) ?_)
          | refine Exists.intro _ (And.intro (fun _ => And.intro rfl rfl) ?_)
          | refine Exists.intro _ (And.intro rfl ?_))
        refine done_pure rfl rfl (congrArg Value.bool ?_)
        simp
        omega
end Go.Proofs.YtodecgpjidlldaaDoor
