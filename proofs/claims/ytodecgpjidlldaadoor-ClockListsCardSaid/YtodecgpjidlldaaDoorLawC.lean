/-
  The laws of the clock: more work ends later, and so does work that is ready later.
-/
import Derived.Test.YtodecgpjidlldaaDoorAw
import Derived.Test.YtodecgpjidlldaaDoorL3
import Derived.Test.YtodecgpjidlldaaDoorCPlain9
namespace Go.Proofs.YtodecgpjidlldaaDoor
open Go Sat Go.RowKit Go.PlainAid
set_option linter.unusedSimpArgs false
set_option linter.unusedVariables false
theorem wk_md {x : List Int} (hx : U8 x) {a m : Int} (ha : 0 ≤ a ∧ a ≤ 100000000) (hm : 1 ≤ m ∧ m ≤ 100000000) : wkOk (mdL x) a m = true := by
  unfold wkOk timedB
  rw [md_apart hx, decide_eq_true ha.1, decide_eq_true ha.2, decide_eq_true hm.1, decide_eq_true hm.2]
  rfl
theorem fn_is {x : List Int} (hx : U8 x) {a m : Int} (ha : 0 ≤ a ∧ a ≤ 100000000) (hm : 1 ≤ m ∧ m ≤ 100000000) : (finL (mdL x) a m = none ∧ fnV (mdL x) a m = 0 ∧ fnE (mdL x) a m = 6) ∨ ∃ e, finL (mdL x) a m = some e ∧ fnV (mdL x) a m = e ∧ fnE (mdL x) a m = 0 := by
  have hk := wk_md hx ha hm
  cases h : finL (mdL x) a m with
  | none => exact .inl ⟨rfl, (fn_none hk h).1.symm, (fn_none hk h).2.symm⟩
  | some e => exact .inr ⟨e, rfl, (fn_some hk h).1.symm, (fn_some hk h).2.symm⟩
theorem ft_is {x : List Int} (hx : U8 x) {a m : Int} (ha : 0 ≤ a ∧ a ≤ 100000000) (hm : 1 ≤ m ∧ m ≤ 100000000) : (fitL (mdL x) a m = none ∧ ftV (mdL x) a m = 0 ∧ ftE (mdL x) a m = 6) ∨ ∃ e, fitL (mdL x) a m = some e ∧ ftV (mdL x) a m = e ∧ ftE (mdL x) a m = 0 := by
  have hk := wk_md hx ha hm
  cases h : fitL (mdL x) a m with
  | none => exact .inl ⟨rfl, (ft_none hk h).1.symm, (ft_none hk h).2.symm⟩
  | some e => exact .inr ⟨e, rfl, (ft_some hk h).1.symm, (ft_some hk h).2.symm⟩
theorem later_fin {x : List Int} (hx : U8 x) {a b n k : Int} (h0 : 0 ≤ a) (hab : a ≤ b) (hb : b ≤ 32767) (hn : 1 ≤ n ∧ n ≤ 500) (hk : 1 ≤ k ∧ k ≤ 500) :
    (fnE (mdL x) a (n + k) = 0 → fnE (mdL x) a n = 0 ∧ fnV (mdL x) a n < fnV (mdL x) a (n + k)) ∧ (fnE (mdL x) b n = 0 → fnE (mdL x) a n = 0 ∧ fnV (mdL x) a n ≤ fnV (mdL x) b n) ∧
    (fnE (mdL x) a n = 0 → fnV (mdL x) (fnV (mdL x) a n) k = fnV (mdL x) a (n + k) ∧ fnE (mdL x) (fnV (mdL x) a n) k = fnE (mdL x) a (n + k)) := by
  have hok := md_ok hx
  refine ⟨fun h => ?_, fun h => ?_, fun h => ?_⟩
  · rcases fn_is hx (a := a) (m := n + k) (by omega) (by omega) with ⟨_, _, h3⟩ | ⟨e, h1, h2, h3⟩
    · omega
    · obtain ⟨y, h4, h5⟩ := later1 hok hn.1 hk.1 h1
      rcases fn_is hx (a := a) (m := n) (by omega) (by omega) with ⟨g1, _, _⟩ | ⟨e', g1, g2, g3⟩
      · rw [g1] at h4; cases h4
      · rw [g1] at h4; cases h4
        omega
  · rcases fn_is hx (a := b) (m := n) (by omega) (by omega) with ⟨_, _, h3⟩ | ⟨e, h1, h2, h3⟩
    · omega
    · obtain ⟨y, h4, h5⟩ := later2 hok hn.1 hab h1
      rcases fn_is hx (a := a) (m := n) (by omega) (by omega) with ⟨g1, _, _⟩ | ⟨e', g1, g2, g3⟩
      · rw [g1] at h4; cases h4
      · rw [g1] at h4; cases h4
        omega
  · rcases fn_is hx (a := a) (m := n) (by omega) (by omega) with ⟨_, _, h3⟩ | ⟨e, h1, h2, h3⟩
    · omega
    · obtain ⟨f1, f2, f3, f4, _⟩ := fin_facts hok hn.1 h1
      have h4 := later3 hok hn.1 hk.1 h1
      rw [h2]
      rcases fn_is hx (a := e) (m := k) (by omega) (by omega) with ⟨g1, g2, g3⟩ | ⟨e', g1, g2, g3⟩ <;>
        rcases fn_is hx (a := a) (m := n + k) (by omega) (by omega) with ⟨k1, k2, k3⟩ | ⟨e'', k1, k2, k3⟩
      · omega
      · rw [g1, k1] at h4; cases h4
      · rw [g1, k1] at h4; cases h4
      · rw [g1, k1] at h4
        cases h4
        omega
theorem later_fit {x : List Int} (hx : U8 x) {a b n k : Int} (h0 : 0 ≤ a) (hab : a ≤ b) (hb : b ≤ 32767) (hn : 1 ≤ n ∧ n ≤ 500) (hk : 1 ≤ k ∧ k ≤ 500) :
    (ftE (mdL x) a (n + k) = 0 → ftE (mdL x) a n = 0 ∧ ftV (mdL x) a n ≤ ftV (mdL x) a (n + k)) ∧ (ftE (mdL x) b n = 0 → ftE (mdL x) a n = 0 ∧ ftV (mdL x) a n ≤ ftV (mdL x) b n) := by
  have hok := md_ok hx
  refine ⟨fun h => ?_, fun h => ?_⟩
  · rcases ft_is hx (a := a) (m := n + k) (by omega) (by omega) with ⟨_, _, h3⟩ | ⟨e, h1, h2, h3⟩
    · omega
    · obtain ⟨y, h4, h5⟩ := fit1 hok hn.1 (by omega) h1
      rcases ft_is hx (a := a) (m := n) (by omega) (by omega) with ⟨g1, _, _⟩ | ⟨e', g1, g2, g3⟩
      · rw [g1] at h4; cases h4
      · rw [g1] at h4; cases h4
        omega
  · rcases ft_is hx (a := b) (m := n) (by omega) (by omega) with ⟨_, _, h3⟩ | ⟨e, h1, h2, h3⟩
    · omega
    · obtain ⟨y, h4, h5⟩ := fit2 hok hn.1 hab h1
      rcases ft_is hx (a := a) (m := n) (by omega) (by omega) with ⟨g1, _, _⟩ | ⟨e', g1, g2, g3⟩
      · rw [g1] at h4; cases h4
      · rw [g1] at h4; cases h4
        omega
/-- a fact that is kept out of sight -/
structure Hid (p : Prop) : Prop where
  out : p
def atL (r l : Int) : Int := IntKind.i64.wrap (min r l / 2 ^ Int.toNat 1)
def thL (r l : Int) : Int := IntKind.i64.wrap (max r l / 2 ^ Int.toNat 1)
theorem half_is {x : Int} (h : 0 ≤ x ∧ x ≤ 65535) : IntKind.i64.wrap (x / 2 ^ Int.toNat 1) = x / 2 := by
  rw [show (2 : Int) ^ Int.toNat 1 = 2 from rfl]
  exact wrap_in (by simp only [InR]; omega)
def nOf (n : Int) : Int := 1 + n % 500
set_option maxRecDepth 100000 in
set_option maxHeartbeats 16000000 in
theorem clockLater_any (hS : SpansAny) (x : List Int) (A : Option (Nat × Nat)) (cap : Nat) (r l o m : Int) (w : World) (hA : Ro w A x.length 1 (u8s x)) (hx : U8 x) (hl : x.length ≤ 9223372036854775800)
    (hr : 0 ≤ r ∧ r ≤ 65535) (hll : 0 ≤ l ∧ l ≤ 65535) (ho : 0 ≤ o ∧ o ≤ 65535) (hm : 0 ≤ m ∧ m ≤ 65535) (hw : Wf w) :
    Calls Tryd.prog 6 #[.slice (adr A) x.length cap, .int .u16 r, .int .u16 l, .int .u16 o, .int .u16 m] w fun e w' => e = .returned (.bool true) ∧ Below w.heap.size w w' := by
  refine calls_sat (cx := Tryd.cx 160 [] [] [] w) (Tryd.ok ..) Tryd.func6 rfl [.o 300 A x.length cap, .v (.int .u16 r), .v (.int .u16 l), .v (.int .u16 o), .v (.int .u16 m)] rfl (by show 5 ≤ 160; omega) [(300, .ro A x.length 1 (u8s x))] (holds_ros rfl rfl ⟨hA, trivial⟩) ?_
  have b1 : 0 ≤ atL r l ∧ atL r l ≤ thL r l ∧ thL r l ≤ 32767 := by
    unfold atL thL
    rw [half_is (by omega), half_is (by omega)]
    omega
  have b2 : 1 ≤ nOf o ∧ nOf o ≤ 500 := by unfold nOf; omega
  have b3 : 1 ≤ nOf m ∧ nOf m ≤ 500 := by unfold nOf; omega
  have hq1 := Hid.mk (later_fin hx b1.1 b1.2.1 b1.2.2 b2 b3)
  have hq2 := Hid.mk (later_fit hx b1.1 b1.2.1 b1.2.2 b2 b3)
  have hml := mdL_len x
  have hmn := mdN_le x
  repeat' ((conv => whnf); first
    | refine walk (Tryd.ok ..) ?_
    | refine walk (COk.with_ (Tryd.ok ..) _ _) ?_
    | refine walk (COk.with_ (COk.with_ (Tryd.ok ..) _ _) _ _) ?_
    | (refine Cnd.mk (fun h => ?_) (fun h => ?_) <;> (first | (exfalso; simp only [decide_eq_true_eq, decide_eq_false_iff_not, Bool.not_eq_true', Bool.not_eq_false'] at h; omega) | (exfalso; simp at h; omega) | simp at h | skip))
    | refine And.intro (Kept.mk ?_) ?_
    | refine Two.mk (And.intro ?_ ?_)
    | exact trivial
    | refine side ?_
    | refine sideL ?_
    | refine Or.inr ?_
    | refine sat_drawH (Tryd.ok ..) (by kernel_rfl) ?_
    | refine sat_drawH (COk.with_ (Tryd.ok ..) _ _) (by kernel_rfl) ?_
    | refine sat_drawH (COk.with_ (COk.with_ (Tryd.ok ..) _ _) _ _) (by kernel_rfl) ?_
    | refine Exists.intro [_] (And.intro (one_byte rfl) ?_)
    | refine Exists.intro [_] (And.intro (fun _ => one_byte rfl) ?_)
    | refine Exists.intro _ (And.intro (And.intro rfl rfl) ?_)
    | refine Exists.intro _ (And.intro (fun _ => And.intro rfl rfl) ?_)
    | refine Exists.intro _ (And.intro rfl ?_))
  refine called_at (.v (.bool true)) rfl (fun w' hh => awake_any hS w' (hw.at_ rfl rfl hh)) ?_
  repeat' ((conv => whnf); first
    | refine walk (Tryd.ok ..) ?_
    | refine walk (COk.with_ (Tryd.ok ..) _ _) ?_
    | refine walk (COk.with_ (COk.with_ (Tryd.ok ..) _ _) _ _) ?_
    | (refine Cnd.mk (fun h => ?_) (fun h => ?_) <;> (first | (exfalso; simp only [decide_eq_true_eq, decide_eq_false_iff_not, Bool.not_eq_true', Bool.not_eq_false'] at h; omega) | (exfalso; simp at h; omega) | simp at h | skip))
    | refine And.intro (Kept.mk ?_) ?_
    | refine Two.mk (And.intro ?_ ?_)
    | exact trivial
    | refine side ?_
    | refine sideL ?_
    | refine Or.inr ?_
    | refine sat_drawH (Tryd.ok ..) (by kernel_rfl) ?_
    | refine sat_drawH (COk.with_ (Tryd.ok ..) _ _) (by kernel_rfl) ?_
    | refine sat_drawH (COk.with_ (COk.with_ (Tryd.ok ..) _ _) _ _) (by kernel_rfl) ?_
    | refine Exists.intro [_] (And.intro (one_byte rfl) ?_)
    | refine Exists.intro [_] (And.intro (fun _ => one_byte rfl) ?_)
    | refine Exists.intro _ (And.intro (And.intro rfl rfl) ?_)
    | refine Exists.intro _ (And.intro (fun _ => And.intro rfl rfl) ?_)
    | refine Exists.intro _ (And.intro rfl ?_))
  refine called_row 30 (xs := sps (mdL x)) (fun v => v) (fun A cap => .o 30 A (mdL x).length cap) (fun A cap => rfl) (fun w' hh => made_any x A cap w' (ro_of_ro hh (id := 300) rfl) hx hl) ?_
  intro A1 cap1
  repeat' ((conv => whnf); first
    | refine walk (Tryd.ok ..) ?_
    | refine walk (COk.with_ (Tryd.ok ..) _ _) ?_
    | refine walk (COk.with_ (COk.with_ (Tryd.ok ..) _ _) _ _) ?_
    | (refine Cnd.mk (fun h => ?_) (fun h => ?_) <;> (first | (exfalso; simp only [decide_eq_true_eq, decide_eq_false_iff_not, Bool.not_eq_true', Bool.not_eq_false'] at h; omega) | (exfalso; simp at h; omega) | simp at h | skip))
    | refine And.intro (Kept.mk ?_) ?_
    | refine Two.mk (And.intro ?_ ?_)
    | exact trivial
    | refine side ?_
    | refine sideL ?_
    | refine Or.inr ?_
    | refine sat_drawH (Tryd.ok ..) (by kernel_rfl) ?_
    | refine sat_drawH (COk.with_ (Tryd.ok ..) _ _) (by kernel_rfl) ?_
    | refine sat_drawH (COk.with_ (COk.with_ (Tryd.ok ..) _ _) _ _) (by kernel_rfl) ?_
    | refine Exists.intro [_] (And.intro (one_byte rfl) ?_)
    | refine Exists.intro [_] (And.intro (fun _ => one_byte rfl) ?_)
    | refine Exists.intro _ (And.intro (And.intro rfl rfl) ?_)
    | refine Exists.intro _ (And.intro (fun _ => And.intro rfl rfl) ?_)
    | refine Exists.intro _ (And.intro rfl ?_))
  obtain ⟨a, ha⟩ : ∃ v, v = fnV (mdL x) (atL r l) (nOf o) := ⟨_, rfl⟩
  obtain ⟨e, he⟩ : ∃ v, v = fnE (mdL x) (atL r l) (nOf o) := ⟨_, rfl⟩
  obtain ⟨b, hb⟩ : ∃ v, v = fnV (mdL x) (atL r l) (nOf o + nOf m) := ⟨_, rfl⟩
  obtain ⟨f, hf⟩ : ∃ v, v = fnE (mdL x) (atL r l) (nOf o + nOf m) := ⟨_, rfl⟩
  obtain ⟨c, hc⟩ : ∃ v, v = fnV (mdL x) (thL r l) (nOf o) := ⟨_, rfl⟩
  obtain ⟨g, hg⟩ : ∃ v, v = fnE (mdL x) (thL r l) (nOf o) := ⟨_, rfl⟩
  rw [← ha, ← he, ← hb, ← hf, ← hc, ← hg] at hq1
  refine called_at (.t [.v (.int .i64 a), .v (.int .i64 e)]) rfl (fun w' hh => by rw [ha, he]; exact finish_any (mdL x) A1 cap1 (atL r l) (nOf o) w' (ro_of_row hh (id := 30) rfl) (by omega)) ?_
  repeat' ((conv => whnf); first
    | refine walk (Tryd.ok ..) ?_
    | refine walk (COk.with_ (Tryd.ok ..) _ _) ?_
    | refine walk (COk.with_ (COk.with_ (Tryd.ok ..) _ _) _ _) ?_
    | (refine Cnd.mk (fun h => ?_) (fun h => ?_) <;> (first | (exfalso; simp only [decide_eq_true_eq, decide_eq_false_iff_not, Bool.not_eq_true', Bool.not_eq_false'] at h; omega) | (exfalso; simp at h; omega) | simp at h | skip))
    | refine And.intro (Kept.mk ?_) ?_
    | refine Two.mk (And.intro ?_ ?_)
    | exact trivial
    | refine side ?_
    | refine sideL ?_
    | refine Or.inr ?_
    | refine sat_drawH (Tryd.ok ..) (by kernel_rfl) ?_
    | refine sat_drawH (COk.with_ (Tryd.ok ..) _ _) (by kernel_rfl) ?_
    | refine sat_drawH (COk.with_ (COk.with_ (Tryd.ok ..) _ _) _ _) (by kernel_rfl) ?_
    | refine Exists.intro [_] (And.intro (one_byte rfl) ?_)
    | refine Exists.intro [_] (And.intro (fun _ => one_byte rfl) ?_)
    | refine Exists.intro _ (And.intro (And.intro rfl rfl) ?_)
    | refine Exists.intro _ (And.intro (fun _ => And.intro rfl rfl) ?_)
    | refine Exists.intro _ (And.intro rfl ?_))
  refine called_at (.t [.v (.int .i64 b), .v (.int .i64 f)]) rfl (fun w' hh => by rw [hb, hf]; exact finish_any (mdL x) A1 cap1 (atL r l) (nOf o + nOf m) w' (ro_of_row hh (id := 30) rfl) (by omega)) ?_
  repeat' ((conv => whnf); first
    | refine walk (Tryd.ok ..) ?_
    | refine walk (COk.with_ (Tryd.ok ..) _ _) ?_
    | refine walk (COk.with_ (COk.with_ (Tryd.ok ..) _ _) _ _) ?_
    | (refine Cnd.mk (fun h => ?_) (fun h => ?_) <;> (first | (exfalso; simp only [decide_eq_true_eq, decide_eq_false_iff_not, Bool.not_eq_true', Bool.not_eq_false'] at h; omega) | (exfalso; simp at h; omega) | simp at h | skip))
    | refine And.intro (Kept.mk ?_) ?_
    | refine Two.mk (And.intro ?_ ?_)
    | exact trivial
    | refine side ?_
    | refine sideL ?_
    | refine Or.inr ?_
    | refine sat_drawH (Tryd.ok ..) (by kernel_rfl) ?_
    | refine sat_drawH (COk.with_ (Tryd.ok ..) _ _) (by kernel_rfl) ?_
    | refine sat_drawH (COk.with_ (COk.with_ (Tryd.ok ..) _ _) _ _) (by kernel_rfl) ?_
    | refine Exists.intro [_] (And.intro (one_byte rfl) ?_)
    | refine Exists.intro [_] (And.intro (fun _ => one_byte rfl) ?_)
    | refine Exists.intro _ (And.intro (And.intro rfl rfl) ?_)
    | refine Exists.intro _ (And.intro (fun _ => And.intro rfl rfl) ?_)
    | refine Exists.intro _ (And.intro rfl ?_))
  refine called_at (.t [.v (.int .i64 c), .v (.int .i64 g)]) rfl (fun w' hh => by rw [hc, hg]; exact finish_any (mdL x) A1 cap1 (thL r l) (nOf o) w' (ro_of_row hh (id := 30) rfl) (by omega)) ?_
  repeat' ((conv => whnf); first
    | refine walk (Tryd.ok ..) ?_
    | refine walk (COk.with_ (Tryd.ok ..) _ _) ?_
    | refine walk (COk.with_ (COk.with_ (Tryd.ok ..) _ _) _ _) ?_
    | (refine Cnd.mk (fun h => ?_) (fun h => ?_) <;> (first | (exfalso; simp only [decide_eq_true_eq, decide_eq_false_iff_not, Bool.not_eq_true', Bool.not_eq_false'] at h; omega) | (exfalso; simp at h; omega) | simp at h | skip))
    | refine And.intro (Kept.mk ?_) ?_
    | refine Two.mk (And.intro ?_ ?_)
    | exact trivial
    | refine side ?_
    | refine sideL ?_
    | refine Or.inr ?_
    | refine sat_drawH (Tryd.ok ..) (by kernel_rfl) ?_
    | refine sat_drawH (COk.with_ (Tryd.ok ..) _ _) (by kernel_rfl) ?_
    | refine sat_drawH (COk.with_ (COk.with_ (Tryd.ok ..) _ _) _ _) (by kernel_rfl) ?_
    | refine Exists.intro [_] (And.intro (one_byte rfl) ?_)
    | refine Exists.intro [_] (And.intro (fun _ => one_byte rfl) ?_)
    | refine Exists.intro _ (And.intro (And.intro rfl rfl) ?_)
    | refine Exists.intro _ (And.intro (fun _ => And.intro rfl rfl) ?_)
    | refine Exists.intro _ (And.intro rfl ?_))
  · obtain ⟨⟨q1, q2, q3⟩⟩ := hq1
    exfalso
    omega
  · have he0 := h
    obtain ⟨⟨q1, q2, q3⟩⟩ := hq1
    obtain ⟨r1, r2⟩ := q3 he0
    clear q1 q2 q3
    repeat' ((conv => whnf); first
      | refine walk (Tryd.ok ..) ?_
      | refine walk (COk.with_ (Tryd.ok ..) _ _) ?_
      | refine walk (COk.with_ (COk.with_ (Tryd.ok ..) _ _) _ _) ?_
      | (refine Cnd.mk (fun h => ?_) (fun h => ?_) <;> (first | (exfalso; simp only [decide_eq_true_eq, decide_eq_false_iff_not, Bool.not_eq_true', Bool.not_eq_false'] at h; omega) | (exfalso; simp at h; omega) | simp at h | skip))
      | refine And.intro (Kept.mk ?_) ?_
      | refine Two.mk (And.intro ?_ ?_)
      | exact trivial
      | refine side ?_
      | refine sideL ?_
      | refine Or.inr ?_
      | refine sat_drawH (Tryd.ok ..) (by kernel_rfl) ?_
      | refine sat_drawH (COk.with_ (Tryd.ok ..) _ _) (by kernel_rfl) ?_
      | refine sat_drawH (COk.with_ (COk.with_ (Tryd.ok ..) _ _) _ _) (by kernel_rfl) ?_
      | refine Exists.intro [_] (And.intro (one_byte rfl) ?_)
      | refine Exists.intro [_] (And.intro (fun _ => one_byte rfl) ?_)
      | refine Exists.intro _ (And.intro (And.intro rfl rfl) ?_)
      | refine Exists.intro _ (And.intro (fun _ => And.intro rfl rfl) ?_)
      | refine Exists.intro _ (And.intro rfl ?_))
    refine called_at (.t [.v (.int .i64 b), .v (.int .i64 f)]) rfl (fun w' hh => by rw [← r1, ← r2]; exact finish_any (mdL x) A1 cap1 a (nOf m) w' (ro_of_row hh (id := 30) rfl) (by omega)) ?_
    clear r1 r2
    repeat' ((conv => whnf); first
      | refine walk (Tryd.ok ..) ?_
      | refine walk (COk.with_ (Tryd.ok ..) _ _) ?_
      | refine walk (COk.with_ (COk.with_ (Tryd.ok ..) _ _) _ _) ?_
      | (refine Cnd.mk (fun h => ?_) (fun h => ?_) <;> (first | (exfalso; simp only [decide_eq_true_eq, decide_eq_false_iff_not, Bool.not_eq_true', Bool.not_eq_false'] at h; omega) | (exfalso; simp at h; omega) | simp at h | skip))
      | refine And.intro (Kept.mk ?_) ?_
      | refine Two.mk (And.intro ?_ ?_)
      | exact trivial
      | refine side ?_
      | refine sideL ?_
      | refine Or.inr ?_
      | refine sat_drawH (Tryd.ok ..) (by kernel_rfl) ?_
      | refine sat_drawH (COk.with_ (Tryd.ok ..) _ _) (by kernel_rfl) ?_
      | refine sat_drawH (COk.with_ (COk.with_ (Tryd.ok ..) _ _) _ _) (by kernel_rfl) ?_
      | refine Exists.intro [_] (And.intro (one_byte rfl) ?_)
      | refine Exists.intro [_] (And.intro (fun _ => one_byte rfl) ?_)
      | refine Exists.intro _ (And.intro (And.intro rfl rfl) ?_)
      | refine Exists.intro _ (And.intro (fun _ => And.intro rfl rfl) ?_)
      | refine Exists.intro _ (And.intro rfl ?_))
    obtain ⟨u, hu⟩ : ∃ v, v = ftV (mdL x) (atL r l) (nOf o) := ⟨_, rfl⟩
    obtain ⟨eu, heu⟩ : ∃ v, v = ftE (mdL x) (atL r l) (nOf o) := ⟨_, rfl⟩
    obtain ⟨y, hy⟩ : ∃ v, v = ftV (mdL x) (atL r l) (nOf o + nOf m) := ⟨_, rfl⟩
    obtain ⟨ey, hey⟩ : ∃ v, v = ftE (mdL x) (atL r l) (nOf o + nOf m) := ⟨_, rfl⟩
    obtain ⟨z, hz⟩ : ∃ v, v = ftV (mdL x) (thL r l) (nOf o) := ⟨_, rfl⟩
    obtain ⟨ez, hez⟩ : ∃ v, v = ftE (mdL x) (thL r l) (nOf o) := ⟨_, rfl⟩
    rw [← hu, ← heu, ← hy, ← hey, ← hz, ← hez] at hq2
    refine called_at (.t [.v (.int .i64 u), .v (.int .i64 eu)]) rfl (fun w' hh => by rw [hu, heu]; exact fit_any (mdL x) A1 cap1 (atL r l) (nOf o) w' (ro_of_row hh (id := 30) rfl) (by omega)) ?_
    repeat' ((conv => whnf); first
      | refine walk (Tryd.ok ..) ?_
      | refine walk (COk.with_ (Tryd.ok ..) _ _) ?_
      | refine walk (COk.with_ (COk.with_ (Tryd.ok ..) _ _) _ _) ?_
      | (refine Cnd.mk (fun h => ?_) (fun h => ?_) <;> (first | (exfalso; simp only [decide_eq_true_eq, decide_eq_false_iff_not, Bool.not_eq_true', Bool.not_eq_false'] at h; omega) | (exfalso; simp at h; omega) | simp at h | skip))
      | refine And.intro (Kept.mk ?_) ?_
      | refine Two.mk (And.intro ?_ ?_)
      | exact trivial
      | refine side ?_
      | refine sideL ?_
      | refine Or.inr ?_
      | refine sat_drawH (Tryd.ok ..) (by kernel_rfl) ?_
      | refine sat_drawH (COk.with_ (Tryd.ok ..) _ _) (by kernel_rfl) ?_
      | refine sat_drawH (COk.with_ (COk.with_ (Tryd.ok ..) _ _) _ _) (by kernel_rfl) ?_
      | refine Exists.intro [_] (And.intro (one_byte rfl) ?_)
      | refine Exists.intro [_] (And.intro (fun _ => one_byte rfl) ?_)
      | refine Exists.intro _ (And.intro (And.intro rfl rfl) ?_)
      | refine Exists.intro _ (And.intro (fun _ => And.intro rfl rfl) ?_)
      | refine Exists.intro _ (And.intro rfl ?_))
    refine called_at (.t [.v (.int .i64 y), .v (.int .i64 ey)]) rfl (fun w' hh => by rw [hy, hey]; exact fit_any (mdL x) A1 cap1 (atL r l) (nOf o + nOf m) w' (ro_of_row hh (id := 30) rfl) (by omega)) ?_
    repeat' ((conv => whnf); first
      | refine walk (Tryd.ok ..) ?_
      | refine walk (COk.with_ (Tryd.ok ..) _ _) ?_
      | refine walk (COk.with_ (COk.with_ (Tryd.ok ..) _ _) _ _) ?_
      | (refine Cnd.mk (fun h => ?_) (fun h => ?_) <;> (first | (exfalso; simp only [decide_eq_true_eq, decide_eq_false_iff_not, Bool.not_eq_true', Bool.not_eq_false'] at h; omega) | (exfalso; simp at h; omega) | simp at h | skip))
      | refine And.intro (Kept.mk ?_) ?_
      | refine Two.mk (And.intro ?_ ?_)
      | exact trivial
      | refine side ?_
      | refine sideL ?_
      | refine Or.inr ?_
      | refine sat_drawH (Tryd.ok ..) (by kernel_rfl) ?_
      | refine sat_drawH (COk.with_ (Tryd.ok ..) _ _) (by kernel_rfl) ?_
      | refine sat_drawH (COk.with_ (COk.with_ (Tryd.ok ..) _ _) _ _) (by kernel_rfl) ?_
      | refine Exists.intro [_] (And.intro (one_byte rfl) ?_)
      | refine Exists.intro [_] (And.intro (fun _ => one_byte rfl) ?_)
      | refine Exists.intro _ (And.intro (And.intro rfl rfl) ?_)
      | refine Exists.intro _ (And.intro (fun _ => And.intro rfl rfl) ?_)
      | refine Exists.intro _ (And.intro rfl ?_))
    refine called_at (.t [.v (.int .i64 z), .v (.int .i64 ez)]) rfl (fun w' hh => by rw [hz, hez]; exact fit_any (mdL x) A1 cap1 (thL r l) (nOf o) w' (ro_of_row hh (id := 30) rfl) (by omega)) ?_
    repeat' ((conv => whnf); first
      | refine walk (Tryd.ok ..) ?_
      | refine walk (COk.with_ (Tryd.ok ..) _ _) ?_
      | refine walk (COk.with_ (COk.with_ (Tryd.ok ..) _ _) _ _) ?_
      | (refine Cnd.mk (fun h => ?_) (fun h => ?_) <;> (first | (exfalso; simp only [decide_eq_true_eq, decide_eq_false_iff_not, Bool.not_eq_true', Bool.not_eq_false'] at h; omega) | (exfalso; simp at h; omega) | simp at h | skip))
      | refine And.intro (Kept.mk ?_) ?_
      | refine Two.mk (And.intro ?_ ?_)
      | exact trivial
      | refine side ?_
      | refine sideL ?_
      | refine Or.inr ?_
      | refine sat_drawH (Tryd.ok ..) (by kernel_rfl) ?_
      | refine sat_drawH (COk.with_ (Tryd.ok ..) _ _) (by kernel_rfl) ?_
      | refine sat_drawH (COk.with_ (COk.with_ (Tryd.ok ..) _ _) _ _) (by kernel_rfl) ?_
      | refine Exists.intro [_] (And.intro (one_byte rfl) ?_)
      | refine Exists.intro [_] (And.intro (fun _ => one_byte rfl) ?_)
      | refine Exists.intro _ (And.intro (And.intro rfl rfl) ?_)
      | refine Exists.intro _ (And.intro (fun _ => And.intro rfl rfl) ?_)
      | refine Exists.intro _ (And.intro rfl ?_))
    obtain ⟨⟨q4, q5⟩⟩ := hq2
    refine done_pure rfl rfl (congrArg Value.bool ?_)
    simp
    omega
  · clear hq1
    repeat' ((conv => whnf); first
      | refine walk (Tryd.ok ..) ?_
      | refine walk (COk.with_ (Tryd.ok ..) _ _) ?_
      | refine walk (COk.with_ (COk.with_ (Tryd.ok ..) _ _) _ _) ?_
      | (refine Cnd.mk (fun h => ?_) (fun h => ?_) <;> (first | (exfalso; simp only [decide_eq_true_eq, decide_eq_false_iff_not, Bool.not_eq_true', Bool.not_eq_false'] at h; omega) | (exfalso; simp at h; omega) | simp at h | skip))
      | refine And.intro (Kept.mk ?_) ?_
      | refine Two.mk (And.intro ?_ ?_)
      | exact trivial
      | refine side ?_
      | refine sideL ?_
      | refine Or.inr ?_
      | refine sat_drawH (Tryd.ok ..) (by kernel_rfl) ?_
      | refine sat_drawH (COk.with_ (Tryd.ok ..) _ _) (by kernel_rfl) ?_
      | refine sat_drawH (COk.with_ (COk.with_ (Tryd.ok ..) _ _) _ _) (by kernel_rfl) ?_
      | refine Exists.intro [_] (And.intro (one_byte rfl) ?_)
      | refine Exists.intro [_] (And.intro (fun _ => one_byte rfl) ?_)
      | refine Exists.intro _ (And.intro (And.intro rfl rfl) ?_)
      | refine Exists.intro _ (And.intro (fun _ => And.intro rfl rfl) ?_)
      | refine Exists.intro _ (And.intro rfl ?_))
    obtain ⟨u, hu⟩ : ∃ v, v = ftV (mdL x) (atL r l) (nOf o) := ⟨_, rfl⟩
    obtain ⟨eu, heu⟩ : ∃ v, v = ftE (mdL x) (atL r l) (nOf o) := ⟨_, rfl⟩
    obtain ⟨y, hy⟩ : ∃ v, v = ftV (mdL x) (atL r l) (nOf o + nOf m) := ⟨_, rfl⟩
    obtain ⟨ey, hey⟩ : ∃ v, v = ftE (mdL x) (atL r l) (nOf o + nOf m) := ⟨_, rfl⟩
    obtain ⟨z, hz⟩ : ∃ v, v = ftV (mdL x) (thL r l) (nOf o) := ⟨_, rfl⟩
    obtain ⟨ez, hez⟩ : ∃ v, v = ftE (mdL x) (thL r l) (nOf o) := ⟨_, rfl⟩
    rw [← hu, ← heu, ← hy, ← hey, ← hz, ← hez] at hq2
    refine called_at (.t [.v (.int .i64 u), .v (.int .i64 eu)]) rfl (fun w' hh => by rw [hu, heu]; exact fit_any (mdL x) A1 cap1 (atL r l) (nOf o) w' (ro_of_row hh (id := 30) rfl) (by omega)) ?_
    repeat' ((conv => whnf); first
      | refine walk (Tryd.ok ..) ?_
      | refine walk (COk.with_ (Tryd.ok ..) _ _) ?_
      | refine walk (COk.with_ (COk.with_ (Tryd.ok ..) _ _) _ _) ?_
      | (refine Cnd.mk (fun h => ?_) (fun h => ?_) <;> (first | (exfalso; simp only [decide_eq_true_eq, decide_eq_false_iff_not, Bool.not_eq_true', Bool.not_eq_false'] at h; omega) | (exfalso; simp at h; omega) | simp at h | skip))
      | refine And.intro (Kept.mk ?_) ?_
      | refine Two.mk (And.intro ?_ ?_)
      | exact trivial
      | refine side ?_
      | refine sideL ?_
      | refine Or.inr ?_
      | refine sat_drawH (Tryd.ok ..) (by kernel_rfl) ?_
      | refine sat_drawH (COk.with_ (Tryd.ok ..) _ _) (by kernel_rfl) ?_
      | refine sat_drawH (COk.with_ (COk.with_ (Tryd.ok ..) _ _) _ _) (by kernel_rfl) ?_
      | refine Exists.intro [_] (And.intro (one_byte rfl) ?_)
      | refine Exists.intro [_] (And.intro (fun _ => one_byte rfl) ?_)
      | refine Exists.intro _ (And.intro (And.intro rfl rfl) ?_)
      | refine Exists.intro _ (And.intro (fun _ => And.intro rfl rfl) ?_)
      | refine Exists.intro _ (And.intro rfl ?_))
    refine called_at (.t [.v (.int .i64 y), .v (.int .i64 ey)]) rfl (fun w' hh => by rw [hy, hey]; exact fit_any (mdL x) A1 cap1 (atL r l) (nOf o + nOf m) w' (ro_of_row hh (id := 30) rfl) (by omega)) ?_
    repeat' ((conv => whnf); first
      | refine walk (Tryd.ok ..) ?_
      | refine walk (COk.with_ (Tryd.ok ..) _ _) ?_
      | refine walk (COk.with_ (COk.with_ (Tryd.ok ..) _ _) _ _) ?_
      | (refine Cnd.mk (fun h => ?_) (fun h => ?_) <;> (first | (exfalso; simp only [decide_eq_true_eq, decide_eq_false_iff_not, Bool.not_eq_true', Bool.not_eq_false'] at h; omega) | (exfalso; simp at h; omega) | simp at h | skip))
      | refine And.intro (Kept.mk ?_) ?_
      | refine Two.mk (And.intro ?_ ?_)
      | exact trivial
      | refine side ?_
      | refine sideL ?_
      | refine Or.inr ?_
      | refine sat_drawH (Tryd.ok ..) (by kernel_rfl) ?_
      | refine sat_drawH (COk.with_ (Tryd.ok ..) _ _) (by kernel_rfl) ?_
      | refine sat_drawH (COk.with_ (COk.with_ (Tryd.ok ..) _ _) _ _) (by kernel_rfl) ?_
      | refine Exists.intro [_] (And.intro (one_byte rfl) ?_)
      | refine Exists.intro [_] (And.intro (fun _ => one_byte rfl) ?_)
      | refine Exists.intro _ (And.intro (And.intro rfl rfl) ?_)
      | refine Exists.intro _ (And.intro (fun _ => And.intro rfl rfl) ?_)
      | refine Exists.intro _ (And.intro rfl ?_))
    refine called_at (.t [.v (.int .i64 z), .v (.int .i64 ez)]) rfl (fun w' hh => by rw [hz, hez]; exact fit_any (mdL x) A1 cap1 (thL r l) (nOf o) w' (ro_of_row hh (id := 30) rfl) (by omega)) ?_
    repeat' ((conv => whnf); first
      | refine walk (Tryd.ok ..) ?_
      | refine walk (COk.with_ (Tryd.ok ..) _ _) ?_
      | refine walk (COk.with_ (COk.with_ (Tryd.ok ..) _ _) _ _) ?_
      | (refine Cnd.mk (fun h => ?_) (fun h => ?_) <;> (first | (exfalso; simp only [decide_eq_true_eq, decide_eq_false_iff_not, Bool.not_eq_true', Bool.not_eq_false'] at h; omega) | (exfalso; simp at h; omega) | simp at h | skip))
      | refine And.intro (Kept.mk ?_) ?_
      | refine Two.mk (And.intro ?_ ?_)
      | exact trivial
      | refine side ?_
      | refine sideL ?_
      | refine Or.inr ?_
      | refine sat_drawH (Tryd.ok ..) (by kernel_rfl) ?_
      | refine sat_drawH (COk.with_ (Tryd.ok ..) _ _) (by kernel_rfl) ?_
      | refine sat_drawH (COk.with_ (COk.with_ (Tryd.ok ..) _ _) _ _) (by kernel_rfl) ?_
      | refine Exists.intro [_] (And.intro (one_byte rfl) ?_)
      | refine Exists.intro [_] (And.intro (fun _ => one_byte rfl) ?_)
      | refine Exists.intro _ (And.intro (And.intro rfl rfl) ?_)
      | refine Exists.intro _ (And.intro (fun _ => And.intro rfl rfl) ?_)
      | refine Exists.intro _ (And.intro rfl ?_))
    obtain ⟨⟨q4, q5⟩⟩ := hq2
    refine done_pure rfl rfl (congrArg Value.bool ?_)
    simp
    omega
end Go.Proofs.YtodecgpjidlldaaDoor
