/-
  The laws of the clock: high waters come one after the other, and so do their windows.
-/
import Derived.Test.YtodecgpjidlldaaDoorLawC
import Derived.Test.YtodecgpjidlldaaDoorL4
import Derived.Test.YtodecgpjidlldaaDoorCPlain9
namespace Go.Proofs.YtodecgpjidlldaaDoor
open Go Sat Go.RowKit Go.PlainAid
set_option linter.unusedSimpArgs false
set_option linter.unusedVariables false
def tuT (f nn d b a : Int) : Td := ⟨f, (1 + d % 9) * 60 + nn, 1 + d % 9, b % 30, a % 30 + 1⟩
theorem div_up {p q d : Int} (hd : 0 < d) : (p + q) / d ≤ p / d + q / d + 1 := by
  have h1 := Int.lt_ediv_add_one_mul_self p hd
  have h2 := Int.lt_ediv_add_one_mul_self q hd
  have h3 : (p + q) / d < p / d + q / d + 2 := by
    refine Int.ediv_lt_of_lt_mul hd ?_
    rw [show p / d + q / d + 2 = (p / d + 1) + (q / d + 1) by omega, Int.add_mul]
    omega
  omega
theorem hiw_up {t : Td} (h : Tidy t) (k : Int) : hiw t (k + 1) ≤ hiw t k + t.num / t.den + 1 := by
  have hd := h.den
  unfold hiw
  rw [Int.add_mul, Int.one_mul]
  have := div_up (p := k * t.num) (q := t.num) (d := t.den) (by omega)
  omega
/-- what two windows tell -/
structure Two2 (W : List Sp) (a b be af : Int) : Prop where
  ap : apart W = true
  len : 2 ≤ W.length
  le : W.length ≤ 1000
  i1 : inB W a = true
  i2 : inB W b = true
  i3 : inB W (a + af - 1) = true
  i4 : inB W (a + af) = false
  i5 : inB W (b - be) = true
  i6 : inB W (b - be - 1) = false
theorem two_wins {t : Td} (hT : Tidy t) {k : Nat} {lo hi : Int} (hlo : lo = max (hiw t k - 30) 0) (hhi : hi = hiw t (k + 1 : Nat) + 31) (h30 : t.before ≤ 29 ∧ 1 ≤ t.after ∧ t.after ≤ 30) (hmax : hi ≤ 100000000) (hlen : hi - lo ≤ 1000) :
    Two2 (wnR t lo hi) (hiw t k) (hiw t (k + 1 : Nat)) t.before t.after := by
  have hf := hiw_le hT (show (0 : Int) ≤ (k : Int) by omega)
  rw [hiw_zero] at hf
  have h0 := hT.first
  have hb0 := hT.before
  have hah := hiw_ahead hT (j := k) (k := k + 1) (by omega)
  obtain ⟨a, ea⟩ : ∃ a, a = hiw t k := ⟨_, rfl⟩
  obtain ⟨b, eb⟩ : ∃ b, b = hiw t (k + 1 : Nat) := ⟨_, rfl⟩
  rw [← ea] at hlo hf hah ⊢
  rw [← eb] at hhi hah ⊢
  have hle : ∀ j : Nat, j < k + 1 → hiw t j ≤ a := fun j hj => by
    rw [ea]
    exact hiw_le hT (by omega)
  have hw : wnR t lo hi = runs (winP t) lo (hi - lo).toNat := by
    unfold wnR
    exact toldAt_end (by omega)
  obtain ⟨r1, r2, r3, r4⟩ := runs_facts (winP t) (x := lo) (by omega) (hi - lo).toNat (by omega)
  rw [← hw] at r1 r2 r3 r4
  have at_ : ∀ y, lo ≤ y → y < hi → inB (wnR t lo hi) y = winP t y := fun y h1 h2 => by
    rw [r3, decide_eq_true (by omega), Bool.true_and]
  have w1 : winP t a = true := winP_in (k := k) (by rw [← ea]; omega) (by rw [← ea]; omega)
  have w2 : winP t b = true := winP_in (k := k + 1) (by rw [← eb]; omega) (by rw [← eb]; omega)
  have w3 : winP t (a + t.after - 1) = true := winP_in (k := k) (by rw [← ea]; omega) (by rw [← ea]; omega)
  have w4 : winP t (a + t.after) = false := winP_out hT (k := k + 1) (by rw [← eb]; omega) (fun j hj => by have := hle j hj; omega)
  have w5 : winP t (b - t.before) = true := winP_in (k := k + 1) (by rw [← eb]; omega) (by rw [← eb]; omega)
  have w6 : winP t (b - t.before - 1) = false := winP_out hT (k := k + 1) (by rw [← eb]; omega) (fun j hj => by have := hle j hj; omega)
  have g1 := at_ a (by omega) (by omega)
  have g2 := at_ b (by omega) (by omega)
  have g4 := at_ (a + t.after) (by omega) (by omega)
  rw [w1] at g1
  rw [w2] at g2
  rw [w4] at g4
  refine ⟨?_, ?_, by omega, g1, g2, (at_ _ (by omega) (by omega)).trans w3, g4, (at_ _ (by omega) (by omega)).trans w5, (at_ _ (by omega) (by omega)).trans w6⟩
  · unfold apart
    rw [r1, decide_eq_true (show (wnR t lo hi).length ≤ 1000 by omega)]
    rfl
  · rcases Nat.lt_or_ge (wnR t lo hi).length 2 with c | c
    · exfalso
      obtain ⟨i, s, hs, p1, p2⟩ := inB_some.1 g1
      obtain ⟨j, u, hu, p3, p4⟩ := inB_some.1 g2
      have hi1 := (List.getElem?_eq_some_iff.1 hs).1
      have hj1 := (List.getElem?_eq_some_iff.1 hu).1
      obtain rfl : i = j := by omega
      rw [hs] at hu
      cases hu
      rw [inB_some.2 ⟨i, s, hs, by omega, by omega⟩] at g4
      cases g4
    · exact c
theorem tu_tidy {f nn d b a : Int} (hf : 0 ≤ f ∧ f ≤ 65535) (hn : 0 ≤ nn ∧ nn ≤ 255) (hd : 0 ≤ d) (hb : 0 ≤ b) (ha : 0 ≤ a) : tidalB (tuT f nn d b a) = true := by
  have h1 : 60 ≤ ((1 + d % 9) * 60 + nn) / (1 + d % 9) := by
    refine Int.le_ediv_of_mul_le (by omega) ?_
    rw [Int.mul_comm]
    omega
  unfold tidalB timedB tuT
  simp only [Bool.and_eq_true, decide_eq_true_eq]
  omega
set_option maxRecDepth 100000 in
set_option maxHeartbeats 16000000 in
theorem clockTurns_any (hS : SpansAny) (f nn d b a k : Int) (w : World) (hf : 0 ≤ f ∧ f ≤ 65535) (hn : 0 ≤ nn ∧ nn ≤ 255) (hd : 0 ≤ d ∧ d ≤ 255) (hb : 0 ≤ b ∧ b ≤ 255) (ha : 0 ≤ a ∧ a ≤ 255) (hk : 0 ≤ k ∧ k ≤ 65535) (hw : Wf w) :
    Calls Tryd.prog 5 #[.int .u16 f, .int .u8 nn, .int .u8 d, .int .u8 b, .int .u8 a, .int .u16 k] w fun e w' => e = .returned (.bool true) ∧ Below w.heap.size w w' := by
  refine calls_sat (cx := Tryd.cx 183 [] [] [] w) (Tryd.ok ..) Tryd.func5 rfl [.v (.int .u16 f), .v (.int .u8 nn), .v (.int .u8 d), .v (.int .u8 b), .v (.int .u8 a), .v (.int .u16 k)] rfl (by show 6 ≤ 183; omega) [] (holds_nil (Nat.le_refl _)) ?_
  obtain ⟨t, et⟩ : ∃ t, t = tuT f nn d b a := ⟨_, rfl⟩
  have tb : tidalB t = true := by rw [et]; exact tu_tidy hf hn hd.1 hb.1 ha.1
  have hT := tidy_of tb
  have tn : t.num = (1 + d % 9) * 60 + nn := by rw [et]; rfl
  have td : t.den = 1 + d % 9 := by rw [et]; rfl
  have te : t.before = b % 30 := by rw [et]; rfl
  have ta : t.after = a % 30 + 1 := by rw [et]; rfl
  have tf : t.first = f := by rw [et]; rfl
  have bd : ∀ j : Int, 0 ≤ j → j ≤ 65545 → f ≤ hiw t j ∧ hiw t j ≤ 60000000 := by
    intro j j0 j1
    unfold hiw
    have m1 : j * t.num ≤ 65545 * 795 := Int.mul_le_mul j1 (by omega) (by omega) (by omega)
    have m0 : 0 ≤ j * t.num := Int.mul_nonneg j0 (by omega)
    have q0 : 0 ≤ j * t.num / t.den := Int.ediv_nonneg m0 (by omega)
    have q1 : j * t.num / t.den ≤ j * t.num := Int.ediv_le_self _ m0
    omega
  obtain ⟨kn, hkn⟩ : ∃ kn : Nat, k = kn := ⟨k.toNat, by omega⟩
  have n0 := hiw_next hT k
  have n1 := hiw_up hT k
  have n2 := hiw_den t (show 0 < t.den by omega) k
  have b0 := bd k (by omega) (by omega)
  have b1 := bd (k + 1) (by omega) (by omega)
  have b2 := bd (k + t.den) (by omega) (by omega)
  have q1 : t.num / t.den ≤ t.num := Int.ediv_le_self _ (by omega)
  have q0 : 60 ≤ t.num / t.den := by
    refine Int.le_ediv_of_mul_le (by omega) ?_
    rw [Int.mul_comm]
    omega
  have hw2 := two_wins hT (k := kn) (lo := max (hiw t k - 30) 0) (hi := hiw t (k + 1) + 31) (by rw [hkn]) (by rw [hkn]; rfl) (by omega) (by omega) (by omega)
  rw [show hiw t (kn : Int) = hiw t k by rw [hkn], show hiw t ((kn + 1 : Nat) : Int) = hiw t (k + 1) by rw [hkn]; rfl] at hw2
  have y0 := hg_yes (t := t) (k := k) ⟨tb, by omega⟩ (by omega)
  have y1 := hg_yes (t := t) (k := k + 1) ⟨tb, by omega⟩ (by omega)
  have y2 := hg_yes (t := t) (k := k + t.den) ⟨tb, by omega⟩ (by omega)
  have hW : ∃ W, W = wnR t (max (hiw t k - 30) 0) (hiw t (k + 1) + 31) := ⟨_, rfl⟩
  obtain ⟨W, eW⟩ := hW
  rw [← eW] at hw2
  have wok : wnOk t (max (hiw t k - 30) 0) (hiw t (k + 1) + 31) = true := by
    unfold wnOk orderedB timedB
    rw [tb, decide_eq_true (show 0 ≤ max (hiw t k - 30) 0 by omega), decide_eq_true (show max (hiw t k - 30) 0 ≤ 100000000 by omega), decide_eq_true (show 0 ≤ hiw t (k + 1) + 31 by omega), decide_eq_true (show hiw t (k + 1) + 31 ≤ 100000000 by omega), decide_eq_true (show max (hiw t k - 30) 0 ≤ hiw t (k + 1) + 31 by omega)]
    rfl
  obtain ⟨wy1, wy2⟩ := wn_yes wok (by rw [← eW]; exact hw2.le)
  rw [← eW] at wy1
  obtain ⟨qd, eqd⟩ : ∃ v, v = t.num / t.den := ⟨_, rfl⟩
  rw [← eqd] at n0 n1 q0 q1
  have rqd : ((1 + d % 9) * 60 + nn) / (1 + d % 9) = qd := by rw [eqd, tn, td]
  have v0 := fun w' => highp_any t k w' (by omega)
  have v1 := fun w' => highp_any t (k + 1) w' (by omega)
  have v2 := fun w' => highp_any t (k + t.den) w' (by omega)
  have v3 := fun w' => windows_any t (max (hiw t k - 30) 0) (hiw t (k + 1) + 31) w'
  have v4 := fun w' => tidal_any t w'
  rw [← y0.1, ← y0.2] at v0
  rw [← y1.1, ← y1.2] at v1
  rw [← y2.1, ← y2.2] at v2
  rw [wy1, wy2] at v3
  rw [tb] at v4
  have etd : tdV t = .agg #[.int .i64 f, .int .i64 ((1 + d % 9) * 60 + nn), .int .i64 (1 + d % 9), .int .i64 (b % 30), .int .i64 (a % 30 + 1)] := by rw [et]; rfl
  rw [etd] at v0 v1 v2 v3 v4
  rw [td] at n2 v2 b2
  obtain ⟨p0, ep0⟩ : ∃ v, v = hiw t k := ⟨_, rfl⟩
  obtain ⟨p1, ep1⟩ : ∃ v, v = hiw t (k + 1) := ⟨_, rfl⟩
  obtain ⟨p2, ep2⟩ : ∃ v, v = hiw t (k + (1 + d % 9)) := ⟨_, rfl⟩
  rw [← ep0] at n0 n1 n2 b0 hw2 v0 v3
  rw [← ep1] at n0 n1 b1 hw2 v1 v3
  rw [← ep2] at n2 b2 v2
  rw [tn] at n2 q1
  rw [te, ta] at hw2
  have hln := hw2.len
  have hle := hw2.le
  clear bd y0 y1 y2 wy1 wy2 wok eW hT tb et tn td te ta tf etd eqd ep0 ep1 ep2
  repeat' ((conv => whnf); first
    | refine walk (Tryd.ok ..) ?_
    | refine walk (COk.with_ (Tryd.ok ..) _ _) ?_
    | refine walk (COk.with_ (COk.with_ (Tryd.ok ..) _ _) _ _) ?_
    | (refine Cnd.mk (fun h => ?_) (fun h => ?_) <;> (first | (exfalso; simp only [decide_eq_true_eq, decide_eq_false_iff_not, Bool.not_eq_true', Bool.not_eq_false'] at h; omega) | (exfalso; simp at h; omega) | simp at h | skip))
    | refine And.intro (Kept.mk ?_) ?_
    | refine Two.mk (And.intro ?_ ?_)
    | exact trivial
    | refine side ?_
    | refine sideL ?_
    | refine Or.inr ?_
    | refine sat_drawH (Tryd.ok ..) (by kernel_rfl) ?_
    | refine sat_drawH (COk.with_ (Tryd.ok ..) _ _) (by kernel_rfl) ?_
    | refine sat_drawH (COk.with_ (COk.with_ (Tryd.ok ..) _ _) _ _) (by kernel_rfl) ?_
    | refine Exists.intro [_] (And.intro (one_byte rfl) ?_)
    | refine Exists.intro [_] (And.intro (fun _ => one_byte rfl) ?_)
    | refine Exists.intro _ (And.intro (And.intro rfl rfl) ?_)
    | refine Exists.intro _ (And.intro (fun _ => And.intro rfl rfl) ?_)
    | refine Exists.intro _ (And.intro rfl ?_))
  refine called_at (.v (.bool true)) rfl (fun w' hh => awake_any hS w' (hw.at_ rfl rfl hh)) ?_
  repeat' ((conv => whnf); first
    | refine walk (Tryd.ok ..) ?_
    | refine walk (COk.with_ (Tryd.ok ..) _ _) ?_
    | refine walk (COk.with_ (COk.with_ (Tryd.ok ..) _ _) _ _) ?_
    | (refine Cnd.mk (fun h => ?_) (fun h => ?_) <;> (first | (exfalso; simp only [decide_eq_true_eq, decide_eq_false_iff_not, Bool.not_eq_true', Bool.not_eq_false'] at h; omega) | (exfalso; simp at h; omega) | simp at h | skip))
    | refine And.intro (Kept.mk ?_) ?_
    | refine Two.mk (And.intro ?_ ?_)
    | exact trivial
    | refine side ?_
    | refine sideL ?_
    | refine Or.inr ?_
    | refine sat_drawH (Tryd.ok ..) (by kernel_rfl) ?_
    | refine sat_drawH (COk.with_ (Tryd.ok ..) _ _) (by kernel_rfl) ?_
    | refine sat_drawH (COk.with_ (COk.with_ (Tryd.ok ..) _ _) _ _) (by kernel_rfl) ?_
    | refine Exists.intro [_] (And.intro (one_byte rfl) ?_)
    | refine Exists.intro [_] (And.intro (fun _ => one_byte rfl) ?_)
    | refine Exists.intro _ (And.intro (And.intro rfl rfl) ?_)
    | refine Exists.intro _ (And.intro (fun _ => And.intro rfl rfl) ?_)
    | refine Exists.intro _ (And.intro rfl ?_))
  intro g13 hg13
  repeat' ((conv => whnf); first
    | refine walk (Tryd.ok ..) ?_
    | refine walk (COk.with_ (Tryd.ok ..) _ _) ?_
    | refine walk (COk.with_ (COk.with_ (Tryd.ok ..) _ _) _ _) ?_
    | (refine Cnd.mk (fun h => ?_) (fun h => ?_) <;> (first | (exfalso; simp only [decide_eq_true_eq, decide_eq_false_iff_not, Bool.not_eq_true', Bool.not_eq_false'] at h; omega) | (exfalso; simp at h; omega) | simp at h | skip))
    | refine And.intro (Kept.mk ?_) ?_
    | refine Two.mk (And.intro ?_ ?_)
    | exact trivial
    | refine side ?_
    | refine sideL ?_
    | refine Or.inr ?_
    | refine sat_drawH (Tryd.ok ..) (by kernel_rfl) ?_
    | refine sat_drawH (COk.with_ (Tryd.ok ..) _ _) (by kernel_rfl) ?_
    | refine sat_drawH (COk.with_ (COk.with_ (Tryd.ok ..) _ _) _ _) (by kernel_rfl) ?_
    | refine Exists.intro [_] (And.intro (one_byte rfl) ?_)
    | refine Exists.intro [_] (And.intro (fun _ => one_byte rfl) ?_)
    | refine Exists.intro _ (And.intro (And.intro rfl rfl) ?_)
    | refine Exists.intro _ (And.intro (fun _ => And.intro rfl rfl) ?_)
    | refine Exists.intro _ (And.intro rfl ?_))
  refine called_pure (.t [.v (.int .i64 p0), .v (.int .i64 0)]) rfl (fun w' => v0 w') ?_
  repeat' ((conv => whnf); first
    | refine walk (Tryd.ok ..) ?_
    | refine walk (COk.with_ (Tryd.ok ..) _ _) ?_
    | refine walk (COk.with_ (COk.with_ (Tryd.ok ..) _ _) _ _) ?_
    | (refine Cnd.mk (fun h => ?_) (fun h => ?_) <;> (first | (exfalso; simp only [decide_eq_true_eq, decide_eq_false_iff_not, Bool.not_eq_true', Bool.not_eq_false'] at h; omega) | (exfalso; simp at h; omega) | simp at h | skip))
    | refine And.intro (Kept.mk ?_) ?_
    | refine Two.mk (And.intro ?_ ?_)
    | exact trivial
    | refine side ?_
    | refine sideL ?_
    | refine Or.inr ?_
    | refine sat_drawH (Tryd.ok ..) (by kernel_rfl) ?_
    | refine sat_drawH (COk.with_ (Tryd.ok ..) _ _) (by kernel_rfl) ?_
    | refine sat_drawH (COk.with_ (COk.with_ (Tryd.ok ..) _ _) _ _) (by kernel_rfl) ?_
    | refine Exists.intro [_] (And.intro (one_byte rfl) ?_)
    | refine Exists.intro [_] (And.intro (fun _ => one_byte rfl) ?_)
    | refine Exists.intro _ (And.intro (And.intro rfl rfl) ?_)
    | refine Exists.intro _ (And.intro (fun _ => And.intro rfl rfl) ?_)
    | refine Exists.intro _ (And.intro rfl ?_))
  refine called_pure (.t [.v (.int .i64 p1), .v (.int .i64 0)]) rfl (fun w' => v1 w') ?_
  repeat' ((conv => whnf); first
    | refine walk (Tryd.ok ..) ?_
    | refine walk (COk.with_ (Tryd.ok ..) _ _) ?_
    | refine walk (COk.with_ (COk.with_ (Tryd.ok ..) _ _) _ _) ?_
    | (refine Cnd.mk (fun h => ?_) (fun h => ?_) <;> (first | (exfalso; simp only [decide_eq_true_eq, decide_eq_false_iff_not, Bool.not_eq_true', Bool.not_eq_false'] at h; omega) | (exfalso; simp at h; omega) | simp at h | skip))
    | refine And.intro (Kept.mk ?_) ?_
    | refine Two.mk (And.intro ?_ ?_)
    | exact trivial
    | refine side ?_
    | refine sideL ?_
    | refine Or.inr ?_
    | refine sat_drawH (Tryd.ok ..) (by kernel_rfl) ?_
    | refine sat_drawH (COk.with_ (Tryd.ok ..) _ _) (by kernel_rfl) ?_
    | refine sat_drawH (COk.with_ (COk.with_ (Tryd.ok ..) _ _) _ _) (by kernel_rfl) ?_
    | refine Exists.intro [_] (And.intro (one_byte rfl) ?_)
    | refine Exists.intro [_] (And.intro (fun _ => one_byte rfl) ?_)
    | refine Exists.intro _ (And.intro (And.intro rfl rfl) ?_)
    | refine Exists.intro _ (And.intro (fun _ => And.intro rfl rfl) ?_)
    | refine Exists.intro _ (And.intro rfl ?_))
  refine called_pure (.t [.v (.int .i64 p2), .v (.int .i64 0)]) rfl (fun w' => v2 w') ?_
  repeat' ((conv => whnf); first
    | refine walk (Tryd.ok ..) ?_
    | refine walk (COk.with_ (Tryd.ok ..) _ _) ?_
    | refine walk (COk.with_ (COk.with_ (Tryd.ok ..) _ _) _ _) ?_
    | (refine Cnd.mk (fun h => ?_) (fun h => ?_) <;> (first | (exfalso; simp only [decide_eq_true_eq, decide_eq_false_iff_not, Bool.not_eq_true', Bool.not_eq_false'] at h; omega) | (exfalso; simp at h; omega) | simp at h | skip))
    | refine And.intro (Kept.mk ?_) ?_
    | refine Two.mk (And.intro ?_ ?_)
    | exact trivial
    | refine side ?_
    | refine sideL ?_
    | refine Or.inr ?_
    | refine sat_drawH (Tryd.ok ..) (by kernel_rfl) ?_
    | refine sat_drawH (COk.with_ (Tryd.ok ..) _ _) (by kernel_rfl) ?_
    | refine sat_drawH (COk.with_ (COk.with_ (Tryd.ok ..) _ _) _ _) (by kernel_rfl) ?_
    | refine Exists.intro [_] (And.intro (one_byte rfl) ?_)
    | refine Exists.intro [_] (And.intro (fun _ => one_byte rfl) ?_)
    | refine Exists.intro _ (And.intro (And.intro rfl rfl) ?_)
    | refine Exists.intro _ (And.intro (fun _ => And.intro rfl rfl) ?_)
    | refine Exists.intro _ (And.intro rfl ?_))
  refine called_row 70 (xs := sps W) (fun v => .tuple #[v, .int .i64 0]) (fun A cap => .t [.o 70 A W.length cap, .v (.int .i64 0)]) (fun A cap => rfl) (fun w' hh => v3 w') ?_
  intro A1 cap1
  repeat' ((conv => whnf); first
    | refine walk (Tryd.ok ..) ?_
    | refine walk (COk.with_ (Tryd.ok ..) _ _) ?_
    | refine walk (COk.with_ (COk.with_ (Tryd.ok ..) _ _) _ _) ?_
    | (refine Cnd.mk (fun h => ?_) (fun h => ?_) <;> (first | (exfalso; simp only [decide_eq_true_eq, decide_eq_false_iff_not, Bool.not_eq_true', Bool.not_eq_false'] at h; omega) | (exfalso; simp at h; omega) | simp at h | skip))
    | refine And.intro (Kept.mk ?_) ?_
    | refine Two.mk (And.intro ?_ ?_)
    | exact trivial
    | refine side ?_
    | refine sideL ?_
    | refine Or.inr ?_
    | refine sat_drawH (Tryd.ok ..) (by kernel_rfl) ?_
    | refine sat_drawH (COk.with_ (Tryd.ok ..) _ _) (by kernel_rfl) ?_
    | refine sat_drawH (COk.with_ (COk.with_ (Tryd.ok ..) _ _) _ _) (by kernel_rfl) ?_
    | refine Exists.intro [_] (And.intro (one_byte rfl) ?_)
    | refine Exists.intro [_] (And.intro (fun _ => one_byte rfl) ?_)
    | refine Exists.intro _ (And.intro (And.intro rfl rfl) ?_)
    | refine Exists.intro _ (And.intro (fun _ => And.intro rfl rfl) ?_)
    | refine Exists.intro _ (And.intro rfl ?_))
  refine calledQ_at (.v (.bool true)) rfl (fun _ w' _ => v4 w') ?_
  repeat' ((conv => whnf); first
    | refine walk (Tryd.ok ..) ?_
    | refine walk (COk.with_ (Tryd.ok ..) _ _) ?_
    | refine walk (COk.with_ (COk.with_ (Tryd.ok ..) _ _) _ _) ?_
    | (refine Cnd.mk (fun h => ?_) (fun h => ?_) <;> (first | (exfalso; simp only [decide_eq_true_eq, decide_eq_false_iff_not, Bool.not_eq_true', Bool.not_eq_false'] at h; omega) | (exfalso; simp at h; omega) | simp at h | skip))
    | refine And.intro (Kept.mk ?_) ?_
    | refine Two.mk (And.intro ?_ ?_)
    | exact trivial
    | refine side ?_
    | refine sideL ?_
    | refine Or.inr ?_
    | refine sat_drawH (Tryd.ok ..) (by kernel_rfl) ?_
    | refine sat_drawH (COk.with_ (Tryd.ok ..) _ _) (by kernel_rfl) ?_
    | refine sat_drawH (COk.with_ (COk.with_ (Tryd.ok ..) _ _) _ _) (by kernel_rfl) ?_
    | refine Exists.intro [_] (And.intro (one_byte rfl) ?_)
    | refine Exists.intro [_] (And.intro (fun _ => one_byte rfl) ?_)
    | refine Exists.intro _ (And.intro (And.intro rfl rfl) ?_)
    | refine Exists.intro _ (And.intro (fun _ => And.intro rfl rfl) ?_)
    | refine Exists.intro _ (And.intro rfl ?_))
  refine calledQ_at (.v (.bool true)) rfl (fun _ w' hh => by rw [← hw2.ap]; exact apart_any W A1 cap1 w' (ro_of_row hh (id := 70) rfl) (by omega)) ?_
  repeat' ((conv => whnf); first
    | refine walk (Tryd.ok ..) ?_
    | refine walk (COk.with_ (Tryd.ok ..) _ _) ?_
    | refine walk (COk.with_ (COk.with_ (Tryd.ok ..) _ _) _ _) ?_
    | (refine Cnd.mk (fun h => ?_) (fun h => ?_) <;> (first | (exfalso; simp only [decide_eq_true_eq, decide_eq_false_iff_not, Bool.not_eq_true', Bool.not_eq_false'] at h; omega) | (exfalso; simp at h; omega) | simp at h | skip))
    | refine And.intro (Kept.mk ?_) ?_
    | refine Two.mk (And.intro ?_ ?_)
    | exact trivial
    | refine side ?_
    | refine sideL ?_
    | refine Or.inr ?_
    | refine sat_drawH (Tryd.ok ..) (by kernel_rfl) ?_
    | refine sat_drawH (COk.with_ (Tryd.ok ..) _ _) (by kernel_rfl) ?_
    | refine sat_drawH (COk.with_ (COk.with_ (Tryd.ok ..) _ _) _ _) (by kernel_rfl) ?_
    | refine Exists.intro [_] (And.intro (one_byte rfl) ?_)
    | refine Exists.intro [_] (And.intro (fun _ => one_byte rfl) ?_)
    | refine Exists.intro _ (And.intro (And.intro rfl rfl) ?_)
    | refine Exists.intro _ (And.intro (fun _ => And.intro rfl rfl) ?_)
    | refine Exists.intro _ (And.intro rfl ?_))
  refine called_at (.v (.bool true)) rfl (fun w' hh => by rw [← hw2.i1]; exact lin_any W A1 cap1 p0 w' (ro_of_row hh (id := 70) rfl) (by omega)) ?_
  repeat' ((conv => whnf); first
    | refine walk (Tryd.ok ..) ?_
    | refine walk (COk.with_ (Tryd.ok ..) _ _) ?_
    | refine walk (COk.with_ (COk.with_ (Tryd.ok ..) _ _) _ _) ?_
    | (refine Cnd.mk (fun h => ?_) (fun h => ?_) <;> (first | (exfalso; simp only [decide_eq_true_eq, decide_eq_false_iff_not, Bool.not_eq_true', Bool.not_eq_false'] at h; omega) | (exfalso; simp at h; omega) | simp at h | skip))
    | refine And.intro (Kept.mk ?_) ?_
    | refine Two.mk (And.intro ?_ ?_)
    | exact trivial
    | refine side ?_
    | refine sideL ?_
    | refine Or.inr ?_
    | refine sat_drawH (Tryd.ok ..) (by kernel_rfl) ?_
    | refine sat_drawH (COk.with_ (Tryd.ok ..) _ _) (by kernel_rfl) ?_
    | refine sat_drawH (COk.with_ (COk.with_ (Tryd.ok ..) _ _) _ _) (by kernel_rfl) ?_
    | refine Exists.intro [_] (And.intro (one_byte rfl) ?_)
    | refine Exists.intro [_] (And.intro (fun _ => one_byte rfl) ?_)
    | refine Exists.intro _ (And.intro (And.intro rfl rfl) ?_)
    | refine Exists.intro _ (And.intro (fun _ => And.intro rfl rfl) ?_)
    | refine Exists.intro _ (And.intro rfl ?_))
  refine calledQ_at (.v (.bool true)) rfl (fun _ w' hh => by rw [← hw2.i2]; exact lin_any W A1 cap1 p1 w' (ro_of_row hh (id := 70) rfl) (by omega)) ?_
  repeat' ((conv => whnf); first
    | refine walk (Tryd.ok ..) ?_
    | refine walk (COk.with_ (Tryd.ok ..) _ _) ?_
    | refine walk (COk.with_ (COk.with_ (Tryd.ok ..) _ _) _ _) ?_
    | (refine Cnd.mk (fun h => ?_) (fun h => ?_) <;> (first | (exfalso; simp only [decide_eq_true_eq, decide_eq_false_iff_not, Bool.not_eq_true', Bool.not_eq_false'] at h; omega) | (exfalso; simp at h; omega) | simp at h | skip))
    | refine And.intro (Kept.mk ?_) ?_
    | refine Two.mk (And.intro ?_ ?_)
    | exact trivial
    | refine side ?_
    | refine sideL ?_
    | refine Or.inr ?_
    | refine sat_drawH (Tryd.ok ..) (by kernel_rfl) ?_
    | refine sat_drawH (COk.with_ (Tryd.ok ..) _ _) (by kernel_rfl) ?_
    | refine sat_drawH (COk.with_ (COk.with_ (Tryd.ok ..) _ _) _ _) (by kernel_rfl) ?_
    | refine Exists.intro [_] (And.intro (one_byte rfl) ?_)
    | refine Exists.intro [_] (And.intro (fun _ => one_byte rfl) ?_)
    | refine Exists.intro _ (And.intro (And.intro rfl rfl) ?_)
    | refine Exists.intro _ (And.intro (fun _ => And.intro rfl rfl) ?_)
    | refine Exists.intro _ (And.intro rfl ?_))
  refine calledQ_at (.v (.bool true)) rfl (fun _ w' hh => by rw [← hw2.i3]; exact lin_any W A1 cap1 (p0 + (a % 30 + 1) - 1) w' (ro_of_row hh (id := 70) rfl) (by omega)) ?_
  repeat' ((conv => whnf); first
    | refine walk (Tryd.ok ..) ?_
    | refine walk (COk.with_ (Tryd.ok ..) _ _) ?_
    | refine walk (COk.with_ (COk.with_ (Tryd.ok ..) _ _) _ _) ?_
    | (refine Cnd.mk (fun h => ?_) (fun h => ?_) <;> (first | (exfalso; simp only [decide_eq_true_eq, decide_eq_false_iff_not, Bool.not_eq_true', Bool.not_eq_false'] at h; omega) | (exfalso; simp at h; omega) | simp at h | skip))
    | refine And.intro (Kept.mk ?_) ?_
    | refine Two.mk (And.intro ?_ ?_)
    | exact trivial
    | refine side ?_
    | refine sideL ?_
    | refine Or.inr ?_
    | refine sat_drawH (Tryd.ok ..) (by kernel_rfl) ?_
    | refine sat_drawH (COk.with_ (Tryd.ok ..) _ _) (by kernel_rfl) ?_
    | refine sat_drawH (COk.with_ (COk.with_ (Tryd.ok ..) _ _) _ _) (by kernel_rfl) ?_
    | refine Exists.intro [_] (And.intro (one_byte rfl) ?_)
    | refine Exists.intro [_] (And.intro (fun _ => one_byte rfl) ?_)
    | refine Exists.intro _ (And.intro (And.intro rfl rfl) ?_)
    | refine Exists.intro _ (And.intro (fun _ => And.intro rfl rfl) ?_)
    | refine Exists.intro _ (And.intro rfl ?_))
  refine calledQ_at (.v (.bool false)) rfl (fun _ w' hh => by rw [← hw2.i4]; exact lin_any W A1 cap1 (p0 + (a % 30 + 1)) w' (ro_of_row hh (id := 70) rfl) (by omega)) ?_
  repeat' ((conv => whnf); first
    | refine walk (Tryd.ok ..) ?_
    | refine walk (COk.with_ (Tryd.ok ..) _ _) ?_
    | refine walk (COk.with_ (COk.with_ (Tryd.ok ..) _ _) _ _) ?_
    | (refine Cnd.mk (fun h => ?_) (fun h => ?_) <;> (first | (exfalso; simp only [decide_eq_true_eq, decide_eq_false_iff_not, Bool.not_eq_true', Bool.not_eq_false'] at h; omega) | (exfalso; simp at h; omega) | simp at h | skip))
    | refine And.intro (Kept.mk ?_) ?_
    | refine Two.mk (And.intro ?_ ?_)
    | exact trivial
    | refine side ?_
    | refine sideL ?_
    | refine Or.inr ?_
    | refine sat_drawH (Tryd.ok ..) (by kernel_rfl) ?_
    | refine sat_drawH (COk.with_ (Tryd.ok ..) _ _) (by kernel_rfl) ?_
    | refine sat_drawH (COk.with_ (COk.with_ (Tryd.ok ..) _ _) _ _) (by kernel_rfl) ?_
    | refine Exists.intro [_] (And.intro (one_byte rfl) ?_)
    | refine Exists.intro [_] (And.intro (fun _ => one_byte rfl) ?_)
    | refine Exists.intro _ (And.intro (And.intro rfl rfl) ?_)
    | refine Exists.intro _ (And.intro (fun _ => And.intro rfl rfl) ?_)
    | refine Exists.intro _ (And.intro rfl ?_))
  refine calledQ_at (.v (.bool true)) rfl (fun _ w' hh => by rw [← hw2.i5]; exact lin_any W A1 cap1 (p1 - b % 30) w' (ro_of_row hh (id := 70) rfl) (by omega)) ?_
  repeat' ((conv => whnf); first
    | refine walk (Tryd.ok ..) ?_
    | refine walk (COk.with_ (Tryd.ok ..) _ _) ?_
    | refine walk (COk.with_ (COk.with_ (Tryd.ok ..) _ _) _ _) ?_
    | (refine Cnd.mk (fun h => ?_) (fun h => ?_) <;> (first | (exfalso; simp only [decide_eq_true_eq, decide_eq_false_iff_not, Bool.not_eq_true', Bool.not_eq_false'] at h; omega) | (exfalso; simp at h; omega) | simp at h | skip))
    | refine And.intro (Kept.mk ?_) ?_
    | refine Two.mk (And.intro ?_ ?_)
    | exact trivial
    | refine side ?_
    | refine sideL ?_
    | refine Or.inr ?_
    | refine sat_drawH (Tryd.ok ..) (by kernel_rfl) ?_
    | refine sat_drawH (COk.with_ (Tryd.ok ..) _ _) (by kernel_rfl) ?_
    | refine sat_drawH (COk.with_ (COk.with_ (Tryd.ok ..) _ _) _ _) (by kernel_rfl) ?_
    | refine Exists.intro [_] (And.intro (one_byte rfl) ?_)
    | refine Exists.intro [_] (And.intro (fun _ => one_byte rfl) ?_)
    | refine Exists.intro _ (And.intro (And.intro rfl rfl) ?_)
    | refine Exists.intro _ (And.intro (fun _ => And.intro rfl rfl) ?_)
    | refine Exists.intro _ (And.intro rfl ?_))
  refine calledQ_at (.v (.bool false)) rfl (fun _ w' hh => by rw [← hw2.i6]; exact lin_any W A1 cap1 (p1 - b % 30 - 1) w' (ro_of_row hh (id := 70) rfl) (by omega)) ?_
  repeat' ((conv => whnf); first
    | refine walk (Tryd.ok ..) ?_
    | refine walk (COk.with_ (Tryd.ok ..) _ _) ?_
    | refine walk (COk.with_ (COk.with_ (Tryd.ok ..) _ _) _ _) ?_
    | (refine Cnd.mk (fun h => ?_) (fun h => ?_) <;> (first | (exfalso; simp only [decide_eq_true_eq, decide_eq_false_iff_not, Bool.not_eq_true', Bool.not_eq_false'] at h; omega) | (exfalso; simp at h; omega) | simp at h | skip))
    | refine And.intro (Kept.mk ?_) ?_
    | refine Two.mk (And.intro ?_ ?_)
    | exact trivial
    | refine side ?_
    | refine sideL ?_
    | refine Or.inr ?_
    | refine sat_drawH (Tryd.ok ..) (by kernel_rfl) ?_
    | refine sat_drawH (COk.with_ (Tryd.ok ..) _ _) (by kernel_rfl) ?_
    | refine sat_drawH (COk.with_ (COk.with_ (Tryd.ok ..) _ _) _ _) (by kernel_rfl) ?_
    | refine Exists.intro [_] (And.intro (one_byte rfl) ?_)
    | refine Exists.intro [_] (And.intro (fun _ => one_byte rfl) ?_)
    | refine Exists.intro _ (And.intro (And.intro rfl rfl) ?_)
    | refine Exists.intro _ (And.intro (fun _ => And.intro rfl rfl) ?_)
    | refine Exists.intro _ (And.intro rfl ?_))
  exact done_pure rfl rfl rfl
end Go.Proofs.YtodecgpjidlldaaDoor
