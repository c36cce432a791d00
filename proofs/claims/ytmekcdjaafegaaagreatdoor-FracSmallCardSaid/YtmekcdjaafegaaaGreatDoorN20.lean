/-
  The walks of the frac package: a text is read.
-/
import Derived.Test.YtmekcdjaafegaaaGreatDoorFW
namespace Go.Proofs.YtmekcdjaafegaaaGreatDoor
open Go Sat Go.RowKit Go.PlainAid
set_option linter.unusedSimpArgs false
set_option linter.unusedVariables false
set_option maxRecDepth 100000 in
set_option maxHeartbeats 8000000 in
theorem read_any (s : ByteArray) (w : World) (hw : Wf w) (hs : s.size ≤ 4294967280) :
    Calls Tryz.prog 13 #[.string s] w fun e w' => e = .returned (.tuple #[frV (readE s).1, .int .i64 (readE s).2]) ∧ Below w.heap.size w w' := by
  obtain ⟨P, hP⟩ : ∃ P, P = pre s := ⟨_, rfl⟩
  obtain ⟨n, hn⟩ : ∃ n, n = ng s := ⟨_, rfl⟩
  obtain ⟨a, ha⟩ : ∃ a, a = ab P := ⟨_, rfl⟩
  obtain ⟨b0, hb0⟩ : ∃ b, b = be P := ⟨_, rfl⟩
  obtain ⟨m, hm⟩ : ∃ m, m = sm P := ⟨_, rfl⟩
  obtain ⟨b, hb⟩ : ∃ b, b = lo P := ⟨_, rfl⟩
  have hPl : P.size ≤ 4294967280 := by rw [hP]; have := pre_len s; omega
  have hal : a.size ≤ 4294967280 := by rw [ha]; have := ab_len P; omega
  have hbl0 : b0.size ≤ 4294967280 := by rw [hb0]; have := be_len P; omega
  have hb1 : b = if m = true then b0 else ⟨#[49]⟩ := by rw [hb, hm, hb0]; rfl
  have hbl : b.size ≤ 4294967280 := by
    rw [hb1]
    split
    · exact hbl0
    · show 1 ≤ 4294967280; omega
  have hr : readE s = if okS a b = true then if (fits a && fits b) = true then if (textE (rdF s)).1 = s then (rdF s, 0) else (zeroF, 11) else (zeroF, 3) else (zeroF, 10) := by
    rw [ha, hb, hP]; rfl
  have hrd : rdF s = (fitF n (dval a.data.toList) (dval b.data.toList)).1 := by rw [hn, ha, hb, hP]; rfl
  have hbig := rdF_big s
  obtain ⟨R, hR⟩ : ∃ R, R = readE s := ⟨_, rfl⟩
  obtain ⟨F, hF⟩ : ∃ F, F = rdF s := ⟨_, rfl⟩
  rw [← hR] at hr ⊢
  rw [← hF] at hr hrd hbig
  refine calls_sat (cx := Tryz.cx 77 [] [] [] w) (Tryz.ok ..) Tryz.func13 rfl [.v (.string s)] rfl (by show 1 ≤ 77; omega) [] (holds_nil (Nat.le_refl _)) ?_
  clear hb
  cases m
  · rw [if_neg (by simp)] at hb1
    subst hb1
    repeat' ((conv => whnf); first | refine walk (Tryz.ok ..) ?_ | fail)
    intro g2 hg2
    repeat' ((conv => whnf); first | refine walk (Tryz.ok ..) ?_ | fail)
    refine called_pure (.t [.v (.string P), .v (.bool n)]) rfl (fun w' => by rw [hP, hn]; exact cutPre_any s w') ?_
    repeat' ((conv => whnf); first | refine walk (Tryz.ok ..) ?_ | fail)
    refine called_at (.t [.v (.string a), .v (.string b0), .v (.bool false)]) rfl (fun w' hh => by rw [ha, hb0, hm]; exact cut_any P w' (hw.at_ rfl rfl hh) (by omega)) ?_
    repeat' ((conv => whnf); first | refine walk (Tryz.ok ..) ?_ | (refine Cnd.mk (fun h => ?_) (fun h => ?_) <;> (first | exact cndT h (by (try dsimp only); omega) | exact cndF h (by (try dsimp only); omega) | (exfalso; simp at h; omega) | simp at h | skip)) | fail)
    refine called_pure (.v (.bool (dB a))) rfl (fun w' => digits_any a w' (by omega)) ?_
    repeat' ((conv => whnf); first | refine sideL2 ?_ | fail)
    refine calledQ_pure (v := .bool (dB (⟨#[49]⟩ : ByteArray))) (.v (.bool (dB (⟨#[49]⟩ : ByteArray)))) rfl (fun _ w' => digits_any (⟨#[49]⟩ : ByteArray) w' (by omega)) ?_
    repeat' ((conv => whnf); first | refine walk (Tryz.ok ..) ?_ | (refine Cnd.mk (fun h => ?_) (fun h => ?_) <;> (first | exact cndT h (by (try dsimp only); omega) | exact cndF h (by (try dsimp only); omega) | (exfalso; simp at h; omega) | simp at h | skip)) | refine side2 ?_ | fail)
    · skip
      have hok : okS a (⟨#[49]⟩ : ByteArray) = false := by
        unfold okS
        revert h
        cases dB a <;> cases dB (⟨#[49]⟩ : ByteArray) <;> simp
      rw [show R = (zeroF, 10) by rw [hr, hok]; rfl]
      exact done_pure rfl rfl rfl
    have hok : okS a (⟨#[49]⟩ : ByteArray) = true := by
      unfold okS
      revert h
      cases dB a <;> cases dB (⟨#[49]⟩ : ByteArray) <;> simp
    rw [hok, if_pos rfl] at hr
    have hok2 : dB a = true ∧ dB (⟨#[49]⟩ : ByteArray) = true ∧ (⟨#[49]⟩ : ByteArray) ≠ ⟨#[48]⟩ := by
      unfold okS at hok
      simp only [Bool.and_eq_true, Bool.not_eq_true', beq_eq_false_iff_ne] at hok
      exact ⟨hok.1.1, hok.1.2, hok.2⟩
    obtain ⟨hda, hdb, hb48⟩ := hok2
    have hvp := dval_pos hdb hb48
    obtain ⟨va, hva⟩ : ∃ v, v = dval a.data.toList := ⟨_, rfl⟩
    obtain ⟨vb, hvb⟩ : ∃ v, v = dval ((⟨#[49]⟩ : ByteArray)).data.toList := ⟨_, rfl⟩
    obtain ⟨ka, hka⟩ : ∃ k, k = decide (va < big) := ⟨_, rfl⟩
    obtain ⟨kb, hkb⟩ : ∃ k, k = decide (vb < big) := ⟨_, rfl⟩
    have hfa : fits a = (decide (a.size ≤ 78) && ka) := by rw [hka, hva]; rfl
    have hfb : fits (⟨#[49]⟩ : ByteArray) = (decide (((⟨#[49]⟩ : ByteArray)).size ≤ 78) && kb) := by rw [hkb, hvb]; rfl
    rw [← hva, ← hvb] at hrd
    rw [← hvb] at hvp
    by_cases ha78 : a.size ≤ 78
    · rw [decide_eq_true ha78, Bool.true_and] at hfa
      refine called_row 45 (xs := us (dg bb va)) (m := (dg bb va).length) (fun v => .tuple #[v, .bool ka]) (fun A cap => .t [.o 45 A (dg bb va).length cap, .v (.bool ka)]) (fun _ _ => rfl) (fun w' hh => by rw [hka, hva]; exact number_any a w' ha78 (dB_all hda)) ?_
      intro A1 c1
      repeat' ((conv => whnf); first | refine walk (Tryz.ok ..) ?_ | fail)
      by_cases hb78 : ((⟨#[49]⟩ : ByteArray)).size ≤ 78
      · rw [decide_eq_true hb78, Bool.true_and] at hfb
        refine called_row 50 (xs := us (dg bb vb)) (m := (dg bb vb).length) (fun v => .tuple #[v, .bool kb]) (fun A cap => .t [.o 50 A (dg bb vb).length cap, .v (.bool kb)]) (fun _ _ => rfl) (fun w' hh => by rw [hkb, hvb]; exact number_any (⟨#[49]⟩ : ByteArray) w' hb78 (dB_all hdb)) ?_
        intro A2 c2
        repeat' ((conv => whnf); first | refine walk (Tryz.ok ..) ?_ | (refine Cnd.mk (fun h => ?_) (fun h => ?_) <;> (first | exact cndT h (by (try dsimp only); omega) | exact cndF h (by (try dsimp only); omega) | (exfalso; simp at h; omega) | simp at h | skip)) | refine side2 ?_ | fail)
        · skip
          have hno : (fits a && fits (⟨#[49]⟩ : ByteArray)) = false := by
            rw [hfa, hfb]
            revert h
            cases ka <;> cases kb <;> simp
          rw [hno, if_neg (by simp)] at hr
          rw [hr]
          exact done_pure rfl rfl rfl
        have hyes : ka = true ∧ kb = true := by
          revert h
          cases ka <;> cases kb <;> simp
        rw [hfa, hfb, hyes.1, hyes.2, Bool.true_and, if_pos rfl] at hr
        have l1 : (dg bb va).length ≤ 8 := dg_big (of_decide_eq_true (hka.symm.trans hyes.1))
        have l2 : (dg bb vb).length ≤ 8 := dg_big (of_decide_eq_true (hkb.symm.trans hyes.2))
        obtain ⟨e0, he0⟩ : ∃ e, e = (fitF n va vb).2 := ⟨_, rfl⟩
        obtain ⟨T, hT⟩ : ∃ T, T = (textE F).1 := ⟨_, rfl⟩
        obtain ⟨te, hte⟩ : ∃ T, T = (textE F).2 := ⟨_, rfl⟩
        rw [← hT] at hr
        have h17 := frC_len F
        refine called_at (.t [.a (frC F), .v (.int .i64 e0)]) rfl (fun w' hh => by
          rw [hrd, he0]
          exact fit_any n va vb A1 A2 c1 c2 w' (ro_of_row hh (id := 45) rfl) (ro_of_row hh (id := 50) rfl) (by omega) (by omega) hvp) ?_
        skip
        intro g13 hg13
        repeat' ((conv => whnf); first | refine walk (Tryz.ok ..) ?_ | refine side2 ?_ | fail)
        skip
        refine called_args [.a (frC F)] (congrArg (fun l => [(SV.a l).real]) (tk1 F)) ?_
        refine called_at (.t [.v (.string T), .v (.int .i64 te)]) rfl (fun w' hh => by rw [hT, hte]; exact textE_any F w' hbig) ?_
        repeat' ((conv => whnf); first | refine walk (Tryz.ok ..) ?_ | (refine Cnd.mk (fun h => ?_) (fun h => ?_) <;> (first | exact cndT h (by (try dsimp only); omega) | exact cndF h (by (try dsimp only); omega) | (exfalso; simp at h; omega) | simp at h | skip)) | refine side2 ?_ | fail)
        · rw [if_neg h] at hr
          rw [hr]
          skip
          exact done_pure rfl rfl rfl
        · rw [if_pos h] at hr
          rw [hr]
          skip
          exact done_pure rfl rfl (congrArg (fun l => (SV.t [.a l, .v (.int .i64 0)]).real) (tk2 F))
      · rw [decide_eq_false hb78, Bool.false_and] at hfb
        rw [hfb, Bool.and_false, if_neg (by simp)] at hr
        refine called_pure (.t [.v (.slice none 0 0), .v (.bool false)]) rfl (fun w' => number_long (⟨#[49]⟩ : ByteArray) w' (by omega) (by omega)) ?_
        repeat' ((conv => whnf); first | refine walk (Tryz.ok ..) ?_ | (refine Cnd.mk (fun h => ?_) (fun h => ?_) <;> (first | exact cndT h (by (try dsimp only); omega) | exact cndF h (by (try dsimp only); omega) | (exfalso; simp at h; omega) | simp at h | skip)) | refine side2 ?_ | fail)
        skip
        rw [hr]
        exact done_pure rfl rfl rfl
    · rw [decide_eq_false ha78, Bool.false_and] at hfa
      rw [hfa, Bool.false_and, if_neg (by simp)] at hr
      refine called_pure (.t [.v (.slice none 0 0), .v (.bool false)]) rfl (fun w' => number_long a w' (by omega) (by omega)) ?_
      repeat' ((conv => whnf); first | refine walk (Tryz.ok ..) ?_ | fail)
      by_cases hb78 : ((⟨#[49]⟩ : ByteArray)).size ≤ 78
      · refine called_row 50 (xs := us (dg bb vb)) (m := (dg bb vb).length) (fun v => .tuple #[v, .bool kb]) (fun A cap => .t [.o 50 A (dg bb vb).length cap, .v (.bool kb)]) (fun _ _ => rfl) (fun w' hh => by rw [hkb, hvb]; exact number_any (⟨#[49]⟩ : ByteArray) w' hb78 (dB_all hdb)) ?_
        intro A2 c2
        repeat' ((conv => whnf); first | refine walk (Tryz.ok ..) ?_ | (refine Cnd.mk (fun h => ?_) (fun h => ?_) <;> (first | exact cndT h (by (try dsimp only); omega) | exact cndF h (by (try dsimp only); omega) | (exfalso; simp at h; omega) | simp at h | skip)) | refine side2 ?_ | fail)
        skip
        rw [hr]
        exact done_pure rfl rfl rfl
      · refine called_pure (.t [.v (.slice none 0 0), .v (.bool false)]) rfl (fun w' => number_long (⟨#[49]⟩ : ByteArray) w' (by omega) (by omega)) ?_
        repeat' ((conv => whnf); first | refine walk (Tryz.ok ..) ?_ | (refine Cnd.mk (fun h => ?_) (fun h => ?_) <;> (first | exact cndT h (by (try dsimp only); omega) | exact cndF h (by (try dsimp only); omega) | (exfalso; simp at h; omega) | simp at h | skip)) | refine side2 ?_ | fail)
        skip
        rw [hr]
        exact done_pure rfl rfl rfl
  · rw [if_pos rfl] at hb1
    subst hb1
    repeat' ((conv => whnf); first | refine walk (Tryz.ok ..) ?_ | fail)
    intro g2 hg2
    repeat' ((conv => whnf); first | refine walk (Tryz.ok ..) ?_ | fail)
    refine called_pure (.t [.v (.string P), .v (.bool n)]) rfl (fun w' => by rw [hP, hn]; exact cutPre_any s w') ?_
    repeat' ((conv => whnf); first | refine walk (Tryz.ok ..) ?_ | fail)
    refine called_at (.t [.v (.string a), .v (.string b), .v (.bool true)]) rfl (fun w' hh => by rw [ha, hb0, hm]; exact cut_any P w' (hw.at_ rfl rfl hh) (by omega)) ?_
    repeat' ((conv => whnf); first | refine walk (Tryz.ok ..) ?_ | (refine Cnd.mk (fun h => ?_) (fun h => ?_) <;> (first | exact cndT h (by (try dsimp only); omega) | exact cndF h (by (try dsimp only); omega) | (exfalso; simp at h; omega) | simp at h | skip)) | fail)
    refine called_pure (.v (.bool (dB a))) rfl (fun w' => digits_any a w' (by omega)) ?_
    repeat' ((conv => whnf); first | refine sideL2 ?_ | fail)
    refine calledQ_pure (v := .bool (dB b)) (.v (.bool (dB b))) rfl (fun _ w' => digits_any b w' (by omega)) ?_
    repeat' ((conv => whnf); first | refine walk (Tryz.ok ..) ?_ | (refine Cnd.mk (fun h => ?_) (fun h => ?_) <;> (first | exact cndT h (by (try dsimp only); omega) | exact cndF h (by (try dsimp only); omega) | (exfalso; simp at h; omega) | simp at h | skip)) | refine side2 ?_ | fail)
    · skip
      have hok : okS a b = false := by
        unfold okS
        revert h
        cases dB a <;> cases dB b <;> simp
      rw [show R = (zeroF, 10) by rw [hr, hok]; rfl]
      exact done_pure rfl rfl rfl
    have hok : okS a b = true := by
      unfold okS
      revert h
      cases dB a <;> cases dB b <;> simp
    rw [hok, if_pos rfl] at hr
    have hok2 : dB a = true ∧ dB b = true ∧ b ≠ ⟨#[48]⟩ := by
      unfold okS at hok
      simp only [Bool.and_eq_true, Bool.not_eq_true', beq_eq_false_iff_ne] at hok
      exact ⟨hok.1.1, hok.1.2, hok.2⟩
    obtain ⟨hda, hdb, hb48⟩ := hok2
    have hvp := dval_pos hdb hb48
    obtain ⟨va, hva⟩ : ∃ v, v = dval a.data.toList := ⟨_, rfl⟩
    obtain ⟨vb, hvb⟩ : ∃ v, v = dval (b).data.toList := ⟨_, rfl⟩
    obtain ⟨ka, hka⟩ : ∃ k, k = decide (va < big) := ⟨_, rfl⟩
    obtain ⟨kb, hkb⟩ : ∃ k, k = decide (vb < big) := ⟨_, rfl⟩
    have hfa : fits a = (decide (a.size ≤ 78) && ka) := by rw [hka, hva]; rfl
    have hfb : fits b = (decide ((b).size ≤ 78) && kb) := by rw [hkb, hvb]; rfl
    rw [← hva, ← hvb] at hrd
    rw [← hvb] at hvp
    by_cases ha78 : a.size ≤ 78
    · rw [decide_eq_true ha78, Bool.true_and] at hfa
      refine called_row 45 (xs := us (dg bb va)) (m := (dg bb va).length) (fun v => .tuple #[v, .bool ka]) (fun A cap => .t [.o 45 A (dg bb va).length cap, .v (.bool ka)]) (fun _ _ => rfl) (fun w' hh => by rw [hka, hva]; exact number_any a w' ha78 (dB_all hda)) ?_
      intro A1 c1
      repeat' ((conv => whnf); first | refine walk (Tryz.ok ..) ?_ | fail)
      by_cases hb78 : (b).size ≤ 78
      · rw [decide_eq_true hb78, Bool.true_and] at hfb
        refine called_row 50 (xs := us (dg bb vb)) (m := (dg bb vb).length) (fun v => .tuple #[v, .bool kb]) (fun A cap => .t [.o 50 A (dg bb vb).length cap, .v (.bool kb)]) (fun _ _ => rfl) (fun w' hh => by rw [hkb, hvb]; exact number_any b w' hb78 (dB_all hdb)) ?_
        intro A2 c2
        repeat' ((conv => whnf); first | refine walk (Tryz.ok ..) ?_ | (refine Cnd.mk (fun h => ?_) (fun h => ?_) <;> (first | exact cndT h (by (try dsimp only); omega) | exact cndF h (by (try dsimp only); omega) | (exfalso; simp at h; omega) | simp at h | skip)) | refine side2 ?_ | fail)
        · skip
          have hno : (fits a && fits b) = false := by
            rw [hfa, hfb]
            revert h
            cases ka <;> cases kb <;> simp
          rw [hno, if_neg (by simp)] at hr
          rw [hr]
          exact done_pure rfl rfl rfl
        have hyes : ka = true ∧ kb = true := by
          revert h
          cases ka <;> cases kb <;> simp
        rw [hfa, hfb, hyes.1, hyes.2, Bool.true_and, if_pos rfl] at hr
        have l1 : (dg bb va).length ≤ 8 := dg_big (of_decide_eq_true (hka.symm.trans hyes.1))
        have l2 : (dg bb vb).length ≤ 8 := dg_big (of_decide_eq_true (hkb.symm.trans hyes.2))
        obtain ⟨e0, he0⟩ : ∃ e, e = (fitF n va vb).2 := ⟨_, rfl⟩
        obtain ⟨T, hT⟩ : ∃ T, T = (textE F).1 := ⟨_, rfl⟩
        obtain ⟨te, hte⟩ : ∃ T, T = (textE F).2 := ⟨_, rfl⟩
        rw [← hT] at hr
        have h17 := frC_len F
        refine called_at (.t [.a (frC F), .v (.int .i64 e0)]) rfl (fun w' hh => by
          rw [hrd, he0]
          exact fit_any n va vb A1 A2 c1 c2 w' (ro_of_row hh (id := 45) rfl) (ro_of_row hh (id := 50) rfl) (by omega) (by omega) hvp) ?_
        skip
        intro g13 hg13
        repeat' ((conv => whnf); first | refine walk (Tryz.ok ..) ?_ | refine side2 ?_ | fail)
        skip
        refine called_args [.a (frC F)] (congrArg (fun l => [(SV.a l).real]) (tk1 F)) ?_
        refine called_at (.t [.v (.string T), .v (.int .i64 te)]) rfl (fun w' hh => by rw [hT, hte]; exact textE_any F w' hbig) ?_
        repeat' ((conv => whnf); first | refine walk (Tryz.ok ..) ?_ | (refine Cnd.mk (fun h => ?_) (fun h => ?_) <;> (first | exact cndT h (by (try dsimp only); omega) | exact cndF h (by (try dsimp only); omega) | (exfalso; simp at h; omega) | simp at h | skip)) | refine side2 ?_ | fail)
        · rw [if_neg h] at hr
          rw [hr]
          skip
          exact done_pure rfl rfl rfl
        · rw [if_pos h] at hr
          rw [hr]
          skip
          exact done_pure rfl rfl (congrArg (fun l => (SV.t [.a l, .v (.int .i64 0)]).real) (tk2 F))
      · rw [decide_eq_false hb78, Bool.false_and] at hfb
        rw [hfb, Bool.and_false, if_neg (by simp)] at hr
        refine called_pure (.t [.v (.slice none 0 0), .v (.bool false)]) rfl (fun w' => number_long b w' (by omega) (by omega)) ?_
        repeat' ((conv => whnf); first | refine walk (Tryz.ok ..) ?_ | (refine Cnd.mk (fun h => ?_) (fun h => ?_) <;> (first | exact cndT h (by (try dsimp only); omega) | exact cndF h (by (try dsimp only); omega) | (exfalso; simp at h; omega) | simp at h | skip)) | refine side2 ?_ | fail)
        skip
        rw [hr]
        exact done_pure rfl rfl rfl
    · rw [decide_eq_false ha78, Bool.false_and] at hfa
      rw [hfa, Bool.false_and, if_neg (by simp)] at hr
      refine called_pure (.t [.v (.slice none 0 0), .v (.bool false)]) rfl (fun w' => number_long a w' (by omega) (by omega)) ?_
      repeat' ((conv => whnf); first | refine walk (Tryz.ok ..) ?_ | fail)
      by_cases hb78 : (b).size ≤ 78
      · refine called_row 50 (xs := us (dg bb vb)) (m := (dg bb vb).length) (fun v => .tuple #[v, .bool kb]) (fun A cap => .t [.o 50 A (dg bb vb).length cap, .v (.bool kb)]) (fun _ _ => rfl) (fun w' hh => by rw [hkb, hvb]; exact number_any b w' hb78 (dB_all hdb)) ?_
        intro A2 c2
        repeat' ((conv => whnf); first | refine walk (Tryz.ok ..) ?_ | (refine Cnd.mk (fun h => ?_) (fun h => ?_) <;> (first | exact cndT h (by (try dsimp only); omega) | exact cndF h (by (try dsimp only); omega) | (exfalso; simp at h; omega) | simp at h | skip)) | refine side2 ?_ | fail)
        skip
        rw [hr]
        exact done_pure rfl rfl rfl
      · refine called_pure (.t [.v (.slice none 0 0), .v (.bool false)]) rfl (fun w' => number_long b w' (by omega) (by omega)) ?_
        repeat' ((conv => whnf); first | refine walk (Tryz.ok ..) ?_ | (refine Cnd.mk (fun h => ?_) (fun h => ?_) <;> (first | exact cndT h (by (try dsimp only); omega) | exact cndF h (by (try dsimp only); omega) | (exfalso; simp at h; omega) | simp at h | skip)) | refine side2 ?_ | fail)
        skip
        rw [hr]
        exact done_pure rfl rfl rfl
end Go.Proofs.YtmekcdjaafegaaaGreatDoor
