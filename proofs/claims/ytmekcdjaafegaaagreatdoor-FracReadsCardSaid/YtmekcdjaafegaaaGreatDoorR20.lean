/-
  The walks of the reference: a text is read.
-/
import Derived.Test.YtmekcdjaafegaaaGreatDoorR19
namespace Go.Proofs.YtmekcdjaafegaaaGreatDoor
open Go Sat Go.RowKit Go.PlainAid
set_option linter.unusedSimpArgs false
set_option linter.unusedVariables false
theorem ext_len (s : ByteArray) (i j : Nat) : (s.extract i j).size ≤ s.size := by
  show (s.extract i j).data.toList.length ≤ s.data.toList.length
  rw [ext_list, List.length_drop, List.length_take]
  omega
theorem b48 {b : ByteArray} (h : dB b = true) : (b == (⟨#[48]⟩ : ByteArray)) = decide (dval b.data.toList = 0) := by
  by_cases e : b = ⟨#[48]⟩
  · subst e
    rfl
  · have := dval_pos h e
    rw [decide_eq_false (by omega)]
    exact beq_eq_false_iff_ne.2 e
theorem big_pos : 0 < big := by decide
def isTen (a b : ByteArray) : Prop := (numC a = 1 ∨ numC b = 1) ∨ numC b = 0 ∧ dg b6 (numV b) = []
theorem num_ok {a b : ByteArray} : (isTen a b ∧ okS a b = false) ∨ (¬isTen a b ∧ okS a b = true ∧ (((numC a = 2 ∨ numC b = 2) ∧ (fits a && fits b) = false) ∨ (¬(numC a = 2 ∨ numC b = 2) ∧ (fits a && fits b) = true ∧ dB a = true ∧ numV a = dval a.data.toList ∧ numV b = dval b.data.toList ∧ 0 < dval b.data.toList))) := by
  have hbp := big_pos
  unfold isTen okS
  have hz : dg b6 (numV b) = [] ↔ numV b = 0 := dg_nil b6_2
  rw [hz]
  rcases num_cases a with ⟨da, e1, v1⟩ | ⟨da, ba, e1, v1⟩ | ⟨da, ba, e1, v1⟩
  · exact .inl ⟨by omega, by rw [da]; rfl⟩
  all_goals rcases num_cases b with ⟨db, e2, v2⟩ | ⟨db, bb', e2, v2⟩ | ⟨db, bb', e2, v2⟩
  all_goals rw [da, db]
  all_goals first | exact .inl ⟨by omega, rfl⟩ | skip
  all_goals rw [b48 db, fits_dB da, fits_dB db]
  all_goals by_cases z : dval b.data.toList = 0
  all_goals first | exact .inl ⟨by omega, by rw [decide_eq_true z]; rfl⟩ | skip
  all_goals first | (exfalso; omega) | skip
  all_goals refine .inr ⟨by omega, by rw [decide_eq_false z]; rfl, ?_⟩
  · exact .inl ⟨by omega, by rw [decide_eq_false (by omega)]; rfl⟩
  · exact .inl ⟨by omega, by rw [decide_eq_false (by omega)]; rfl⟩
  · exact .inl ⟨by omega, by rw [decide_eq_false (show ¬ dval b.data.toList < big by omega), Bool.and_false]⟩
  · exact .inr ⟨by omega, by rw [decide_eq_true ba, decide_eq_true bb']; rfl, rfl, v1, v2, by omega⟩
set_option maxRecDepth 100000 in
set_option maxHeartbeats 8000000 in
theorem rread_any (s : ByteArray) (w : World) (hs : s.size ≤ 4294967280) :
    Calls Tryz.prog 14 #[.string s] w fun e w' => e = .returned (.tuple #[frV (readE s).1, .int .i64 (readE s).2]) ∧ Below w.heap.size w w' := by
  have hz17 := frC_len zeroF
  have hbig := rdF_big s
  obtain ⟨R, eR⟩ : ∃ R, R = readE s := ⟨_, rfl⟩
  rw [← eR]
  refine calls_sat (cx := Tryz.cx 100 [] [] [] w) (Tryz.ok ..) Tryz.func14 rfl [.v (.string s)] rfl (by show 1 ≤ 100; omega) [] (holds_nil (Nat.le_refl _)) ?_
  repeat' ((conv => whnf); first | refine walk (Tryz.ok ..) ?_ | fail)
  (conv => whnf)
  intro g2 hg2
  cases hng : ng s
  · have hP := pre_no hng
    have hPl : s.size ≤ 4294967280 := hs
    have hnb : 0 < s.size → (bt s 0 == 45) = false := fun h => beq_eq_false_iff_ne.2 fun e => by rw [hasP.2 ⟨h, e⟩] at hng; cases hng
    have hno : ¬ (0 < s.size ∧ bt s 0 = 45) := fun h => by rw [hasP.2 h] at hng; cases hng
    repeat' ((conv => whnf); first | refine walk (Tryz.ok ..) ?_ | (refine Cnd.mk (fun h => ?_) (fun h => ?_) <;> (first | exact cndT h (by (try dsimp only); omega) | exact cndF h (by (try dsimp only); omega) | (exfalso; simp at h; omega) | simp at h | skip)) | refine side2 ?_ | refine sideL2 ?_ | fail)
    have hsz : (s).data.toList.length = (s).size := by simp
    obtain ⟨l, el⟩ : ∃ l, l = (s).data.toList := ⟨_, rfl⟩
    rw [← el] at hsz
    refine sat_loop (Tryz.ok ..) (α := Nat) (fun n => ([(0, .yes, .v (.string s)), (2, .yes, .p 2 g2 0 0), (4, .yes, .v (.string s)), (5, .yes, .v (.int .i64 (sl l n))), (6, .yes, .v (.int .i64 ((n : Int) - 1)))], [(2, .blk g2 37 (frC zeroF))])) (fun n => n ≤ (s).size) (fun n => n) (fun _ => rfl) ?_ ?_
    · refine ⟨(s).size, Nat.le_refl _, ?_, ?_, rfl⟩
      · dsimp only
        rw [← hsz, sl_end]
        ((repeat' (first | exact trivial | exact rfl | refine And.intro ?_ ?_)) <;> (try (conv => whnf)) <;> (try simp only [SV.real, SV.r2, SV.r1]))
      · ((repeat' (first | exact trivial | exact rfl | refine And.intro ?_ ?_)) <;> (try (conv => whnf)) <;> (try simp only [SV.real, SV.r2, SV.r1]))
    intro n hn
    by_cases hn0 : n = 0
    · subst hn0
      have hlt := sl_lt l 0 (Nat.zero_le _)
      by_cases hneg : sl l 0 = -1
      · obtain ⟨ea, _, eb⟩ := cut_no (s := s) (by rw [← el]; exact hneg)
        rw [hneg]
        repeat' ((conv => whnf); first | refine walk (Tryz.ok ..) ?_ | (refine Cnd.mk (fun h => ?_) (fun h => ?_) <;> (first | exact cndT h (by (try dsimp only); omega) | exact cndF h (by (try dsimp only); omega) | (exfalso; simp at h; omega) | simp at h | skip)) | fail)
        refine called_row 50 (xs := iv (dg b6 (numV s))) (m := (dg b6 (numV s)).length) (fun v => .tuple #[v, .int .i64 (numC s)]) (fun A cap => .t [.o 50 A (dg b6 (numV s)).length cap, .v (.int .i64 (numC s))]) (fun _ _ => rfl) (fun w' hh => by exact rnumber_all s w' (by omega)) ?_
        intro A1 c1
        repeat' ((conv => whnf); first | refine walk (Tryz.ok ..) ?_ | fail)
        refine called_row 55 (xs := iv (dg b6 (numV (⟨#[49]⟩ : ByteArray)))) (m := (dg b6 (numV (⟨#[49]⟩ : ByteArray))).length) (fun v => .tuple #[v, .int .i64 (numC (⟨#[49]⟩ : ByteArray))]) (fun A cap => .t [.o 55 A (dg b6 (numV (⟨#[49]⟩ : ByteArray))).length cap, .v (.int .i64 (numC (⟨#[49]⟩ : ByteArray)))]) (fun _ _ => rfl) (fun w' hh => by exact rnumber_all (⟨#[49]⟩ : ByteArray) w' (by decide)) ?_
        intro A2 c2
        have l1 := dg_big6 (num_lt s)
        have l2 := dg_big6 (num_lt (⟨#[49]⟩ : ByteArray))
        have ca := num_cases s
        have cb := num_cases (⟨#[49]⟩ : ByteArray)
        have ea2 : ab (pre s) = s := by rw [hP]; exact ea
        have eb2 : lo (pre s) = (⟨#[49]⟩ : ByteArray) := by rw [hP]; exact eb
        have hr : R = if okS (ab (pre s)) (lo (pre s)) = true then if (fits (ab (pre s)) && fits (lo (pre s))) = true then if (textE (rdF s)).1 = s then (rdF s, 0) else (zeroF, 11) else (zeroF, 3) else (zeroF, 10) := eR
        have hrd : rdF s = (fitF (ng s) (dval (ab (pre s)).data.toList) (dval (lo (pre s)).data.toList)).1 := rfl
        rw [ea2, eb2] at hr hrd
        rw [hng] at hrd
        clear ea2 eb2 ea eb
        have hs0 : dB s = true → 0 < s.size := fun h => by
          rcases Nat.eq_zero_or_pos s.size with h0 | h0
          · have h9 : (s).size = 0 := by omega
            have h8 : s = ⟨#[]⟩ := ba_eq.2 (List.eq_nil_of_length_eq_zero h9)
            rw [h8] at h
            cases h
          · exact h0
        have hno := num_ok (a := s) (b := (⟨#[49]⟩ : ByteArray))
        repeat' ((conv => whnf); first | refine walk (Tryz.ok ..) ?_ | (refine Cnd.mk (fun h => ?_) (fun h => ?_) <;> (first | exact cndT h (by (try dsimp only); omega) | exact cndF h (by (try dsimp only); omega) | (exfalso; simp at h; omega) | simp at h | skip)) | refine side2 ?_ | fail)
        · rcases hno with ⟨_, hok⟩ | ⟨hn, _⟩
          · rw [show R = (zeroF, 10) by rw [hr, hok]; rfl]
            skip
            exact done_pure rfl rfl rfl
          · exact absurd h hn
        · rename_i hq
          rcases hno with ⟨ht, _⟩ | ⟨_, hok, ⟨_, hf⟩ | ⟨hn, _⟩⟩
          · exact absurd ht (fun x => x.elim (fun y => y.elim hq.1.1 hq.1.2) (fun y => hq.2 y.1 y.2))
          · rw [show R = (zeroF, 3) by rw [hr, hok, if_pos rfl, hf]; rfl]
            skip
            exact done_pure rfl rfl rfl
          · exact absurd h hn
        · rename_i hq
          rcases hno with ⟨ht, _⟩ | ⟨_, hok, ⟨ho, _⟩ | ⟨_, hf, da, v1, v2, v0⟩⟩
          · exact absurd ht (fun x => x.elim (fun y => y.elim hq.1.1 hq.1.2) (fun y => hq.2 y.1 y.2))
          · exact absurd ho (fun x => x.elim h.1 h.2)
          · have hs1 := hs0 da
            rw [hok, if_pos rfl, hf, if_pos rfl] at hr
            have hv2 : 0 < numV (⟨#[49]⟩ : ByteArray) := by omega
            rw [← v1, ← v2] at hrd
            obtain ⟨F, eF⟩ : ∃ F, F = rdF s := ⟨_, rfl⟩
            rw [← eF] at hr hrd hbig
            obtain ⟨e0, he0⟩ : ∃ e, e = (fitF false (numV s) (numV (⟨#[49]⟩ : ByteArray))).2 := ⟨_, rfl⟩
            have h17 := frC_len F
            repeat' ((conv => whnf); first | refine side2 ?_ | fail)
            refine called_args [.v (.bool false), .o 50 A1 (dg b6 (numV s)).length c1, .o 55 A2 (dg b6 (numV (⟨#[49]⟩ : ByteArray))).length c2] (congrArg (fun x => [Value.bool x, _, _]) (by show (bt s 0 == 45) = false; exact hnb hs1)) ?_
            refine called_at (.t [.a (frC F), .v (.int .i64 e0)]) rfl (fun w' hh => by
              rw [hrd, he0]
              exact rmake_any false (numV s) (numV (⟨#[49]⟩ : ByteArray)) A1 A2 c1 c2 w' (ro_of_row hh (id := 50) rfl) (ro_of_row hh (id := 55) rfl) (by omega) (by omega) (row_cap6 hh (id := 50) rfl) (row_cap6 hh (id := 55) rfl) hv2) ?_
            skip
            (conv => whnf)
            intro g12 hg12
            repeat' ((conv => whnf); first | refine walk (Tryz.ok ..) ?_ | refine side2 ?_ | fail)
            obtain ⟨T, hT⟩ : ∃ T, T = (textE F).1 := ⟨_, rfl⟩
            obtain ⟨te, hte⟩ : ∃ T, T = (textE F).2 := ⟨_, rfl⟩
            rw [← hT] at hr
            refine called_args [.a (frC F)] (congrArg (fun l => [(SV.a l).real]) (tk1 F)) ?_
            refine called_at (.t [.v (.string T), .v (.int .i64 te)]) rfl (fun w' hh => by rw [hT, hte]; exact rtext_any F w' hbig) ?_
            repeat' ((conv => whnf); first | refine walk (Tryz.ok ..) ?_ | (refine Cnd.mk (fun h => ?_) (fun h => ?_) <;> (first | exact cndT h (by (try dsimp only); omega) | exact cndF h (by (try dsimp only); omega) | (exfalso; simp at h; omega) | simp at h | skip)) | refine side2 ?_ | fail)
            · rw [if_neg h] at hr
              rw [hr]
              skip
              exact done_pure rfl rfl rfl
            · rw [if_pos h] at hr
              rw [hr]
              skip
              exact done_pure rfl rfl (congrArg (fun l => (SV.t [.a l, .v (.int .i64 0)]).real) (tk2 F))
      · obtain ⟨j, ej⟩ : ∃ j : Nat, sl l 0 = j := ⟨(sl l 0).toNat, by omega⟩
        obtain ⟨ea, _, eb⟩ := cut_yes (s := s) (j := j) (by rw [← el]; exact ej)
        rw [ej] at hlt ⊢
        have l3 := ext_len s 0 j
        have l4 := ext_len s (j + 1) (s).size
        repeat' ((conv => whnf); first | refine walk (Tryz.ok ..) ?_ | (refine Cnd.mk (fun h => ?_) (fun h => ?_) <;> (first | exact cndT h (by (try dsimp only); omega) | exact cndF h (by (try dsimp only); omega) | (exfalso; simp at h; omega) | simp at h | skip)) | refine side2 ?_ | refine sideL2 ?_ | fail)
        refine called_row 50 (xs := iv (dg b6 (numV ((s).extract 0 j)))) (m := (dg b6 (numV ((s).extract 0 j))).length) (fun v => .tuple #[v, .int .i64 (numC ((s).extract 0 j))]) (fun A cap => .t [.o 50 A (dg b6 (numV ((s).extract 0 j))).length cap, .v (.int .i64 (numC ((s).extract 0 j)))]) (fun _ _ => rfl) (fun w' hh => by exact rnumber_all ((s).extract 0 j) w' (by omega)) ?_
        intro A1 c1
        repeat' ((conv => whnf); first | refine walk (Tryz.ok ..) ?_ | fail)
        refine called_row 55 (xs := iv (dg b6 (numV ((s).extract (j + 1) (s).size)))) (m := (dg b6 (numV ((s).extract (j + 1) (s).size))).length) (fun v => .tuple #[v, .int .i64 (numC ((s).extract (j + 1) (s).size))]) (fun A cap => .t [.o 55 A (dg b6 (numV ((s).extract (j + 1) (s).size))).length cap, .v (.int .i64 (numC ((s).extract (j + 1) (s).size)))]) (fun _ _ => rfl) (fun w' hh => by exact rnumber_all ((s).extract (j + 1) (s).size) w' (by omega)) ?_
        intro A2 c2
        have l1 := dg_big6 (num_lt ((s).extract 0 j))
        have l2 := dg_big6 (num_lt ((s).extract (j + 1) (s).size))
        have ca := num_cases ((s).extract 0 j)
        have cb := num_cases ((s).extract (j + 1) (s).size)
        have ea2 : ab (pre s) = ((s).extract 0 j) := by rw [hP]; exact ea
        have eb2 : lo (pre s) = ((s).extract (j + 1) (s).size) := by rw [hP]; exact eb
        have hr : R = if okS (ab (pre s)) (lo (pre s)) = true then if (fits (ab (pre s)) && fits (lo (pre s))) = true then if (textE (rdF s)).1 = s then (rdF s, 0) else (zeroF, 11) else (zeroF, 3) else (zeroF, 10) := eR
        have hrd : rdF s = (fitF (ng s) (dval (ab (pre s)).data.toList) (dval (lo (pre s)).data.toList)).1 := rfl
        rw [ea2, eb2] at hr hrd
        rw [hng] at hrd
        clear ea2 eb2 ea eb
        have hs0 : dB ((s).extract 0 j) = true → 0 < s.size := fun h => by
          rcases Nat.eq_zero_or_pos s.size with h0 | h0
          · have h9 : (((s).extract 0 j)).size = 0 := by omega
            have h8 : ((s).extract 0 j) = ⟨#[]⟩ := ba_eq.2 (List.eq_nil_of_length_eq_zero h9)
            rw [h8] at h
            cases h
          · exact h0
        have hno := num_ok (a := ((s).extract 0 j)) (b := ((s).extract (j + 1) (s).size))
        repeat' ((conv => whnf); first | refine walk (Tryz.ok ..) ?_ | (refine Cnd.mk (fun h => ?_) (fun h => ?_) <;> (first | exact cndT h (by (try dsimp only); omega) | exact cndF h (by (try dsimp only); omega) | (exfalso; simp at h; omega) | simp at h | skip)) | refine side2 ?_ | fail)
        · rcases hno with ⟨_, hok⟩ | ⟨hn, _⟩
          · rw [show R = (zeroF, 10) by rw [hr, hok]; rfl]
            skip
            exact done_pure rfl rfl rfl
          · exact absurd h hn
        · rename_i hq
          rcases hno with ⟨ht, _⟩ | ⟨_, hok, ⟨_, hf⟩ | ⟨hn, _⟩⟩
          · exact absurd ht (fun x => x.elim (fun y => y.elim hq.1.1 hq.1.2) (fun y => hq.2 y.1 y.2))
          · rw [show R = (zeroF, 3) by rw [hr, hok, if_pos rfl, hf]; rfl]
            skip
            exact done_pure rfl rfl rfl
          · exact absurd h hn
        · rename_i hq
          rcases hno with ⟨ht, _⟩ | ⟨_, hok, ⟨ho, _⟩ | ⟨_, hf, da, v1, v2, v0⟩⟩
          · exact absurd ht (fun x => x.elim (fun y => y.elim hq.1.1 hq.1.2) (fun y => hq.2 y.1 y.2))
          · exact absurd ho (fun x => x.elim h.1 h.2)
          · have hs1 := hs0 da
            rw [hok, if_pos rfl, hf, if_pos rfl] at hr
            have hv2 : 0 < numV ((s).extract (j + 1) (s).size) := by omega
            rw [← v1, ← v2] at hrd
            obtain ⟨F, eF⟩ : ∃ F, F = rdF s := ⟨_, rfl⟩
            rw [← eF] at hr hrd hbig
            obtain ⟨e0, he0⟩ : ∃ e, e = (fitF false (numV ((s).extract 0 j)) (numV ((s).extract (j + 1) (s).size))).2 := ⟨_, rfl⟩
            have h17 := frC_len F
            skip
            refine called_args [.v (.bool false), .o 50 A1 (dg b6 (numV ((s).extract 0 j))).length c1, .o 55 A2 (dg b6 (numV ((s).extract (j + 1) (s).size))).length c2] (congrArg (fun x => [Value.bool x, _, _]) (by show (bt s 0 == 45) = false; exact hnb hs1)) ?_
            refine called_at (.t [.a (frC F), .v (.int .i64 e0)]) rfl (fun w' hh => by
              rw [hrd, he0]
              exact rmake_any false (numV ((s).extract 0 j)) (numV ((s).extract (j + 1) (s).size)) A1 A2 c1 c2 w' (ro_of_row hh (id := 50) rfl) (ro_of_row hh (id := 55) rfl) (by omega) (by omega) (row_cap6 hh (id := 50) rfl) (row_cap6 hh (id := 55) rfl) hv2) ?_
            skip
            (conv => whnf)
            intro g12 hg12
            repeat' ((conv => whnf); first | refine walk (Tryz.ok ..) ?_ | refine side2 ?_ | fail)
            obtain ⟨T, hT⟩ : ∃ T, T = (textE F).1 := ⟨_, rfl⟩
            obtain ⟨te, hte⟩ : ∃ T, T = (textE F).2 := ⟨_, rfl⟩
            rw [← hT] at hr
            refine called_args [.a (frC F)] (congrArg (fun l => [(SV.a l).real]) (tk1 F)) ?_
            refine called_at (.t [.v (.string T), .v (.int .i64 te)]) rfl (fun w' hh => by rw [hT, hte]; exact rtext_any F w' hbig) ?_
            repeat' ((conv => whnf); first | refine walk (Tryz.ok ..) ?_ | (refine Cnd.mk (fun h => ?_) (fun h => ?_) <;> (first | exact cndT h (by (try dsimp only); omega) | exact cndF h (by (try dsimp only); omega) | (exfalso; simp at h; omega) | simp at h | skip)) | refine side2 ?_ | fail)
            · rw [if_neg h] at hr
              rw [hr]
              skip
              exact done_pure rfl rfl rfl
            · rw [if_pos h] at hr
              rw [hr]
              skip
              exact done_pure rfl rfl (congrArg (fun l => (SV.t [.a l, .v (.int .i64 0)]).real) (tk2 F))
    obtain ⟨i, rfl⟩ : ∃ i, n = i + 1 := ⟨n - 1, by omega⟩
    dsimp only
    rw [show (((i + 1 : Nat) : Int) - 1) = (i : Int) by omega]
    obtain ⟨b, hb⟩ : ∃ b, l[i]? = some b := ⟨_, List.getElem?_eq_getElem (show i < l.length by omega)⟩
    have hbt := bt_at (s := s) (k := i) (b := b) (by rw [← el]; exact hb)
    have hsl := sl_at hb
    have hsr := sl_lt l (i + 1) (by omega)
    by_cases h47 : b = 47
    · rw [if_pos h47] at hsl
      have e1 : bt s i = 47 := by rw [hbt, h47]; rfl
      repeat' ((conv => whnf); first | refine walk (Tryz.ok ..) ?_ | (refine Cnd.mk (fun h => ?_) (fun h => ?_) <;> (first | exact cndT h (by (try dsimp only); omega) | exact cndF h (by (try dsimp only); omega) | (exfalso; simp at h; omega) | simp at h | skip)) | refine side2 ?_ | refine sideL2 ?_ | fail)
      refine ⟨i, ⟨by omega, by omega⟩, ?_, ?_, rfl⟩
      · dsimp only
        rw [hsl]
        ((repeat' (first | exact trivial | exact rfl | refine And.intro ?_ ?_)) <;> (try (conv => whnf)) <;> (try simp only [SV.real, SV.r2, SV.r1]))
      · ((repeat' (first | exact trivial | exact rfl | refine And.intro ?_ ?_)) <;> (try (conv => whnf)) <;> (try simp only [SV.real, SV.r2, SV.r1]))
    · rw [if_neg h47] at hsl
      have e1 : bt s i ≠ 47 := fun e => h47 (UInt8.toNat_inj.1 (show b.toNat = 47 by omega))
      repeat' ((conv => whnf); first | refine walk (Tryz.ok ..) ?_ | (refine Cnd.mk (fun h => ?_) (fun h => ?_) <;> (first | exact cndT h (by (try dsimp only); omega) | exact cndF h (by (try dsimp only); omega) | (exfalso; simp at h; omega) | simp at h | skip)) | refine side2 ?_ | refine sideL2 ?_ | fail)
      refine ⟨i, ⟨by omega, by omega⟩, ?_, ?_, rfl⟩
      · dsimp only
        rw [hsl]
        ((repeat' (first | exact trivial | exact rfl | refine And.intro ?_ ?_)) <;> (try (conv => whnf)) <;> (try simp only [SV.real, SV.r2, SV.r1]))
      · ((repeat' (first | exact trivial | exact rfl | refine And.intro ?_ ?_)) <;> (try (conv => whnf)) <;> (try simp only [SV.real, SV.r2, SV.r1]))
  · have hP := pre_yes hng
    have hps := hasP.1 hng
    have hs0' := hps.1
    have e45 := hps.2
    have hPl := ext_len s 1 s.size
    have hnb : 0 < s.size → (bt s 0 == 45) = true := fun _ => by rw [e45]; rfl
    repeat' ((conv => whnf); first | refine walk (Tryz.ok ..) ?_ | (refine Cnd.mk (fun h => ?_) (fun h => ?_) <;> (first | exact cndT h (by (try dsimp only); omega) | exact cndF h (by (try dsimp only); omega) | (exfalso; simp at h; omega) | simp at h | skip)) | refine side2 ?_ | refine sideL2 ?_ | fail)
    obtain ⟨P, eP⟩ : ∃ P, P = s.extract (Int.toNat 1) (Int.toNat (s.size : Int)) := ⟨_, rfl⟩
    rw [← eP]
    have hP : pre s = P := hP.trans eP.symm
    have hPl : P.size ≤ s.size := by rw [eP]; exact hPl
    clear eP
    have hsz : (P).data.toList.length = (P).size := by simp
    obtain ⟨l, el⟩ : ∃ l, l = (P).data.toList := ⟨_, rfl⟩
    rw [← el] at hsz
    refine sat_loop (Tryz.ok ..) (α := Nat) (fun n => ([(0, .yes, .v (.string s)), (2, .yes, .p 2 g2 0 0), (4, .yes, .v (.string P)), (5, .yes, .v (.int .i64 (sl l n))), (6, .yes, .v (.int .i64 ((n : Int) - 1)))], [(2, .blk g2 37 (frC zeroF))])) (fun n => n ≤ (P).size) (fun n => n) (fun _ => rfl) ?_ ?_
    · refine ⟨(P).size, Nat.le_refl _, ?_, ?_, rfl⟩
      · dsimp only
        rw [← hsz, sl_end]
        ((repeat' (first | exact trivial | exact rfl | refine And.intro ?_ ?_)) <;> (try (conv => whnf)) <;> (try simp only [SV.real, SV.r2, SV.r1]))
      · ((repeat' (first | exact trivial | exact rfl | refine And.intro ?_ ?_)) <;> (try (conv => whnf)) <;> (try simp only [SV.real, SV.r2, SV.r1]))
    intro n hn
    by_cases hn0 : n = 0
    · subst hn0
      have hlt := sl_lt l 0 (Nat.zero_le _)
      by_cases hneg : sl l 0 = -1
      · obtain ⟨ea, _, eb⟩ := cut_no (s := P) (by rw [← el]; exact hneg)
        rw [hneg]
        repeat' ((conv => whnf); first | refine walk (Tryz.ok ..) ?_ | (refine Cnd.mk (fun h => ?_) (fun h => ?_) <;> (first | exact cndT h (by (try dsimp only); omega) | exact cndF h (by (try dsimp only); omega) | (exfalso; simp at h; omega) | simp at h | skip)) | fail)
        refine called_row 50 (xs := iv (dg b6 (numV P))) (m := (dg b6 (numV P)).length) (fun v => .tuple #[v, .int .i64 (numC P)]) (fun A cap => .t [.o 50 A (dg b6 (numV P)).length cap, .v (.int .i64 (numC P))]) (fun _ _ => rfl) (fun w' hh => by exact rnumber_all P w' (by omega)) ?_
        intro A1 c1
        repeat' ((conv => whnf); first | refine walk (Tryz.ok ..) ?_ | fail)
        refine called_row 55 (xs := iv (dg b6 (numV (⟨#[49]⟩ : ByteArray)))) (m := (dg b6 (numV (⟨#[49]⟩ : ByteArray))).length) (fun v => .tuple #[v, .int .i64 (numC (⟨#[49]⟩ : ByteArray))]) (fun A cap => .t [.o 55 A (dg b6 (numV (⟨#[49]⟩ : ByteArray))).length cap, .v (.int .i64 (numC (⟨#[49]⟩ : ByteArray)))]) (fun _ _ => rfl) (fun w' hh => by exact rnumber_all (⟨#[49]⟩ : ByteArray) w' (by decide)) ?_
        intro A2 c2
        have l1 := dg_big6 (num_lt P)
        have l2 := dg_big6 (num_lt (⟨#[49]⟩ : ByteArray))
        have ca := num_cases P
        have cb := num_cases (⟨#[49]⟩ : ByteArray)
        have ea2 : ab (pre s) = P := by rw [hP]; exact ea
        have eb2 : lo (pre s) = (⟨#[49]⟩ : ByteArray) := by rw [hP]; exact eb
        have hr : R = if okS (ab (pre s)) (lo (pre s)) = true then if (fits (ab (pre s)) && fits (lo (pre s))) = true then if (textE (rdF s)).1 = s then (rdF s, 0) else (zeroF, 11) else (zeroF, 3) else (zeroF, 10) := eR
        have hrd : rdF s = (fitF (ng s) (dval (ab (pre s)).data.toList) (dval (lo (pre s)).data.toList)).1 := rfl
        rw [ea2, eb2] at hr hrd
        rw [hng] at hrd
        clear ea2 eb2 ea eb
        have hs0 : dB P = true → 0 < s.size := fun h => by
          rcases Nat.eq_zero_or_pos s.size with h0 | h0
          · have h9 : (P).size = 0 := by omega
            have h8 : P = ⟨#[]⟩ := ba_eq.2 (List.eq_nil_of_length_eq_zero h9)
            rw [h8] at h
            cases h
          · exact h0
        have hno := num_ok (a := P) (b := (⟨#[49]⟩ : ByteArray))
        repeat' ((conv => whnf); first | refine walk (Tryz.ok ..) ?_ | (refine Cnd.mk (fun h => ?_) (fun h => ?_) <;> (first | exact cndT h (by (try dsimp only); omega) | exact cndF h (by (try dsimp only); omega) | (exfalso; simp at h; omega) | simp at h | skip)) | refine side2 ?_ | fail)
        · rcases hno with ⟨_, hok⟩ | ⟨hn, _⟩
          · rw [show R = (zeroF, 10) by rw [hr, hok]; rfl]
            skip
            exact done_pure rfl rfl rfl
          · exact absurd h hn
        · rename_i hq
          rcases hno with ⟨ht, _⟩ | ⟨_, hok, ⟨_, hf⟩ | ⟨hn, _⟩⟩
          · exact absurd ht (fun x => x.elim (fun y => y.elim hq.1.1 hq.1.2) (fun y => hq.2 y.1 y.2))
          · rw [show R = (zeroF, 3) by rw [hr, hok, if_pos rfl, hf]; rfl]
            skip
            exact done_pure rfl rfl rfl
          · exact absurd h hn
        · rename_i hq
          rcases hno with ⟨ht, _⟩ | ⟨_, hok, ⟨ho, _⟩ | ⟨_, hf, da, v1, v2, v0⟩⟩
          · exact absurd ht (fun x => x.elim (fun y => y.elim hq.1.1 hq.1.2) (fun y => hq.2 y.1 y.2))
          · exact absurd ho (fun x => x.elim h.1 h.2)
          · have hs1 := hs0 da
            rw [hok, if_pos rfl, hf, if_pos rfl] at hr
            have hv2 : 0 < numV (⟨#[49]⟩ : ByteArray) := by omega
            rw [← v1, ← v2] at hrd
            obtain ⟨F, eF⟩ : ∃ F, F = rdF s := ⟨_, rfl⟩
            rw [← eF] at hr hrd hbig
            obtain ⟨e0, he0⟩ : ∃ e, e = (fitF true (numV P) (numV (⟨#[49]⟩ : ByteArray))).2 := ⟨_, rfl⟩
            have h17 := frC_len F
            skip
            refine called_args [.v (.bool true), .o 50 A1 (dg b6 (numV P)).length c1, .o 55 A2 (dg b6 (numV (⟨#[49]⟩ : ByteArray))).length c2] (congrArg (fun x => [Value.bool x, _, _]) (by show (bt s 0 == 45) = true; exact hnb hs1)) ?_
            refine called_at (.t [.a (frC F), .v (.int .i64 e0)]) rfl (fun w' hh => by
              rw [hrd, he0]
              exact rmake_any true (numV P) (numV (⟨#[49]⟩ : ByteArray)) A1 A2 c1 c2 w' (ro_of_row hh (id := 50) rfl) (ro_of_row hh (id := 55) rfl) (by omega) (by omega) (row_cap6 hh (id := 50) rfl) (row_cap6 hh (id := 55) rfl) hv2) ?_
            skip
            (conv => whnf)
            intro g12 hg12
            repeat' ((conv => whnf); first | refine walk (Tryz.ok ..) ?_ | refine side2 ?_ | fail)
            obtain ⟨T, hT⟩ : ∃ T, T = (textE F).1 := ⟨_, rfl⟩
            obtain ⟨te, hte⟩ : ∃ T, T = (textE F).2 := ⟨_, rfl⟩
            rw [← hT] at hr
            refine called_args [.a (frC F)] (congrArg (fun l => [(SV.a l).real]) (tk1 F)) ?_
            refine called_at (.t [.v (.string T), .v (.int .i64 te)]) rfl (fun w' hh => by rw [hT, hte]; exact rtext_any F w' hbig) ?_
            repeat' ((conv => whnf); first | refine walk (Tryz.ok ..) ?_ | (refine Cnd.mk (fun h => ?_) (fun h => ?_) <;> (first | exact cndT h (by (try dsimp only); omega) | exact cndF h (by (try dsimp only); omega) | (exfalso; simp at h; omega) | simp at h | skip)) | refine side2 ?_ | fail)
            · rw [if_neg h] at hr
              rw [hr]
              skip
              exact done_pure rfl rfl rfl
            · rw [if_pos h] at hr
              rw [hr]
              skip
              exact done_pure rfl rfl (congrArg (fun l => (SV.t [.a l, .v (.int .i64 0)]).real) (tk2 F))
      · obtain ⟨j, ej⟩ : ∃ j : Nat, sl l 0 = j := ⟨(sl l 0).toNat, by omega⟩
        obtain ⟨ea, _, eb⟩ := cut_yes (s := P) (j := j) (by rw [← el]; exact ej)
        rw [ej] at hlt ⊢
        have l3 := ext_len P 0 j
        have l4 := ext_len P (j + 1) (P).size
        repeat' ((conv => whnf); first | refine walk (Tryz.ok ..) ?_ | (refine Cnd.mk (fun h => ?_) (fun h => ?_) <;> (first | exact cndT h (by (try dsimp only); omega) | exact cndF h (by (try dsimp only); omega) | (exfalso; simp at h; omega) | simp at h | skip)) | refine side2 ?_ | refine sideL2 ?_ | fail)
        refine called_row 50 (xs := iv (dg b6 (numV ((P).extract 0 j)))) (m := (dg b6 (numV ((P).extract 0 j))).length) (fun v => .tuple #[v, .int .i64 (numC ((P).extract 0 j))]) (fun A cap => .t [.o 50 A (dg b6 (numV ((P).extract 0 j))).length cap, .v (.int .i64 (numC ((P).extract 0 j)))]) (fun _ _ => rfl) (fun w' hh => by exact rnumber_all ((P).extract 0 j) w' (by omega)) ?_
        intro A1 c1
        repeat' ((conv => whnf); first | refine walk (Tryz.ok ..) ?_ | fail)
        refine called_row 55 (xs := iv (dg b6 (numV ((P).extract (j + 1) (P).size)))) (m := (dg b6 (numV ((P).extract (j + 1) (P).size))).length) (fun v => .tuple #[v, .int .i64 (numC ((P).extract (j + 1) (P).size))]) (fun A cap => .t [.o 55 A (dg b6 (numV ((P).extract (j + 1) (P).size))).length cap, .v (.int .i64 (numC ((P).extract (j + 1) (P).size)))]) (fun _ _ => rfl) (fun w' hh => by exact rnumber_all ((P).extract (j + 1) (P).size) w' (by omega)) ?_
        intro A2 c2
        have l1 := dg_big6 (num_lt ((P).extract 0 j))
        have l2 := dg_big6 (num_lt ((P).extract (j + 1) (P).size))
        have ca := num_cases ((P).extract 0 j)
        have cb := num_cases ((P).extract (j + 1) (P).size)
        have ea2 : ab (pre s) = ((P).extract 0 j) := by rw [hP]; exact ea
        have eb2 : lo (pre s) = ((P).extract (j + 1) (P).size) := by rw [hP]; exact eb
        have hr : R = if okS (ab (pre s)) (lo (pre s)) = true then if (fits (ab (pre s)) && fits (lo (pre s))) = true then if (textE (rdF s)).1 = s then (rdF s, 0) else (zeroF, 11) else (zeroF, 3) else (zeroF, 10) := eR
        have hrd : rdF s = (fitF (ng s) (dval (ab (pre s)).data.toList) (dval (lo (pre s)).data.toList)).1 := rfl
        rw [ea2, eb2] at hr hrd
        rw [hng] at hrd
        clear ea2 eb2 ea eb
        have hs0 : dB ((P).extract 0 j) = true → 0 < s.size := fun h => by
          rcases Nat.eq_zero_or_pos s.size with h0 | h0
          · have h9 : (((P).extract 0 j)).size = 0 := by omega
            have h8 : ((P).extract 0 j) = ⟨#[]⟩ := ba_eq.2 (List.eq_nil_of_length_eq_zero h9)
            rw [h8] at h
            cases h
          · exact h0
        have hno := num_ok (a := ((P).extract 0 j)) (b := ((P).extract (j + 1) (P).size))
        repeat' ((conv => whnf); first | refine walk (Tryz.ok ..) ?_ | (refine Cnd.mk (fun h => ?_) (fun h => ?_) <;> (first | exact cndT h (by (try dsimp only); omega) | exact cndF h (by (try dsimp only); omega) | (exfalso; simp at h; omega) | simp at h | skip)) | refine side2 ?_ | fail)
        · rcases hno with ⟨_, hok⟩ | ⟨hn, _⟩
          · rw [show R = (zeroF, 10) by rw [hr, hok]; rfl]
            skip
            exact done_pure rfl rfl rfl
          · exact absurd h hn
        · rename_i hq
          rcases hno with ⟨ht, _⟩ | ⟨_, hok, ⟨_, hf⟩ | ⟨hn, _⟩⟩
          · exact absurd ht (fun x => x.elim (fun y => y.elim hq.1.1 hq.1.2) (fun y => hq.2 y.1 y.2))
          · rw [show R = (zeroF, 3) by rw [hr, hok, if_pos rfl, hf]; rfl]
            skip
            exact done_pure rfl rfl rfl
          · exact absurd h hn
        · rename_i hq
          rcases hno with ⟨ht, _⟩ | ⟨_, hok, ⟨ho, _⟩ | ⟨_, hf, da, v1, v2, v0⟩⟩
          · exact absurd ht (fun x => x.elim (fun y => y.elim hq.1.1 hq.1.2) (fun y => hq.2 y.1 y.2))
          · exact absurd ho (fun x => x.elim h.1 h.2)
          · have hs1 := hs0 da
            rw [hok, if_pos rfl, hf, if_pos rfl] at hr
            have hv2 : 0 < numV ((P).extract (j + 1) (P).size) := by omega
            rw [← v1, ← v2] at hrd
            obtain ⟨F, eF⟩ : ∃ F, F = rdF s := ⟨_, rfl⟩
            rw [← eF] at hr hrd hbig
            obtain ⟨e0, he0⟩ : ∃ e, e = (fitF true (numV ((P).extract 0 j)) (numV ((P).extract (j + 1) (P).size))).2 := ⟨_, rfl⟩
            have h17 := frC_len F
            skip
            refine called_args [.v (.bool true), .o 50 A1 (dg b6 (numV ((P).extract 0 j))).length c1, .o 55 A2 (dg b6 (numV ((P).extract (j + 1) (P).size))).length c2] (congrArg (fun x => [Value.bool x, _, _]) (by show (bt s 0 == 45) = true; exact hnb hs1)) ?_
            refine called_at (.t [.a (frC F), .v (.int .i64 e0)]) rfl (fun w' hh => by
              rw [hrd, he0]
              exact rmake_any true (numV ((P).extract 0 j)) (numV ((P).extract (j + 1) (P).size)) A1 A2 c1 c2 w' (ro_of_row hh (id := 50) rfl) (ro_of_row hh (id := 55) rfl) (by omega) (by omega) (row_cap6 hh (id := 50) rfl) (row_cap6 hh (id := 55) rfl) hv2) ?_
            skip
            (conv => whnf)
            intro g12 hg12
            repeat' ((conv => whnf); first | refine walk (Tryz.ok ..) ?_ | refine side2 ?_ | fail)
            obtain ⟨T, hT⟩ : ∃ T, T = (textE F).1 := ⟨_, rfl⟩
            obtain ⟨te, hte⟩ : ∃ T, T = (textE F).2 := ⟨_, rfl⟩
            rw [← hT] at hr
            refine called_args [.a (frC F)] (congrArg (fun l => [(SV.a l).real]) (tk1 F)) ?_
            refine called_at (.t [.v (.string T), .v (.int .i64 te)]) rfl (fun w' hh => by rw [hT, hte]; exact rtext_any F w' hbig) ?_
            repeat' ((conv => whnf); first | refine walk (Tryz.ok ..) ?_ | (refine Cnd.mk (fun h => ?_) (fun h => ?_) <;> (first | exact cndT h (by (try dsimp only); omega) | exact cndF h (by (try dsimp only); omega) | (exfalso; simp at h; omega) | simp at h | skip)) | refine side2 ?_ | fail)
            · rw [if_neg h] at hr
              rw [hr]
              skip
              exact done_pure rfl rfl rfl
            · rw [if_pos h] at hr
              rw [hr]
              skip
              exact done_pure rfl rfl (congrArg (fun l => (SV.t [.a l, .v (.int .i64 0)]).real) (tk2 F))
    obtain ⟨i, rfl⟩ : ∃ i, n = i + 1 := ⟨n - 1, by omega⟩
    dsimp only
    rw [show (((i + 1 : Nat) : Int) - 1) = (i : Int) by omega]
    obtain ⟨b, hb⟩ : ∃ b, l[i]? = some b := ⟨_, List.getElem?_eq_getElem (show i < l.length by omega)⟩
    have hbt := bt_at (s := P) (k := i) (b := b) (by rw [← el]; exact hb)
    have hsl := sl_at hb
    have hsr := sl_lt l (i + 1) (by omega)
    by_cases h47 : b = 47
    · rw [if_pos h47] at hsl
      have e1 : bt P i = 47 := by rw [hbt, h47]; rfl
      repeat' ((conv => whnf); first | refine walk (Tryz.ok ..) ?_ | (refine Cnd.mk (fun h => ?_) (fun h => ?_) <;> (first | exact cndT h (by (try dsimp only); omega) | exact cndF h (by (try dsimp only); omega) | (exfalso; simp at h; omega) | simp at h | skip)) | refine side2 ?_ | refine sideL2 ?_ | fail)
      refine ⟨i, ⟨by omega, by omega⟩, ?_, ?_, rfl⟩
      · dsimp only
        rw [hsl]
        ((repeat' (first | exact trivial | exact rfl | refine And.intro ?_ ?_)) <;> (try (conv => whnf)) <;> (try simp only [SV.real, SV.r2, SV.r1]))
      · ((repeat' (first | exact trivial | exact rfl | refine And.intro ?_ ?_)) <;> (try (conv => whnf)) <;> (try simp only [SV.real, SV.r2, SV.r1]))
    · rw [if_neg h47] at hsl
      have e1 : bt P i ≠ 47 := fun e => h47 (UInt8.toNat_inj.1 (show b.toNat = 47 by omega))
      repeat' ((conv => whnf); first | refine walk (Tryz.ok ..) ?_ | (refine Cnd.mk (fun h => ?_) (fun h => ?_) <;> (first | exact cndT h (by (try dsimp only); omega) | exact cndF h (by (try dsimp only); omega) | (exfalso; simp at h; omega) | simp at h | skip)) | refine side2 ?_ | refine sideL2 ?_ | fail)
      refine ⟨i, ⟨by omega, by omega⟩, ?_, ?_, rfl⟩
      · dsimp only
        rw [hsl]
        ((repeat' (first | exact trivial | exact rfl | refine And.intro ?_ ?_)) <;> (try (conv => whnf)) <;> (try simp only [SV.real, SV.r2, SV.r1]))
      · ((repeat' (first | exact trivial | exact rfl | refine And.intro ?_ ?_)) <;> (try (conv => whnf)) <;> (try simp only [SV.real, SV.r2, SV.r1]))
end Go.Proofs.YtmekcdjaafegaaaGreatDoor
