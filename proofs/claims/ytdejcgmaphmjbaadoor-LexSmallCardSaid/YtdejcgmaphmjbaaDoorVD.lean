/-
  The walk of the law's reads, and of LexReads.
-/
import Derived.Test.YtdejcgmaphmjbaaDoorVB
import Derived.Test.YtdejcgmaphmjbaaDoorVC
import Derived.Test.YtdejcgmaphmjbaaDoorWA
set_option linter.unusedSimpArgs false
set_option linter.unusedVariables false
namespace Go.Proofs.YtdejcgmaphmjbaaDoor
open Go Sat Go.RowKit Go.PlainAid
theorem read_few {t : List UInt8} {a : Ans} (h : readE t = a) : a.1.length ≤ 5000 := by
  obtain ⟨l, p, q⟩ := a
  unfold readE at h
  split at h
  · cases h; exact Nat.zero_le _
  · by_cases hq : q = 0
    · subst hq
      exact (again h).few
    · rw [(wrong h hq).nil]
      exact Nat.zero_le _
theorem frz_any' {cx : Cx} {H : Heap} {w w0 : World} (d : Nat) {gs : List Nat} {v : Value} {l : List Segm} (h : NL w0 (fun g => g ∈ gs) v l) (hw : Holds cx H w) (hf : hfind H d = some (.own gs (Frz w0 gs))) : NLA w (fun _ => True) v l := nl_arg (frz_any d h hw hf)
set_option maxRecDepth 100000 in
set_option maxHeartbeats 16000000 in
theorem reads_any (s : ByteArray) (w : World) : Calls Tryd.prog 5 #[.string s] w fun e w' => e = .returned (.bool true) ∧ Below w.heap.size w w' := by
  refine calls_sat (cx := Tryd.cx 101 [] [] [] w) (Tryd.ok ..) Tryd.func5 rfl [.v (.string s)] rfl (by show 1 ≤ 101; omega) [] (holds_nil (Nat.le_refl _)) ?_
  obtain ⟨a, ha⟩ : ∃ a, readE s.data.toList = a := ⟨_, rfl⟩
  have hfew := read_few ha
  repeat' ((conv => whnf); first | refine walk (Tryd.ok ..) ?_ | (refine Cnd.mk (fun h => ?_) (fun h => ?_) <;> (first | exact cndT h (by (try dsimp only); omega) | exact cndF h (by (try dsimp only); omega) | (exfalso; simp at h; omega) | simp at h | skip)) | refine kp ?_ ?_ | refine tw ?_ ?_ | refine appnil rfl ?_ | refine rawnil rfl ?_ | exact trivial | refine side2 ?_ | refine sideL2 ?_ | refine Or.inr ?_ | refine sat_drawH (Tryd.ok ..) (by kernel_rfl) ?_ | refine xi _ (And.intro rfl rfl) ?_ | refine xi _ (fun _ => And.intro rfl rfl) ?_ | refine xi _ rfl ?_)
  (conv => whnf)
  refine called_nest 900 (mk := fun v => .tuple #[v, .int .i64 a.2.1, .int .i64 a.2.2]) (Q := fun w B v => NL w B v a.1) (fun v => .t [.v v, .v (.int .i64 a.2.1), .v (.int .i64 a.2.2)]) (fun _ => rfl) (fun w' _ => by exact read_lit (s := s) ha w') ?_
  intro w1 gs1 v1 h1
  repeat' ((conv => whnf); first | refine walk (Tryd.ok ..) ?_ | (refine Cnd.mk (fun h => ?_) (fun h => ?_) <;> (first | exact cndT h (by (try dsimp only); omega) | exact cndF h (by (try dsimp only); omega) | (exfalso; simp at h; omega) | simp at h | skip)) | refine kp ?_ ?_ | refine tw ?_ ?_ | refine appnil rfl ?_ | refine rawnil rfl ?_ | exact trivial | refine side2 ?_ | refine sideL2 ?_ | refine Or.inr ?_ | refine sat_drawH (Tryd.ok ..) (by kernel_rfl) ?_ | refine xi _ (And.intro rfl rfl) ?_ | refine xi _ (fun _ => And.intro rfl rfl) ?_ | refine xi _ rfl ?_)
  (conv => whnf)
  refine called_nest 901 (mk := fun v => .tuple #[v, .int .i64 a.2.1, .int .i64 a.2.2]) (Q := fun w B v => NL w B v a.1) (fun v => .t [.v v, .v (.int .i64 a.2.1), .v (.int .i64 a.2.2)]) (fun _ => rfl) (fun w' _ => by exact rRead_any s a ha w') ?_
  intro w2 gs2 v2 h2
  obtain ⟨A2, c2, ys, rfl, hc2, hro2, hB2, hy2⟩ := h2
  have hyl : ys.length = a.1.length := by rw [hro2.1, Nat.mul_one]
  repeat' ((conv => whnf); first | refine walk (Tryd.ok ..) ?_ | (refine Cnd.mk (fun h => ?_) (fun h => ?_) <;> (first | exact cndT h (by (try dsimp only); omega) | exact cndF h (by (try dsimp only); omega) | (exfalso; simp at h; omega) | simp at h | skip)) | refine kp ?_ ?_ | refine tw ?_ ?_ | refine appnil rfl ?_ | refine rawnil rfl ?_ | exact trivial | refine side2 ?_ | refine sideL2 ?_ | refine Or.inr ?_ | refine sat_drawH (Tryd.ok ..) (by kernel_rfl) ?_ | refine xi _ (And.intro rfl rfl) ?_ | refine xi _ (fun _ => And.intro rfl rfl) ?_ | refine xi _ rfl ?_)
  refine sat_loop (Tryd.ok ..) (α := Nat × Option (Nat × Nat) × Nat) (fun t => ([(0, .yes, .v (.string s)), (3, .yes, .v v1), (4, .yes, .v (.int .i64 a.2.1)), (5, .yes, .v (.int .i64 a.2.2)), (6, .yes, .v (.slice (adr A2) a.1.length c2)), (7, .yes, .v (.int .i64 a.2.1)), (8, .yes, .v (.int .i64 a.2.2)), (9, .yes, .o 41 t.2.1 t.1 t.2.2), (10, .yes, .v (.int .i64 t.1))], [(900, .own gs1 (Frz w1 gs1)), (901, .own gs2 (Frz w2 gs2)), (41, .row t.2.1 28 1 t.1 t.2.2 (ys.take t.1))]))
    (fun t => t.1 ≤ a.1.length) (fun t => a.1.length - t.1) (fun _ => rfl) ?_ ?_
  · refine ⟨(0, none, 0), Nat.zero_le _, ?_, ?_, rfl⟩
    all_goals ((repeat' (first | exact trivial | exact rfl | refine And.intro ?_ ?_)) <;> (try (conv => whnf)) <;> (try simp only [SV.real, SV.r2, SV.r1]))
  rintro ⟨k, A9, c9⟩ hk
  dsimp only at hk ⊢
  by_cases hk1 : k < a.1.length
  · obtain ⟨sg, hsg⟩ : ∃ s, a.1[k]? = some s := ⟨_, List.getElem?_eq_getElem hk1⟩
    obtain ⟨y, hy, B1, cb1, zs1, rfl, -⟩ := nest_at hy2 hro2.1 hsg
    obtain ⟨p, rfl, _⟩ := hro2.some_ (by omega)
    have htk : ys.take (k + 1) = ys.take k ++ [.slice (adr B1) sg.length cb1] := by rw [List.take_add_one, hy]; rfl
    repeat' ((conv => whnf); first | refine walk (Tryd.ok ..) ?_ | (refine Cnd.mk (fun h => ?_) (fun h => ?_) <;> (first | exact cndT h (by (try dsimp only); omega) | exact cndF h (by (try dsimp only); omega) | (exfalso; simp at h; omega) | simp at h | skip)) | refine kp ?_ ?_ | refine tw ?_ ?_ | refine appnil rfl ?_ | refine rawnil rfl ?_ | exact trivial | refine side2 ?_ | refine sideL2 ?_ | refine Or.inr ?_ | refine sat_drawH (Tryd.ok ..) (by kernel_rfl) ?_ | refine xi _ (And.intro rfl rfl) ?_ | refine xi _ (fun _ => And.intro rfl rfl) ?_ | refine xi _ rfl ?_ | refine xi _ (fun _ => (frz_at (d := 901) hro2 hB2 hy rfl rfl)) ?_ | refine xi _ (frz_at (d := 901) hro2 hB2 hy rfl rfl) ?_)
    (conv => whnf)
    intro g40 hg40
    repeat' ((conv => whnf); first | refine walk (Tryd.ok ..) ?_ | (refine Cnd.mk (fun h => ?_) (fun h => ?_) <;> (first | exact cndT h (by (try dsimp only); omega) | exact cndF h (by (try dsimp only); omega) | (exfalso; simp at h; omega) | simp at h | skip)) | refine kp ?_ ?_ | refine tw ?_ ?_ | refine appnil rfl ?_ | refine rawnil rfl ?_ | exact trivial | refine side2 ?_ | refine sideL2 ?_ | refine Or.inr ?_ | refine sat_drawH (Tryd.ok ..) (by kernel_rfl) ?_ | refine xi _ (And.intro rfl rfl) ?_ | refine xi _ (fun _ => And.intro rfl rfl) ?_ | refine xi _ rfl ?_)
    (conv => whnf)
    intro A41 c41
    repeat' ((conv => whnf); first | refine walk (Tryd.ok ..) ?_ | (refine Cnd.mk (fun h => ?_) (fun h => ?_) <;> (first | exact cndT h (by (try dsimp only); omega) | exact cndF h (by (try dsimp only); omega) | (exfalso; simp at h; omega) | simp at h | skip)) | refine kp ?_ ?_ | refine tw ?_ ?_ | refine appnil rfl ?_ | refine rawnil rfl ?_ | exact trivial | refine side2 ?_ | refine sideL2 ?_ | refine Or.inr ?_ | refine sat_drawH (Tryd.ok ..) (by kernel_rfl) ?_ | refine xi _ (And.intro rfl rfl) ?_ | refine xi _ (fun _ => And.intro rfl rfl) ?_ | refine xi _ rfl ?_)
    refine ⟨(k + 1, A41, c41), ⟨hk1, by omega⟩, ?_, ?_, rfl⟩
    all_goals ((repeat' (first | exact trivial | exact rfl | refine And.intro ?_ ?_)) <;> (try (conv => whnf)) <;> (try simp only [SV.real, SV.r2, SV.r1]))
    all_goals exact htk.symm
  obtain rfl : k = a.1.length := by omega
  rw [← hyl, List.take_length, hyl]
  repeat' ((conv => whnf); first | refine walk (Tryd.ok ..) ?_ | (refine Cnd.mk (fun h => ?_) (fun h => ?_) <;> (first | exact cndT h (by (try dsimp only); omega) | exact cndF h (by (try dsimp only); omega) | (exfalso; simp at h; omega) | simp at h | skip)) | refine kp ?_ ?_ | refine tw ?_ ?_ | refine appnil rfl ?_ | refine rawnil rfl ?_ | exact trivial | refine side2 ?_ | refine sideL2 ?_ | refine Or.inr ?_ | refine sat_drawH (Tryd.ok ..) (by kernel_rfl) ?_ | refine xi _ (And.intro rfl rfl) ?_ | refine xi _ (fun _ => And.intro rfl rfl) ?_ | refine xi _ rfl ?_)
  (conv => whnf)
  refine calledQ_at (.v (.bool (decide (a.1 = a.1)))) rfl (fun _ w' hh => by
    exact same_any a.1 a.1 _ _ w' (frz_any' 900 h1 hh rfl) ⟨adr A9, A9, c9, ys, rfl, AtN.refl _ _, row_caps hh (id := 41) rfl, ro_of_row hh (id := 41) rfl, fun _ _ _ => trivial, fun i x b hx hb => ns_arg (frz_nest ns_stays (hy2 i x b hx hb) (d := 901) rfl hh)⟩) ?_
  rw [decide_eq_true (rfl : a.1 = a.1)]
  repeat' ((conv => whnf); first | refine walk (Tryd.ok ..) ?_ | (refine Cnd.mk (fun h => ?_) (fun h => ?_) <;> (first | exact cndT h (by (try dsimp only); omega) | exact cndF h (by (try dsimp only); omega) | (exfalso; simp at h; omega) | simp at h | skip)) | refine kp ?_ ?_ | refine tw ?_ ?_ | refine appnil rfl ?_ | refine rawnil rfl ?_ | exact trivial | refine side2 ?_ | refine sideL2 ?_ | refine Or.inr ?_ | refine sat_drawH (Tryd.ok ..) (by kernel_rfl) ?_ | refine xi _ (And.intro rfl rfl) ?_ | refine xi _ (fun _ => And.intro rfl rfl) ?_ | refine xi _ rfl ?_)
  (conv => whnf)
  refine called_nest 902 (mk := fun v => .tuple #[v, .int .i64 a.2.1, .int .i64 a.2.2]) (Q := fun w B v => NL w B v a.1) (fun v => .t [.v v, .v (.int .i64 a.2.1), .v (.int .i64 a.2.2)]) (fun _ => rfl) (fun w' _ => by exact read_lit (s := s) ha w') ?_
  intro w3 gs3 v3 h3
  obtain ⟨A3, c3, zs, rfl, hc3, hro3, hB3, hz3⟩ := h3
  repeat' ((conv => whnf); first | refine walk (Tryd.ok ..) ?_ | (refine Cnd.mk (fun h => ?_) (fun h => ?_) <;> (first | exact cndT h (by (try dsimp only); omega) | exact cndF h (by (try dsimp only); omega) | (exfalso; simp at h; omega) | simp at h | skip)) | refine kp ?_ ?_ | refine tw ?_ ?_ | refine appnil rfl ?_ | refine rawnil rfl ?_ | exact trivial | refine side2 ?_ | refine sideL2 ?_ | refine Or.inr ?_ | refine sat_drawH (Tryd.ok ..) (by kernel_rfl) ?_ | refine xi _ (And.intro rfl rfl) ?_ | refine xi _ (fun _ => And.intro rfl rfl) ?_ | refine xi _ rfl ?_)
  refine sat_less 902 rfl ?_
  refine sat_loop (Tryd.ok ..) (α := Nat) (fun i => ([(0, .yes, .v (.string s)), (3, .yes, .v v1), (9, .yes, .o 41 A9 a.1.length c9), (11, .yes, .v (.slice (adr A3) a.1.length c3)), (14, .yes, .v (.int .i64 i))], [(900, .own gs1 (Frz w1 gs1)), (901, .own gs2 (Frz w2 gs2)), (41, .row A9 28 1 a.1.length c9 ys), (902, .own gs3 (StrMod w3 gs3))]))
    (fun i => i ≤ a.1.length) (fun i => a.1.length - i) (fun _ => rfl) ?_ ?_
  · refine ⟨0, Nat.zero_le _, ?_, ?_, rfl⟩
    all_goals ((repeat' (first | exact trivial | exact rfl | refine And.intro ?_ ?_)) <;> (try (conv => whnf)) <;> (try simp only [SV.real, SV.r2, SV.r1]))
  rintro i hi
  by_cases hi1 : i < a.1.length
  case neg =>
    obtain rfl : i = a.1.length := by omega
    repeat' ((conv => whnf); first | refine walk (Tryd.ok ..) ?_ | (refine Cnd.mk (fun h => ?_) (fun h => ?_) <;> (first | exact cndT h (by (try dsimp only); omega) | exact cndF h (by (try dsimp only); omega) | (exfalso; simp at h; omega) | simp at h | skip)) | refine kp ?_ ?_ | refine tw ?_ ?_ | refine appnil rfl ?_ | refine rawnil rfl ?_ | exact trivial | refine side2 ?_ | refine sideL2 ?_ | refine Or.inr ?_ | refine sat_drawH (Tryd.ok ..) (by kernel_rfl) ?_ | refine xi _ (And.intro rfl rfl) ?_ | refine xi _ (fun _ => And.intro rfl rfl) ?_ | refine xi _ rfl ?_)
    (conv => whnf)
    refine called_at (.v (.bool (decide (a.1 = a.1)))) rfl (fun w' hh => by
    exact same_any a.1 a.1 _ _ w' (frz_any' 900 h1 hh rfl) ⟨adr A9, A9, c9, ys, rfl, AtN.refl _ _, row_caps hh (id := 41) rfl, ro_of_row hh (id := 41) rfl, fun _ _ _ => trivial, fun i x b hx hb => ns_arg (frz_nest ns_stays (hy2 i x b hx hb) (d := 901) rfl hh)⟩) ?_
    rw [decide_eq_true (rfl : a.1 = a.1)]
    repeat' ((conv => whnf); first | refine walk (Tryd.ok ..) ?_ | (refine Cnd.mk (fun h => ?_) (fun h => ?_) <;> (first | exact cndT h (by (try dsimp only); omega) | exact cndF h (by (try dsimp only); omega) | (exfalso; simp at h; omega) | simp at h | skip)) | refine kp ?_ ?_ | refine tw ?_ ?_ | refine appnil rfl ?_ | refine rawnil rfl ?_ | exact trivial | refine side2 ?_ | refine sideL2 ?_ | refine Or.inr ?_ | refine sat_drawH (Tryd.ok ..) (by kernel_rfl) ?_ | refine xi _ (And.intro rfl rfl) ?_ | refine xi _ (fun _ => And.intro rfl rfl) ?_ | refine xi _ rfl ?_)
    exact done_pure rfl rfl rfl
  obtain ⟨sg, hsg⟩ : ∃ s, a.1[i]? = some s := ⟨_, List.getElem?_eq_getElem hi1⟩
  obtain ⟨x, hx, A4, c4, zs4, rfl, hc4, hro4, hB4, hz4⟩ := nest_at hz3 hro3.1 hsg
  obtain ⟨p, rfl, _⟩ := hro3.some_ (by omega)
  have hmax4 : sg.length ≤ 9223372036854775807 := Nat.le_trans (Nat.le_trans hc4.1 hc4.2) (by decide)
  repeat' ((conv => whnf); first | refine walk (Tryd.ok ..) ?_ | (refine Cnd.mk (fun h => ?_) (fun h => ?_) <;> (first | exact cndT h (by (try dsimp only); omega) | exact cndF h (by (try dsimp only); omega) | (exfalso; simp at h; omega) | simp at h | skip)) | refine kp ?_ ?_ | refine tw ?_ ?_ | refine appnil rfl ?_ | refine rawnil rfl ?_ | exact trivial | refine side2 ?_ | refine sideL2 ?_ | refine Or.inr ?_ | refine sat_drawH (Tryd.ok ..) (by kernel_rfl) ?_ | refine xi _ (And.intro rfl rfl) ?_ | refine xi _ (fun _ => And.intro rfl rfl) ?_ | refine xi _ rfl ?_)
  refine sat_loop (Tryd.ok ..) (α := Nat) (fun k => ([(0, .yes, .v (.string s)), (3, .yes, .v v1), (9, .yes, .o 41 A9 a.1.length c9), (11, .yes, .v (.slice (adr (some p)) a.1.length c3)), (14, .yes, .v (.int .i64 i)), (15, .yes, .v (.int .i64 k))], [(900, .own gs1 (Frz w1 gs1)), (901, .own gs2 (Frz w2 gs2)), (41, .row A9 28 1 a.1.length c9 ys), (902, .own gs3 (StrMod w3 gs3))]))
    (fun k => k ≤ sg.length) (fun k => sg.length - k) (fun _ => rfl) ?_ ?_
  · refine ⟨0, Nat.zero_le _, ?_, ?_, rfl⟩
    all_goals ((repeat' (first | exact trivial | exact rfl | refine And.intro ?_ ?_)) <;> (try (conv => whnf)) <;> (try simp only [SV.real, SV.r2, SV.r1]))
  rintro k hk
  by_cases hk1 : k < sg.length
  case neg =>
    obtain rfl : k = sg.length := by omega
    repeat' ((conv => whnf); first | refine walk (Tryd.ok ..) ?_ | (refine Cnd.mk (fun h => ?_) (fun h => ?_) <;> (first | exact cndT h (by (try dsimp only); omega) | exact cndF h (by (try dsimp only); omega) | (exfalso; simp at h; omega) | simp at h | skip)) | refine kp ?_ ?_ | refine tw ?_ ?_ | refine appnil rfl ?_ | refine rawnil rfl ?_ | exact trivial | refine side2 ?_ | refine sideL2 ?_ | refine Or.inr ?_ | refine sat_drawH (Tryd.ok ..) (by kernel_rfl) ?_ | refine xi _ (And.intro rfl rfl) ?_ | refine xi _ (fun _ => And.intro rfl rfl) ?_ | refine xi _ rfl ?_ | refine xi _ (fun _ => (mod_at (d := 902) hro3 hB3 hx rfl rfl rfl)) ?_ | refine xi _ (mod_at (d := 902) hro3 hB3 hx rfl rfl rfl) ?_)
    refine ⟨i + 1, ⟨hi1, by omega⟩, ?_, ?_, rfl⟩
    all_goals ((repeat' (first | exact trivial | exact rfl | refine And.intro ?_ ?_)) <;> (try (conv => whnf)) <;> (try simp only [SV.real, SV.r2, SV.r1]))
  obtain ⟨e, he⟩ : ∃ e, sg[k]? = some e := ⟨_, List.getElem?_eq_getElem hk1⟩
  obtain ⟨y, hy, A5, c5, zs5, rfl, hc5, hro5, hB5, hz5⟩ := nest_at hz4 hro4.1 he
  obtain ⟨q, rfl, _⟩ := hro4.some_ (by omega)
  have hmax5 : e.length ≤ 9223372036854775807 := Nat.le_trans (Nat.le_trans hc5.1 hc5.2) (by decide)
  repeat' ((conv => whnf); first | refine walk (Tryd.ok ..) ?_ | (refine Cnd.mk (fun h => ?_) (fun h => ?_) <;> (first | exact cndT h (by (try dsimp only); omega) | exact cndF h (by (try dsimp only); omega) | (exfalso; simp at h; omega) | simp at h | skip)) | refine kp ?_ ?_ | refine tw ?_ ?_ | refine appnil rfl ?_ | refine rawnil rfl ?_ | exact trivial | refine side2 ?_ | refine sideL2 ?_ | refine Or.inr ?_ | refine sat_drawH (Tryd.ok ..) (by kernel_rfl) ?_ | refine xi _ (And.intro rfl rfl) ?_ | refine xi _ (fun _ => And.intro rfl rfl) ?_ | refine xi _ rfl ?_ | refine xi _ (fun _ => (mod_at (d := 902) hro3 hB3 hx rfl rfl rfl)) ?_ | refine xi _ (mod_at (d := 902) hro3 hB3 hx rfl rfl rfl) ?_)
  refine sat_loop (Tryd.ok ..) (α := Nat) (fun j => ([(0, .yes, .v (.string s)), (3, .yes, .v v1), (9, .yes, .o 41 A9 a.1.length c9), (11, .yes, .v (.slice (adr (some p)) a.1.length c3)), (14, .yes, .v (.int .i64 i)), (15, .yes, .v (.int .i64 k)), (16, .yes, .v (.int .i64 j))], [(900, .own gs1 (Frz w1 gs1)), (901, .own gs2 (Frz w2 gs2)), (41, .row A9 28 1 a.1.length c9 ys), (902, .own gs3 (StrMod w3 gs3))]))
    (fun j => j ≤ e.length) (fun j => e.length - j) (fun _ => rfl) ?_ ?_
  · refine ⟨0, Nat.zero_le _, ?_, ?_, rfl⟩
    all_goals ((repeat' (first | exact trivial | exact rfl | refine And.intro ?_ ?_)) <;> (try (conv => whnf)) <;> (try simp only [SV.real, SV.r2, SV.r1]))
  rintro j hj
  by_cases hj1 : j < e.length
  case neg =>
    obtain rfl : j = e.length := by omega
    repeat' ((conv => whnf); first | refine walk (Tryd.ok ..) ?_ | (refine Cnd.mk (fun h => ?_) (fun h => ?_) <;> (first | exact cndT h (by (try dsimp only); omega) | exact cndF h (by (try dsimp only); omega) | (exfalso; simp at h; omega) | simp at h | skip)) | refine kp ?_ ?_ | refine tw ?_ ?_ | refine appnil rfl ?_ | refine rawnil rfl ?_ | exact trivial | refine side2 ?_ | refine sideL2 ?_ | refine Or.inr ?_ | refine sat_drawH (Tryd.ok ..) (by kernel_rfl) ?_ | refine xi _ (And.intro rfl rfl) ?_ | refine xi _ (fun _ => And.intro rfl rfl) ?_ | refine xi _ rfl ?_ | refine xi _ (fun _ => (mod_at (d := 902) hro3 hB3 hx rfl rfl rfl)) ?_ | refine xi _ (mod_at (d := 902) hro3 hB3 hx rfl rfl rfl) ?_ | refine xi _ (fun _ => (mod_at (d := 902) hro4 hB4 hy rfl rfl rfl)) ?_ | refine xi _ (mod_at (d := 902) hro4 hB4 hy rfl rfl rfl) ?_)
    refine ⟨k + 1, ⟨hk1, by omega⟩, ?_, ?_, rfl⟩
    all_goals ((repeat' (first | exact trivial | exact rfl | refine And.intro ?_ ?_)) <;> (try (conv => whnf)) <;> (try simp only [SV.real, SV.r2, SV.r1]))
  obtain ⟨c, hc⟩ : ∃ c, e[j]? = some c := ⟨_, List.getElem?_eq_getElem hj1⟩
  obtain ⟨z, hz, hzc⟩ := nest_at hz5 hro5.1 hc
  obtain ⟨q5, rfl, _⟩ := hro5.some_ (by omega)
  have hzs : isStr z = true := by rw [show z = .string c from hzc]; rfl
  repeat' ((conv => whnf); first | refine walk (Tryd.ok ..) ?_ | (refine Cnd.mk (fun h => ?_) (fun h => ?_) <;> (first | exact cndT h (by (try dsimp only); omega) | exact cndF h (by (try dsimp only); omega) | (exfalso; simp at h; omega) | simp at h | skip)) | refine kp ?_ ?_ | refine tw ?_ ?_ | refine appnil rfl ?_ | refine rawnil rfl ?_ | exact trivial | refine side2 ?_ | refine sideL2 ?_ | refine Or.inr ?_ | refine sat_drawH (Tryd.ok ..) (by kernel_rfl) ?_ | refine xi _ (And.intro rfl rfl) ?_ | refine xi _ (fun _ => And.intro rfl rfl) ?_ | refine xi _ rfl ?_ | refine xi _ (fun _ => (mod_at (d := 902) hro3 hB3 hx rfl rfl rfl)) ?_ | refine xi _ (mod_at (d := 902) hro3 hB3 hx rfl rfl rfl) ?_ | refine xi _ (fun _ => (mod_at (d := 902) hro4 hB4 hy rfl rfl rfl)) ?_ | refine xi _ (mod_at (d := 902) hro4 hB4 hy rfl rfl rfl) ?_)
  (conv => whnf)
  refine mod_store (d := 902) (s := ⟨#[63]⟩) hro5 hB5 hz hzs rfl ⟨_, rfl, rfl⟩ rfl ?_
  repeat' ((conv => whnf); first | refine walk (Tryd.ok ..) ?_ | (refine Cnd.mk (fun h => ?_) (fun h => ?_) <;> (first | exact cndT h (by (try dsimp only); omega) | exact cndF h (by (try dsimp only); omega) | (exfalso; simp at h; omega) | simp at h | skip)) | refine kp ?_ ?_ | refine tw ?_ ?_ | refine appnil rfl ?_ | refine rawnil rfl ?_ | exact trivial | refine side2 ?_ | refine sideL2 ?_ | refine Or.inr ?_ | refine sat_drawH (Tryd.ok ..) (by kernel_rfl) ?_ | refine xi _ (And.intro rfl rfl) ?_ | refine xi _ (fun _ => And.intro rfl rfl) ?_ | refine xi _ rfl ?_)
  refine ⟨j + 1, ⟨hj1, by omega⟩, ?_, ?_, rfl⟩
  all_goals ((repeat' (first | exact trivial | exact rfl | refine And.intro ?_ ?_)) <;> (try (conv => whnf)) <;> (try simp only [SV.real, SV.r2, SV.r1]))
end Go.Proofs.YtdejcgmaphmjbaaDoor
