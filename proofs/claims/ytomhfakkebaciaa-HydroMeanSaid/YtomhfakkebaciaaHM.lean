/-
  The law HydroMean, walked.
-/
import Derived.Test.YtomhfakkebaciaaH19
import Derived.Test.YtomhfakkebaciaaHD
set_option linter.unusedSimpArgs false
set_option linter.unusedVariables false
namespace Go.Proofs.Ytomhfakkebaciaa
open Go Sat Go.RowKit Go.PlainAid
theorem sat_cnd {cx : Cx} {c : Operand} {x y : Code} {K : Exit → Env → Heap → Prop} {f : Env} {H : Heap} (b : Bool) (hev : ev f .yes c (fun v => v = .v (.bool b))) (h : Cnd b (Walk cx x K f H) (Walk cx y K f H)) : Sat cx (.cond c x y) K f H := by
  refine ⟨fun a w hf hw => ?_⟩
  obtain ⟨v, hv, rfl⟩ := ev_sound hf hev
  exact wpIn_cond_split (hv trivial) (fun hb => (Walk.out (h.t hb)).out a w hf hw) (fun hb => (Walk.out (h.f hb)).out a w hf hw)
theorem at_k {l : List Fr} {k : Nat} {c : Fr} (h : l[k]? = some c) : List.take 17 (List.drop ((k : Int).toNat * 17) (v4C l)) = frC c := v4_at h
set_option maxRecDepth 100000 in
set_option maxHeartbeats 16000000 in
theorem hydroMean_any (l0 : List St) (row one two : Int) (A : Option (Nat × Nat)) (cap : Nat) (w : World) (hA : Ro w A l0.length 5 (stL l0)) (hok : ∀ x ∈ l0, StOk x) (hl : l0.length ≤ 9223372036854775807) (hc : l0.length ≤ cap) (hrow : 0 ≤ row ∧ row ≤ 255) (h1 : 0 ≤ one ∧ one ≤ 4294967295) (h2 : 0 ≤ two ∧ two ≤ 4294967295) :
    Calls Try.prog 5 #[.slice (adr A) l0.length cap, .int .u8 row, .int .u32 one, .int .u32 two] w fun e w' => e = .returned (.bool true) ∧ Below w.heap.size w w' := by
  refine calls_sat (cx := Try.cx 238 [5, 7, 20] [] [69] w) (Try.ok ..) Try.func5 rfl [.o 300 A l0.length cap, .v (.int .u8 row), .v (.int .u32 one), .v (.int .u32 two)] rfl (by show 4 ≤ 238; omega) [(300, .ro A l0.length 5 (stL l0))] (holds_ros rfl rfl ⟨hA, trivial⟩) ?_
  repeat' ((conv => whnf); first | refine walk (Try.ok ..) ?_ | (refine Cnd.mk (fun h => ?_) (fun h => ?_) <;> (first | exact cndT h (by (try dsimp only); omega) | exact cndF h (by (try dsimp only); omega) | (exfalso; simp at h; omega) | simp at h | skip)) | refine kp ?_ ?_ | refine tw ?_ ?_ | exact trivial | refine side2 ?_ | refine sideL2 ?_ | refine Or.inr ?_ | refine sat_drawH (Try.ok ..) (by kernel_rfl) ?_ | refine xi _ (And.intro rfl rfl) ?_ | refine xi _ (fun _ => And.intro rfl rfl) ?_ | refine xi _ rfl ?_)
  (conv => whnf)
  refine called_pure (.v (.bool true)) rfl (fun w' => by exact hawake_any w') ?_
  repeat' ((conv => whnf); first | refine walk (Try.ok ..) ?_ | (refine Cnd.mk (fun h => ?_) (fun h => ?_) <;> (first | exact cndT h (by (try dsimp only); omega) | exact cndF h (by (try dsimp only); omega) | (exfalso; simp at h; omega) | simp at h | skip)) | refine kp ?_ ?_ | refine tw ?_ ?_ | exact trivial | refine side2 ?_ | refine sideL2 ?_ | refine Or.inr ?_ | refine sat_drawH (Try.ok ..) (by kernel_rfl) ?_ | refine xi _ (And.intro rfl rfl) ?_ | refine xi _ (fun _ => And.intro rfl rfl) ?_ | refine xi _ rfl ?_)
  (conv => whnf)
  have hM := fun w' (h : Ro w' A l0.length 5 (stL l0)) => made_any l0 A cap w' h hok hl hc
  have hMr := made_right hok
  have hMl := madeH_len l0
  obtain ⟨M, eM⟩ : ∃ M, M = madeH l0 := ⟨_, rfl⟩
  rw [← eM] at hM hMr hMl
  refine called_row 36 (xs := rwL M) (m := M.length) (fun v => v) (fun A cap => .o 36 A M.length cap) (fun _ _ => rfl) (fun w' hh => by exact hM w' (ro_of_ro hh (id := 300) rfl)) ?_
  intro A9 c9
  have hnz : (M.length : Int) - 1 ≠ 0 := by omega
  obtain ⟨i, hi, hi1⟩ : ∃ i : Nat, row % ((M.length : Int) - 1) = i ∧ i + 1 < M.length := by
    have e1 := Int.emod_nonneg row hnz
    have e2 := Int.emod_lt_of_pos row (show 0 < (M.length : Int) - 1 by omega)
    exact ⟨(row % ((M.length : Int) - 1)).toNat, by omega, by omega⟩
  repeat' ((conv => whnf); first | refine walk (Try.ok ..) ?_ | (refine Cnd.mk (fun h => ?_) (fun h => ?_) <;> (first | exact cndT h (by (try dsimp only); omega) | exact cndF h (by (try dsimp only); omega) | (exfalso; simp at h; omega) | simp at h | skip)) | refine kp ?_ ?_ | refine tw ?_ ?_ | exact trivial | refine side2 ?_ | refine sideL2 ?_ | refine Or.inr ?_ | refine xi _ (And.intro rfl rfl) ?_ | refine xi _ (fun _ => And.intro rfl rfl) ?_ | refine xi _ rfl ?_)
  refine sat_to ([(2, .yes, .v (.int .u32 one)), (3, .yes, .v (.int .u32 two)), (8, .yes, .v (.bool false)), (9, .yes, .o 36 A9 M.length c9), (10, .yes, .v (.int .i64 (i : Nat)))], [(36, .row A9 31 5 M.length c9 (rwL M))]) rfl ?_ ?_ rfl ?_
  · ((repeat' (first | exact trivial | exact rfl | refine And.intro ?_ ?_)) <;> (try (conv => whnf)) <;> (try simp only [SV.real, SV.r2, SV.r1]))
    exact congrArg (Value.int .i64) hi
  · ((repeat' (first | exact trivial | exact rfl | refine And.intro ?_ ?_)) <;> (try (conv => whnf)) <;> (try simp only [SV.real, SV.r2, SV.r1]))
  obtain ⟨a, ha⟩ : ∃ a, M[i]? = some a := ⟨_, List.getElem?_eq_getElem (by omega)⟩
  obtain ⟨b, hb⟩ : ∃ b, M[i + 1]? = some b := ⟨_, List.getElem?_eq_getElem hi1⟩
  have hP : Pair M i a b := ⟨hMr, ha, hb⟩
  obtain ⟨hk1, hk2, hk3⟩ := hP.k
  have fa0 : (rwL M)[mulS (i : Int).toNat 5 + 0]? = some (.int .i64 a.d) := (rw_cells ha rfl).2 0 (by omega)
  have fa1 : (rwL M)[mulS (i : Int).toNat 5 + 1]? = some (.int .i64 a.k) := (rw_cells ha rfl).2 1 (by omega)
  have fa2 : (rwL M)[mulS (i : Int).toNat 5 + 2]? = some (.int .i64 a.b) := (rw_cells ha rfl).2 2 (by omega)
  have fa3 : (rwL M)[mulS (i : Int).toNat 5 + 3]? = some (.int .i64 a.m) := (rw_cells ha rfl).2 3 (by omega)
  have fa4 : (rwL M)[mulS (i : Int).toNat 5 + 4]? = some (.int .i64 a.t) := (rw_cells ha rfl).2 4 (by omega)
  have fb1 : (rwL M)[mulS ((i : Int) + 1).toNat 5 + 1]? = some (.int .i64 b.k) := (rw_cells hb (by omega)).2 1 (by omega)
  refine sat_drawH (Try.ok ..) (by kernel_rfl) ?_
  have hnz2 : b.k - a.k + 1 ≠ 0 := by omega
  obtain ⟨u, eu, hu⟩ : ∃ u, one % (b.k - a.k + 1) = u ∧ 0 ≤ u ∧ u ≤ b.k - a.k := by
    have e1 := Int.emod_nonneg one hnz2
    have e2 := Int.emod_lt_of_pos one (show 0 < b.k - a.k + 1 by omega)
    exact ⟨_, rfl, by omega, by omega⟩
  obtain ⟨v0, ev0, hv0⟩ : ∃ u, two % (b.k - a.k + 1) = u ∧ 0 ≤ u ∧ u ≤ b.k - a.k := by
    have e1 := Int.emod_nonneg two hnz2
    have e2 := Int.emod_lt_of_pos two (show 0 < b.k - a.k + 1 by omega)
    exact ⟨_, rfl, by omega, by omega⟩
  obtain ⟨v, hv, heven, hv1⟩ : ∃ v : Int, (0 ≤ v ∧ v ≤ b.k - a.k) ∧ (u + v) % 2 = 0 ∧ v = if (u + v0) % 2 = 1 then u else v0 := by
    by_cases h : (u + v0) % 2 = 1
    · exact ⟨u, hu, by omega, by rw [if_pos h]⟩
    · exact ⟨v0, hv0, by omega, by rw [if_neg h]⟩
  repeat' ((conv => whnf); first | refine walk (Try.ok ..) ?_ | (refine Cnd.mk (fun h => ?_) (fun h => ?_) <;> (first | exact cndT h (by (try dsimp only); omega) | exact cndF h (by (try dsimp only); omega) | (exfalso; simp at h; omega) | simp at h | skip)) | refine kp ?_ ?_ | refine tw ?_ ?_ | exact trivial | refine side2 ?_ | refine sideL2 ?_ | refine Or.inr ?_ | refine sat_drawH (Try.ok ..) (by kernel_rfl) ?_ | refine xi _ (And.intro rfl rfl) ?_ | refine xi _ (fun _ => And.intro rfl rfl) ?_ | refine xi _ rfl ?_ | refine xi _ (fun _ => fa1) ?_ | refine xi _ fa1 ?_ | refine xi _ (fun _ => fb1) ?_ | refine xi _ fb1 ?_)
  (conv => whnf)
  refine sat_to ([(8, .yes, .v (.bool false)), (9, .yes, .o 36 A9 M.length c9), (10, .yes, .v (.int .i64 (i : Nat))), (12, .yes, .v (.int .i64 u)), (13, .yes, .v (.int .i64 v0))], [(36, .row A9 31 5 M.length c9 (rwL M))]) rfl ?_ ?_ rfl ?_
  · ((repeat' (first | exact trivial | exact rfl | refine And.intro ?_ ?_)) <;> (try (conv => whnf)) <;> (try simp only [SV.real, SV.r2, SV.r1]))
    · exact congrArg (Value.int .i64) eu
    · exact congrArg (Value.int .i64) ev0
  · ((repeat' (first | exact trivial | exact rfl | refine And.intro ?_ ?_)) <;> (try (conv => whnf)) <;> (try simp only [SV.real, SV.r2, SV.r1]))
  refine sat_ops (Try.ok ..) ?_
  repeat' ((conv => whnf); first | refine walk (Try.ok ..) ?_ | (refine Cnd.mk (fun h => ?_) (fun h => ?_) <;> (first | exact cndT h (by (try dsimp only); omega) | exact cndF h (by (try dsimp only); omega) | (exfalso; simp at h; omega) | simp at h | skip)) | refine kp ?_ ?_ | refine tw ?_ ?_ | exact trivial | refine side2 ?_ | refine sideL2 ?_ | refine Or.inr ?_ | refine sat_drawH (Try.ok ..) (by kernel_rfl) ?_ | refine xi _ (And.intro rfl rfl) ?_ | refine xi _ (fun _ => And.intro rfl rfl) ?_ | refine xi _ rfl ?_)
  refine sat_join0 (fun (_ : Unit) => ([(8, .yes, .v (.bool false)), (9, .yes, .o 36 A9 M.length c9), (10, .yes, .v (.int .i64 (i : Nat))), (12, .yes, .v (.int .i64 u)), (13, .yes, .v (.int .i64 v))], [(36, .row A9 31 5 M.length c9 (rwL M))])) (fun _ => True) (fun _ => rfl) ?_ ?_
  · refine sat_cnd ((u + v0) % 2 == 1) rfl ⟨fun hb => ?_, fun hb => ?_⟩
    · rw [if_pos (by simpa using hb)] at hv1
      rw [hv1]
      repeat' ((conv => whnf); first | refine walk (Try.ok ..) ?_ | (refine Cnd.mk (fun h => ?_) (fun h => ?_) <;> (first | exact cndT h (by (try dsimp only); omega) | exact cndF h (by (try dsimp only); omega) | (exfalso; simp at h; omega) | simp at h | skip)) | refine kp ?_ ?_ | refine tw ?_ ?_ | exact trivial | refine side2 ?_ | refine sideL2 ?_ | refine Or.inr ?_ | refine sat_drawH (Try.ok ..) (by kernel_rfl) ?_ | refine xi _ (And.intro rfl rfl) ?_ | refine xi _ (fun _ => And.intro rfl rfl) ?_ | refine xi _ rfl ?_)
      exact ⟨(), trivial, by ((repeat' (first | exact trivial | exact rfl | refine And.intro ?_ ?_)) <;> (try (conv => whnf)) <;> (try simp only [SV.real, SV.r2, SV.r1])), by ((repeat' (first | exact trivial | exact rfl | refine And.intro ?_ ?_)) <;> (try (conv => whnf)) <;> (try simp only [SV.real, SV.r2, SV.r1])), rfl⟩
    · rw [if_neg (by simpa using hb)] at hv1
      rw [hv1]
      repeat' ((conv => whnf); first | refine walk (Try.ok ..) ?_ | (refine Cnd.mk (fun h => ?_) (fun h => ?_) <;> (first | exact cndT h (by (try dsimp only); omega) | exact cndF h (by (try dsimp only); omega) | (exfalso; simp at h; omega) | simp at h | skip)) | refine kp ?_ ?_ | refine tw ?_ ?_ | exact trivial | refine side2 ?_ | refine sideL2 ?_ | refine Or.inr ?_ | refine sat_drawH (Try.ok ..) (by kernel_rfl) ?_ | refine xi _ (And.intro rfl rfl) ?_ | refine xi _ (fun _ => And.intro rfl rfl) ?_ | refine xi _ rfl ?_)
      exact ⟨(), trivial, by ((repeat' (first | exact trivial | exact rfl | refine And.intro ?_ ?_)) <;> (try (conv => whnf)) <;> (try simp only [SV.real, SV.r2, SV.r1])), by ((repeat' (first | exact trivial | exact rfl | refine And.intro ?_ ?_)) <;> (try (conv => whnf)) <;> (try simp only [SV.real, SV.r2, SV.r1])), rfl⟩
  rintro - -
  have hM9 : M.length ≤ 9223372036854775807 := by omega
  have hAt : ∀ x, a.k ≤ x → x ≤ b.k → ∀ A cap w', Ro w' A M.length 5 (rwL M) → Calls Try.prog 17 #[.slice (adr A) M.length cap, .int .i64 x] w' fun e w2 => e = .returned (.tuple #[v4V (valH a b x), .int .i64 0]) ∧ Below w'.heap.size w' w2 := by
    intro x hx1 hx2 A cap w' hA
    have := at_any M x A cap w' hA hM9 (by refine ⟨?_, ?_⟩ <;> omega)
    rw [hP.at_ hx1 hx2] at this
    exact this
  have hAp := hAt (a.k + u) (by omega) (by omega)
  have hAq := hAt (a.k + v) (by omega) (by omega)
  have hAm := hAt (a.k + (u + v) / 2) (by omega) (by omega)
  have hAr := hAt a.k (by omega) (by omega)
  have hAs := hAt b.k (by omega) (by omega)
  rw [hP.vlo] at hAr
  rw [hP.vhi] at hAs
  have m0 := mean_ok hP cols_d hu hv heven
  have m1 := mean_ok hP cols_b hu hv heven
  have m2 := mean_ok hP cols_m hu hv heven
  have m3 := mean_ok hP cols_t hu hv heven
  obtain ⟨p0, p1, p2, p3, ep, bp⟩ : ∃ p0 p1 p2 p3, valH a b (a.k + u) = [p0, p1, p2, p3] ∧ (p0 = colH HRow.d a b (a.k + u) ∧ p1 = colH HRow.b a b (a.k + u) ∧ p2 = colH HRow.m a b (a.k + u) ∧ p3 = colH HRow.t a b (a.k + u)) := ⟨_, _, _, _, rfl, rfl, rfl, rfl, rfl⟩
  obtain ⟨q0, q1, q2, q3, eq, bq⟩ : ∃ p0 p1 p2 p3, valH a b (a.k + v) = [p0, p1, p2, p3] ∧ (p0 = colH HRow.d a b (a.k + v) ∧ p1 = colH HRow.b a b (a.k + v) ∧ p2 = colH HRow.m a b (a.k + v) ∧ p3 = colH HRow.t a b (a.k + v)) := ⟨_, _, _, _, rfl, rfl, rfl, rfl, rfl⟩
  obtain ⟨n0, n1, n2, n3, em, bm⟩ : ∃ p0 p1 p2 p3, valH a b (a.k + (u + v) / 2) = [p0, p1, p2, p3] ∧ (p0 = colH HRow.d a b (a.k + (u + v) / 2) ∧ p1 = colH HRow.b a b (a.k + (u + v) / 2) ∧ p2 = colH HRow.m a b (a.k + (u + v) / 2) ∧ p3 = colH HRow.t a b (a.k + (u + v) / 2)) := ⟨_, _, _, _, rfl, rfl, rfl, rfl, rfl⟩
  obtain ⟨r0, r1, r2, r3, er, br⟩ : ∃ p0 p1 p2 p3, rowF a = [p0, p1, p2, p3] ∧ (p0 = ofF a.d ∧ p1 = ofF a.b ∧ p2 = ofF a.m ∧ p3 = ofF a.t) := ⟨_, _, _, _, rfl, rfl, rfl, rfl, rfl⟩
  obtain ⟨s0, s1, s2, s3, es, bs⟩ : ∃ p0 p1 p2 p3, rowF b = [p0, p1, p2, p3] ∧ (p0 = ofF b.d ∧ p1 = ofF b.b ∧ p2 = ofF b.m ∧ p3 = ofF b.t) := ⟨_, _, _, _, rfl, rfl, rfl, rfl, rfl⟩
  rw [ep] at hAp
  rw [eq] at hAq
  rw [em] at hAm
  rw [er] at hAr
  rw [es] at hAs
  have hmean : ∀ k : Nat, k < 4 → ∃ p q n r s Z c1 c2, [p0, p1, p2, p3][k]? = some p ∧ [q0, q1, q2, q3][k]? = some q ∧ [n0, n1, n2, n3][k]? = some n ∧ [r0, r1, r2, r3][k]? = some r ∧ [s0, s1, s2, s3][k]? = some s ∧ MeanOk p q n r s Z c1 c2 ∧ (Big p ∧ Big q ∧ Big n ∧ Big r ∧ Big s) := by
    obtain ⟨x0, x1, x2, x3⟩ := bp
    obtain ⟨y0, y1, y2, y3⟩ := bq
    obtain ⟨z0, z1, z2, z3⟩ := bm
    obtain ⟨d0, d1, d2, d3⟩ := br
    obtain ⟨f0, f1, f2, f3⟩ := bs
    subst x0 x1 x2 x3 y0 y1 y2 y3 z0 z1 z2 z3 d0 d1 d2 d3 f0 f1 f2 f3
    intro k hk
    rcases (by omega : k = 0 ∨ k = 1 ∨ k = 2 ∨ k = 3) with rfl | rfl | rfl | rfl
    · obtain ⟨Z, c1, c2, h⟩ := m0; exact ⟨_, _, _, _, _, Z, c1, c2, rfl, rfl, rfl, rfl, rfl, h, ratio_big' _ _, ratio_big' _ _, ratio_big' _ _, ofF_big _, ofF_big _⟩
    · obtain ⟨Z, c1, c2, h⟩ := m1; exact ⟨_, _, _, _, _, Z, c1, c2, rfl, rfl, rfl, rfl, rfl, h, ratio_big' _ _, ratio_big' _ _, ratio_big' _ _, ofF_big _, ofF_big _⟩
    · obtain ⟨Z, c1, c2, h⟩ := m2; exact ⟨_, _, _, _, _, Z, c1, c2, rfl, rfl, rfl, rfl, rfl, h, ratio_big' _ _, ratio_big' _ _, ratio_big' _ _, ofF_big _, ofF_big _⟩
    · obtain ⟨Z, c1, c2, h⟩ := m3; exact ⟨_, _, _, _, _, Z, c1, c2, rfl, rfl, rfl, rfl, rfl, h, ratio_big' _ _, ratio_big' _ _, ratio_big' _ _, ofF_big _, ofF_big _⟩
  clear m0 m1 m2 m3 hAt bp bq bm bs ep eq em er es
  have lCP : (v4C [p0, p1, p2, p3]).length = 68 := by rw [v4_len]; rfl
  have aCP := v4_all [p0, p1, p2, p3]
  have kCP : ∀ (k : Nat) (c : Fr), [p0, p1, p2, p3][k]? = some c → List.take 17 (List.drop ((k : Int).toNat * 17) (v4C [p0, p1, p2, p3])) = frC c := fun k c h => at_k h
  have hlp : ∀ w', Calls Try.prog 18 #[(SV.a (List.take 68 (List.drop 0 (v4C [p0, p1, p2, p3])))).real] w' fun e w2 => e = .returned (SV.a (v4C [p0, p1, p2, p3])).real ∧ Below w'.heap.size w' w2 := fun w' => by rw [tk68 _ rfl]; exact list_any _ _ _ _ w'
  unfold v4V at hAp
  obtain ⟨CP, hCP⟩ : ∃ C, C = v4C [p0, p1, p2, p3] := ⟨_, rfl⟩
  rw [← hCP] at lCP aCP kCP hlp hAp
  have lCQ : (v4C [q0, q1, q2, q3]).length = 68 := by rw [v4_len]; rfl
  have aCQ := v4_all [q0, q1, q2, q3]
  have kCQ : ∀ (k : Nat) (c : Fr), [q0, q1, q2, q3][k]? = some c → List.take 17 (List.drop ((k : Int).toNat * 17) (v4C [q0, q1, q2, q3])) = frC c := fun k c h => at_k h
  have hlq : ∀ w', Calls Try.prog 18 #[(SV.a (List.take 68 (List.drop 0 (v4C [q0, q1, q2, q3])))).real] w' fun e w2 => e = .returned (SV.a (v4C [q0, q1, q2, q3])).real ∧ Below w'.heap.size w' w2 := fun w' => by rw [tk68 _ rfl]; exact list_any _ _ _ _ w'
  unfold v4V at hAq
  obtain ⟨CQ, hCQ⟩ : ∃ C, C = v4C [q0, q1, q2, q3] := ⟨_, rfl⟩
  rw [← hCQ] at lCQ aCQ kCQ hlq hAq
  have lCN : (v4C [n0, n1, n2, n3]).length = 68 := by rw [v4_len]; rfl
  have aCN := v4_all [n0, n1, n2, n3]
  have kCN : ∀ (k : Nat) (c : Fr), [n0, n1, n2, n3][k]? = some c → List.take 17 (List.drop ((k : Int).toNat * 17) (v4C [n0, n1, n2, n3])) = frC c := fun k c h => at_k h
  have hln : ∀ w', Calls Try.prog 18 #[(SV.a (List.take 68 (List.drop 0 (v4C [n0, n1, n2, n3])))).real] w' fun e w2 => e = .returned (SV.a (v4C [n0, n1, n2, n3])).real ∧ Below w'.heap.size w' w2 := fun w' => by rw [tk68 _ rfl]; exact list_any _ _ _ _ w'
  unfold v4V at hAm
  obtain ⟨CN, hCN⟩ : ∃ C, C = v4C [n0, n1, n2, n3] := ⟨_, rfl⟩
  rw [← hCN] at lCN aCN kCN hln hAm
  have lCR : (v4C [r0, r1, r2, r3]).length = 68 := by rw [v4_len]; rfl
  have aCR := v4_all [r0, r1, r2, r3]
  have kCR : ∀ (k : Nat) (c : Fr), [r0, r1, r2, r3][k]? = some c → List.take 17 (List.drop ((k : Int).toNat * 17) (v4C [r0, r1, r2, r3])) = frC c := fun k c h => at_k h
  have hlr : ∀ w', Calls Try.prog 18 #[(SV.a (List.take 68 (List.drop 0 (v4C [r0, r1, r2, r3])))).real] w' fun e w2 => e = .returned (SV.a (v4C [r0, r1, r2, r3])).real ∧ Below w'.heap.size w' w2 := fun w' => by rw [tk68 _ rfl]; exact list_any _ _ _ _ w'
  have hb4 : ∀ x ∈ [r0, r1, r2, r3], Big x := by
    intro x hx
    obtain ⟨d0, d1, d2, d3⟩ := br
    subst d0 d1 d2 d3
    simp only [List.mem_cons, List.not_mem_nil, or_false] at hx
    rcases hx with rfl | rfl | rfl | rfl <;> exact ofF_big _
  have hE := fun w => eqV4_o hb4 w
  unfold v4V at hAr
  obtain ⟨CR, hCR⟩ : ∃ C, C = v4C [r0, r1, r2, r3] := ⟨_, rfl⟩
  rw [← hCR] at lCR aCR kCR hlr hAr hE
  have lCS : (v4C [s0, s1, s2, s3]).length = 68 := by rw [v4_len]; rfl
  have aCS := v4_all [s0, s1, s2, s3]
  have kCS : ∀ (k : Nat) (c : Fr), [s0, s1, s2, s3][k]? = some c → List.take 17 (List.drop ((k : Int).toNat * 17) (v4C [s0, s1, s2, s3])) = frC c := fun k c h => at_k h
  have hls : ∀ w', Calls Try.prog 18 #[(SV.a (List.take 68 (List.drop 0 (v4C [s0, s1, s2, s3])))).real] w' fun e w2 => e = .returned (SV.a (v4C [s0, s1, s2, s3])).real ∧ Below w'.heap.size w' w2 := fun w' => by rw [tk68 _ rfl]; exact list_any _ _ _ _ w'
  unfold v4V at hAs
  obtain ⟨CS, hCS⟩ : ∃ C, C = v4C [s0, s1, s2, s3] := ⟨_, rfl⟩
  rw [← hCS] at lCS aCS kCS hls hAs
  obtain ⟨_, ⟨_, _⟩, _, _, _⟩ := ok_row ((right_is hMr).row _ b hb)
  obtain ⟨⟨_, _⟩, ⟨_, _⟩, ⟨_, _⟩, ⟨_, _⟩, _, _⟩ := ok_row ((right_is hMr).row _ a ha)
  repeat' ((conv => whnf); first | refine walk (Try.ok ..) ?_ | (refine Cnd.mk (fun h => ?_) (fun h => ?_) <;> (first | exact cndT h (by (try dsimp only); omega) | exact cndF h (by (try dsimp only); omega) | (exfalso; simp at h; omega) | simp at h | skip)) | refine kp ?_ ?_ | refine tw ?_ ?_ | exact trivial | refine side2 ?_ | refine sideL2 ?_ | refine Or.inr ?_ | refine sat_drawH (Try.ok ..) (by kernel_rfl) ?_ | refine xi _ (And.intro rfl rfl) ?_ | refine xi _ (fun _ => And.intro rfl rfl) ?_ | refine xi _ rfl ?_ | refine xi _ (fun _ => fa1) ?_ | refine xi _ fa1 ?_)
  (conv => whnf)
  refine called_at (.t [.a CP, .v (.int .i64 0)]) rfl (fun w' hh => by exact hAp A9 c9 w' (ro_of_row hh (id := 36) rfl)) ?_
  repeat' ((conv => whnf); first | refine walk (Try.ok ..) ?_ | (refine Cnd.mk (fun h => ?_) (fun h => ?_) <;> (first | exact cndT h (by (try dsimp only); omega) | exact cndF h (by (try dsimp only); omega) | (exfalso; simp at h; omega) | simp at h | skip)) | refine kp ?_ ?_ | refine tw ?_ ?_ | exact trivial | refine side2 ?_ | refine sideL2 ?_ | refine Or.inr ?_ | refine sat_drawH (Try.ok ..) (by kernel_rfl) ?_ | refine xi _ (And.intro rfl rfl) ?_ | refine xi _ (fun _ => And.intro rfl rfl) ?_ | refine xi _ rfl ?_)
  (conv => whnf)
  intro g14 hg14
  repeat' ((conv => whnf); first | refine walk (Try.ok ..) ?_ | (refine Cnd.mk (fun h => ?_) (fun h => ?_) <;> (first | exact cndT h (by (try dsimp only); omega) | exact cndF h (by (try dsimp only); omega) | (exfalso; simp at h; omega) | simp at h | skip)) | refine kp ?_ ?_ | refine tw ?_ ?_ | exact trivial | refine side2 ?_ | refine sideL2 ?_ | refine Or.inr ?_ | refine sat_drawH (Try.ok ..) (by kernel_rfl) ?_ | refine xi _ (And.intro rfl rfl) ?_ | refine xi _ (fun _ => And.intro rfl rfl) ?_ | refine xi _ rfl ?_ | refine xi _ (fun _ => fa1) ?_ | refine xi _ fa1 ?_ | (refine And.intro ⟨rfl, lCP, lCP, aCP⟩ ?_))
  (conv => whnf)
  refine called_at (.t [.a CQ, .v (.int .i64 0)]) rfl (fun w' hh => by exact hAq A9 c9 w' (ro_of_row hh (id := 36) rfl)) ?_
  repeat' ((conv => whnf); first | refine walk (Try.ok ..) ?_ | (refine Cnd.mk (fun h => ?_) (fun h => ?_) <;> (first | exact cndT h (by (try dsimp only); omega) | exact cndF h (by (try dsimp only); omega) | (exfalso; simp at h; omega) | simp at h | skip)) | refine kp ?_ ?_ | refine tw ?_ ?_ | exact trivial | refine side2 ?_ | refine sideL2 ?_ | refine Or.inr ?_ | refine sat_drawH (Try.ok ..) (by kernel_rfl) ?_ | refine xi _ (And.intro rfl rfl) ?_ | refine xi _ (fun _ => And.intro rfl rfl) ?_ | refine xi _ rfl ?_)
  (conv => whnf)
  intro g16 hg16
  repeat' ((conv => whnf); first | refine walk (Try.ok ..) ?_ | (refine Cnd.mk (fun h => ?_) (fun h => ?_) <;> (first | exact cndT h (by (try dsimp only); omega) | exact cndF h (by (try dsimp only); omega) | (exfalso; simp at h; omega) | simp at h | skip)) | refine kp ?_ ?_ | refine tw ?_ ?_ | exact trivial | refine side2 ?_ | refine sideL2 ?_ | refine Or.inr ?_ | refine sat_drawH (Try.ok ..) (by kernel_rfl) ?_ | refine xi _ (And.intro rfl rfl) ?_ | refine xi _ (fun _ => And.intro rfl rfl) ?_ | refine xi _ rfl ?_ | refine xi _ (fun _ => fa1) ?_ | refine xi _ fa1 ?_ | (refine And.intro ⟨rfl, lCQ, lCQ, aCQ⟩ ?_))
  (conv => whnf)
  refine called_at (.t [.a CN, .v (.int .i64 0)]) rfl (fun w' hh => by exact hAm A9 c9 w' (ro_of_row hh (id := 36) rfl)) ?_
  repeat' ((conv => whnf); first | refine walk (Try.ok ..) ?_ | (refine Cnd.mk (fun h => ?_) (fun h => ?_) <;> (first | exact cndT h (by (try dsimp only); omega) | exact cndF h (by (try dsimp only); omega) | (exfalso; simp at h; omega) | simp at h | skip)) | refine kp ?_ ?_ | refine tw ?_ ?_ | exact trivial | refine side2 ?_ | refine sideL2 ?_ | refine Or.inr ?_ | refine sat_drawH (Try.ok ..) (by kernel_rfl) ?_ | refine xi _ (And.intro rfl rfl) ?_ | refine xi _ (fun _ => And.intro rfl rfl) ?_ | refine xi _ rfl ?_)
  (conv => whnf)
  intro g18 hg18
  repeat' ((conv => whnf); first | refine walk (Try.ok ..) ?_ | (refine Cnd.mk (fun h => ?_) (fun h => ?_) <;> (first | exact cndT h (by (try dsimp only); omega) | exact cndF h (by (try dsimp only); omega) | (exfalso; simp at h; omega) | simp at h | skip)) | refine kp ?_ ?_ | refine tw ?_ ?_ | exact trivial | refine side2 ?_ | refine sideL2 ?_ | refine Or.inr ?_ | refine sat_drawH (Try.ok ..) (by kernel_rfl) ?_ | refine xi _ (And.intro rfl rfl) ?_ | refine xi _ (fun _ => And.intro rfl rfl) ?_ | refine xi _ rfl ?_ | refine xi _ (fun _ => fa1) ?_ | refine xi _ fa1 ?_ | (refine And.intro ⟨rfl, lCN, lCN, aCN⟩ ?_))
  (conv => whnf)
  refine called_at (.t [.a CR, .v (.int .i64 0)]) rfl (fun w' hh => by exact hAr A9 c9 w' (ro_of_row hh (id := 36) rfl)) ?_
  repeat' ((conv => whnf); first | refine walk (Try.ok ..) ?_ | (refine Cnd.mk (fun h => ?_) (fun h => ?_) <;> (first | exact cndT h (by (try dsimp only); omega) | exact cndF h (by (try dsimp only); omega) | (exfalso; simp at h; omega) | simp at h | skip)) | refine kp ?_ ?_ | refine tw ?_ ?_ | exact trivial | refine side2 ?_ | refine sideL2 ?_ | refine Or.inr ?_ | refine sat_drawH (Try.ok ..) (by kernel_rfl) ?_ | refine xi _ (And.intro rfl rfl) ?_ | refine xi _ (fun _ => And.intro rfl rfl) ?_ | refine xi _ rfl ?_)
  (conv => whnf)
  intro g20 hg20
  repeat' ((conv => whnf); first | refine walk (Try.ok ..) ?_ | (refine Cnd.mk (fun h => ?_) (fun h => ?_) <;> (first | exact cndT h (by (try dsimp only); omega) | exact cndF h (by (try dsimp only); omega) | (exfalso; simp at h; omega) | simp at h | skip)) | refine kp ?_ ?_ | refine tw ?_ ?_ | exact trivial | refine side2 ?_ | refine sideL2 ?_ | refine Or.inr ?_ | refine sat_drawH (Try.ok ..) (by kernel_rfl) ?_ | refine xi _ (And.intro rfl rfl) ?_ | refine xi _ (fun _ => And.intro rfl rfl) ?_ | refine xi _ rfl ?_ | refine xi _ (fun _ => fb1) ?_ | refine xi _ fb1 ?_ | (refine And.intro ⟨rfl, lCR, lCR, aCR⟩ ?_))
  (conv => whnf)
  refine called_at (.t [.a CS, .v (.int .i64 0)]) rfl (fun w' hh => by exact hAs A9 c9 w' (ro_of_row hh (id := 36) rfl)) ?_
  repeat' ((conv => whnf); first | refine walk (Try.ok ..) ?_ | (refine Cnd.mk (fun h => ?_) (fun h => ?_) <;> (first | exact cndT h (by (try dsimp only); omega) | exact cndF h (by (try dsimp only); omega) | (exfalso; simp at h; omega) | simp at h | skip)) | refine kp ?_ ?_ | refine tw ?_ ?_ | exact trivial | refine side2 ?_ | refine sideL2 ?_ | refine Or.inr ?_ | refine sat_drawH (Try.ok ..) (by kernel_rfl) ?_ | refine xi _ (And.intro rfl rfl) ?_ | refine xi _ (fun _ => And.intro rfl rfl) ?_ | refine xi _ rfl ?_)
  (conv => whnf)
  intro g22 hg22
  repeat' ((conv => whnf); first | refine walk (Try.ok ..) ?_ | (refine Cnd.mk (fun h => ?_) (fun h => ?_) <;> (first | exact cndT h (by (try dsimp only); omega) | exact cndF h (by (try dsimp only); omega) | (exfalso; simp at h; omega) | simp at h | skip)) | refine kp ?_ ?_ | refine tw ?_ ?_ | exact trivial | refine side2 ?_ | refine sideL2 ?_ | refine Or.inr ?_ | refine sat_drawH (Try.ok ..) (by kernel_rfl) ?_ | refine xi _ (And.intro rfl rfl) ?_ | refine xi _ (fun _ => And.intro rfl rfl) ?_ | refine xi _ rfl ?_ | refine xi _ (fun _ => fa0) ?_ | refine xi _ fa0 ?_ | refine xi _ (fun _ => fa2) ?_ | refine xi _ fa2 ?_ | refine xi _ (fun _ => fa3) ?_ | refine xi _ fa3 ?_ | refine xi _ (fun _ => fa4) ?_ | refine xi _ fa4 ?_ | (refine And.intro ⟨rfl, lCS, lCS, aCS⟩ ?_))
  refine calledQ_pure (.a (frC r0)) rfl (fun _ w' => by rw [br.1]; exact of_frac a.d w' (by refine ⟨?_, ?_⟩ <;> omega)) ?_
  repeat' ((conv => whnf); first | refine walk (Try.ok ..) ?_ | (refine Cnd.mk (fun h => ?_) (fun h => ?_) <;> (first | exact cndT h (by (try dsimp only); omega) | exact cndF h (by (try dsimp only); omega) | (exfalso; simp at h; omega) | simp at h | skip)) | refine kp ?_ ?_ | refine tw ?_ ?_ | exact trivial | refine side2 ?_ | refine sideL2 ?_ | refine Or.inr ?_ | refine sat_drawH (Try.ok ..) (by kernel_rfl) ?_ | refine xi _ (And.intro rfl rfl) ?_ | refine xi _ (fun _ => And.intro rfl rfl) ?_ | refine xi _ rfl ?_ | refine xi _ (fun _ => fa0) ?_ | refine xi _ fa0 ?_ | refine xi _ (fun _ => fa2) ?_ | refine xi _ fa2 ?_ | refine xi _ (fun _ => fa3) ?_ | refine xi _ fa3 ?_ | refine xi _ (fun _ => fa4) ?_ | refine xi _ fa4 ?_)
  refine calledQ_pure (.a (frC r1)) rfl (fun _ w' => by rw [br.2.1]; exact of_frac a.b w' (by refine ⟨?_, ?_⟩ <;> omega)) ?_
  repeat' ((conv => whnf); first | refine walk (Try.ok ..) ?_ | (refine Cnd.mk (fun h => ?_) (fun h => ?_) <;> (first | exact cndT h (by (try dsimp only); omega) | exact cndF h (by (try dsimp only); omega) | (exfalso; simp at h; omega) | simp at h | skip)) | refine kp ?_ ?_ | refine tw ?_ ?_ | exact trivial | refine side2 ?_ | refine sideL2 ?_ | refine Or.inr ?_ | refine sat_drawH (Try.ok ..) (by kernel_rfl) ?_ | refine xi _ (And.intro rfl rfl) ?_ | refine xi _ (fun _ => And.intro rfl rfl) ?_ | refine xi _ rfl ?_ | refine xi _ (fun _ => fa0) ?_ | refine xi _ fa0 ?_ | refine xi _ (fun _ => fa2) ?_ | refine xi _ fa2 ?_ | refine xi _ (fun _ => fa3) ?_ | refine xi _ fa3 ?_ | refine xi _ (fun _ => fa4) ?_ | refine xi _ fa4 ?_)
  refine calledQ_pure (.a (frC r2)) rfl (fun _ w' => by rw [br.2.2.1]; exact of_frac a.m w' (by refine ⟨?_, ?_⟩ <;> omega)) ?_
  repeat' ((conv => whnf); first | refine walk (Try.ok ..) ?_ | (refine Cnd.mk (fun h => ?_) (fun h => ?_) <;> (first | exact cndT h (by (try dsimp only); omega) | exact cndF h (by (try dsimp only); omega) | (exfalso; simp at h; omega) | simp at h | skip)) | refine kp ?_ ?_ | refine tw ?_ ?_ | exact trivial | refine side2 ?_ | refine sideL2 ?_ | refine Or.inr ?_ | refine sat_drawH (Try.ok ..) (by kernel_rfl) ?_ | refine xi _ (And.intro rfl rfl) ?_ | refine xi _ (fun _ => And.intro rfl rfl) ?_ | refine xi _ rfl ?_ | refine xi _ (fun _ => fa0) ?_ | refine xi _ fa0 ?_ | refine xi _ (fun _ => fa2) ?_ | refine xi _ fa2 ?_ | refine xi _ (fun _ => fa3) ?_ | refine xi _ fa3 ?_ | refine xi _ (fun _ => fa4) ?_ | refine xi _ fa4 ?_)
  refine calledQ_pure (.a (frC r3)) rfl (fun _ w' => by rw [br.2.2.2]; exact of_frac a.t w' (by refine ⟨?_, ?_⟩ <;> omega)) ?_
  repeat' ((conv => whnf); first | refine walk (Try.ok ..) ?_ | (refine Cnd.mk (fun h => ?_) (fun h => ?_) <;> (first | exact cndT h (by (try dsimp only); omega) | exact cndF h (by (try dsimp only); omega) | (exfalso; simp at h; omega) | simp at h | skip)) | refine kp ?_ ?_ | refine tw ?_ ?_ | exact trivial | refine side2 ?_ | refine sideL2 ?_ | refine Or.inr ?_ | refine sat_drawH (Try.ok ..) (by kernel_rfl) ?_ | refine xi _ (And.intro rfl rfl) ?_ | refine xi _ (fun _ => And.intro rfl rfl) ?_ | refine xi _ rfl ?_)
  refine eqAgg_neq true eqV4_g (fun w => by exact hE w) ?_
  repeat' ((conv => whnf); first | refine walk (Try.ok ..) ?_ | (refine Cnd.mk (fun h => ?_) (fun h => ?_) <;> (first | exact cndT h (by (try dsimp only); omega) | exact cndF h (by (try dsimp only); omega) | (exfalso; simp at h; omega) | simp at h | skip)) | refine kp ?_ ?_ | refine tw ?_ ?_ | exact trivial | refine side2 ?_ | refine sideL2 ?_ | refine Or.inr ?_ | refine sat_drawH (Try.ok ..) (by kernel_rfl) ?_ | refine xi _ (And.intro rfl rfl) ?_ | refine xi _ (fun _ => And.intro rfl rfl) ?_ | refine xi _ rfl ?_)
  refine sat_loop (Try.ok ..) (α := Nat) (fun k => ([(8, .yes, .v (.bool false)), (14, .yes, .p 14 g14 0 0), (16, .yes, .p 16 g16 0 0), (18, .yes, .p 18 g18 0 0), (20, .yes, .p 20 g20 0 0), (22, .yes, .p 22 g22 0 0), (170, .yes, .v (.int .i64 (k : Nat)))], [(14, .blk g14 45 CP), (16, .blk g16 45 CQ), (18, .blk g18 45 CN), (20, .blk g20 45 CR), (22, .blk g22 45 CS)]))
    (fun k => k ≤ 4) (fun k => 4 - k) (fun _ => rfl) ?_ ?_
  · refine ⟨0, by omega, ?_, ?_, rfl⟩
    all_goals ((repeat' (first | exact trivial | exact rfl | refine And.intro ?_ ?_)) <;> (try (conv => whnf)) <;> (try simp only [SV.real, SV.r2, SV.r1]))
  intro k hk
  by_cases hk4 : k < 4
  case neg =>
    repeat' ((conv => whnf); first | refine walk (Try.ok ..) ?_ | (refine Cnd.mk (fun h => ?_) (fun h => ?_) <;> (first | exact cndT h (by (try dsimp only); omega) | exact cndF h (by (try dsimp only); omega) | (exfalso; simp at h; omega) | simp at h | skip)) | refine kp ?_ ?_ | refine tw ?_ ?_ | exact trivial | refine side2 ?_ | refine sideL2 ?_ | refine Or.inr ?_ | refine sat_drawH (Try.ok ..) (by kernel_rfl) ?_ | refine xi _ (And.intro rfl rfl) ?_ | refine xi _ (fun _ => And.intro rfl rfl) ?_ | refine xi _ rfl ?_)
    exact done_pure rfl rfl rfl
  obtain ⟨p, q, n, r, s, Z, c1, c2, ep, eq, en, er, es, hm, bp, bq, bn, br', bs⟩ := hmean k hk4
  have cp : 0 ≤ (k : Int) ∧ (k : Int) < (4 : Nat) := by omega
  have bZ : Big Z := by have := addE_big p q; rw [hm.add] at this; exact this
  have hadd : ∀ w', Calls Try.prog 14 #[(SV.a (List.take 17 (List.drop ((k : Int).toNat * 17) CP))).real, (SV.a (List.take 17 (List.drop ((k : Int).toNat * 17) CQ))).real] w' fun e w2 => e = .returned (.tuple #[frV Z, .int .i64 0]) ∧ Below w'.heap.size w' w2 := fun w' => by
    rw [kCP k p ep, kCQ k q eq]
    have := addE_any p q w' bp bq
    rw [hm.add] at this
    exact this
  have hdiv : ∀ w', Calls Try.prog 19 #[(SV.a (List.take 17 (List.drop 0 (frC Z)))).real, frV (ofF 2)] w' fun e w2 => e = .returned (.tuple #[frV n, .int .i64 0]) ∧ Below w'.heap.size w' w2 := fun w' => by
    rw [tk1]
    have := div_any Z (ofF 2) w' bZ (ofF_big _)
    rw [hm.div] at this
    exact this
  have hlo : ∀ w', Calls Try.prog 20 #[(SV.a (List.take 17 (List.drop ((k : Int).toNat * 17) CR))).real, (SV.a (List.take 17 (List.drop ((k : Int).toNat * 17) CN))).real] w' fun e w2 => e = .returned (.tuple #[.int .i64 c1, .int .i64 0]) ∧ Below w'.heap.size w' w2 := fun w' => by
    rw [kCR k r er, kCN k n en]
    have := cmpE_any r n w' br' bn
    rw [hm.lo] at this
    exact this
  have hhi : ∀ w', Calls Try.prog 20 #[(SV.a (List.take 17 (List.drop ((k : Int).toNat * 17) CN))).real, (SV.a (List.take 17 (List.drop ((k : Int).toNat * 17) CS))).real] w' fun e w2 => e = .returned (.tuple #[.int .i64 c2, .int .i64 0]) ∧ Below w'.heap.size w' w2 := fun w' => by
    rw [kCN k n en, kCS k s es]
    have := cmpE_any n s w' bn bs
    rw [hm.hi] at this
    exact this
  have lZ := frC_len Z
  have ln := frC_len n
  repeat' ((conv => whnf); first | refine walk (Try.ok ..) ?_ | (refine Cnd.mk (fun h => ?_) (fun h => ?_) <;> (first | exact cndT h (by (try dsimp only); omega) | exact cndF h (by (try dsimp only); omega) | (exfalso; simp at h; omega) | simp at h | skip)) | refine kp ?_ ?_ | refine tw ?_ ?_ | exact trivial | refine side2 ?_ | refine sideL2 ?_ | refine Or.inr ?_ | refine xi _ (And.intro rfl rfl) ?_ | refine xi _ (fun _ => And.intro rfl rfl) ?_ | refine xi _ rfl ?_)
  (conv => whnf)
  refine sat_join0 (fun (g : Nat) => ([(8, .yes, .v (.bool false)), (14, .yes, .p 14 g14 0 0), (16, .yes, .p 16 g16 0 0), (18, .yes, .p 18 g18 0 0), (20, .yes, .p 20 g20 0 0), (22, .yes, .p 22 g22 0 0), (24, .yes, .v (.int .i64 (k : Nat))), (25, .yes, .p 25 g 0 0), (26, .yes, .v (.int .i64 0)), (170, .yes, .v (.int .i64 (k : Nat)))], [(14, .blk g14 45 CP), (16, .blk g16 45 CQ), (18, .blk g18 45 CN), (20, .blk g20 45 CR), (22, .blk g22 45 CS), (25, .blk g 26 (frC Z))])) (fun _ => True) (fun _ => rfl) ?_ ?_
  · refine sat_drawH (Try.ok ..) (by kernel_rfl) ?_
    repeat' ((conv => whnf); first | refine walk (Try.ok ..) ?_ | (refine Cnd.mk (fun h => ?_) (fun h => ?_) <;> (first | exact cndT h (by (try dsimp only); omega) | exact cndF h (by (try dsimp only); omega) | (exfalso; simp at h; omega) | simp at h | skip)) | refine kp ?_ ?_ | refine tw ?_ ?_ | exact trivial | refine side2 ?_ | refine sideL2 ?_ | refine Or.inr ?_ | refine sat_drawH (Try.ok ..) (by kernel_rfl) ?_ | refine xi _ (And.intro rfl rfl) ?_ | refine xi _ (fun _ => And.intro rfl rfl) ?_ | refine xi _ rfl ?_ | intro g hg | ((show Called _ _ [SV.a (List.take _ (List.drop _ CP))] _ _; refine called_pure (.a CP) rfl (fun w' => by exact hlp w') ?_)) | ((show Called _ _ [SV.a (List.take _ (List.drop _ CQ))] _ _; refine called_pure (.a CQ) rfl (fun w' => by exact hlq w') ?_)) | ((show Called _ 14 _ _ _; refine called_pure (.t [.a (frC Z), .v (.int .i64 0)]) rfl (fun w' => by exact hadd w') ?_)) | (exact ⟨g, trivial, by ((repeat' (first | exact trivial | exact rfl | refine And.intro ?_ ?_)) <;> (try (conv => whnf)) <;> (try simp only [SV.real, SV.r2, SV.r1])), by ((repeat' (first | exact trivial | exact rfl | refine And.intro ?_ ?_)) <;> (try (conv => whnf)) <;> (try simp only [SV.real, SV.r2, SV.r1])), rfl⟩))
  rintro g25 -
  have l2 := frC_len (ofF 2)
  repeat' ((conv => whnf); first | refine walk (Try.ok ..) ?_ | (refine Cnd.mk (fun h => ?_) (fun h => ?_) <;> (first | exact cndT h (by (try dsimp only); omega) | exact cndF h (by (try dsimp only); omega) | (exfalso; simp at h; omega) | simp at h | skip)) | refine kp ?_ ?_ | refine tw ?_ ?_ | exact trivial | refine side2 ?_ | refine sideL2 ?_ | refine Or.inr ?_ | refine xi _ (And.intro rfl rfl) ?_ | refine xi _ (fun _ => And.intro rfl rfl) ?_ | refine xi _ rfl ?_)
  (conv => whnf)
  refine sat_join0 (fun (g : Nat) => ([(8, .yes, .v (.bool false)), (14, .yes, .p 14 g14 0 0), (16, .yes, .p 16 g16 0 0), (18, .yes, .p 18 g18 0 0), (20, .yes, .p 20 g20 0 0), (22, .yes, .p 22 g22 0 0), (24, .yes, .v (.int .i64 (k : Nat))), (26, .yes, .v (.int .i64 0)), (27, .yes, .p 27 g 0 0), (28, .yes, .v (.int .i64 0)), (170, .yes, .v (.int .i64 (k : Nat)))], [(14, .blk g14 45 CP), (16, .blk g16 45 CQ), (18, .blk g18 45 CN), (20, .blk g20 45 CR), (22, .blk g22 45 CS), (27, .blk g 26 (frC n))])) (fun _ => True) (fun _ => rfl) ?_ ?_
  · refine sat_drawH (Try.ok ..) (by kernel_rfl) ?_
    repeat' ((conv => whnf); first | refine walk (Try.ok ..) ?_ | (refine Cnd.mk (fun h => ?_) (fun h => ?_) <;> (first | exact cndT h (by (try dsimp only); omega) | exact cndF h (by (try dsimp only); omega) | (exfalso; simp at h; omega) | simp at h | skip)) | refine kp ?_ ?_ | refine tw ?_ ?_ | exact trivial | refine side2 ?_ | refine sideL2 ?_ | refine Or.inr ?_ | refine sat_drawH (Try.ok ..) (by kernel_rfl) ?_ | refine xi _ (And.intro rfl rfl) ?_ | refine xi _ (fun _ => And.intro rfl rfl) ?_ | refine xi _ rfl ?_ | intro g hg | ((show Called _ 13 _ _ _; refine called_pure (.a (frC (ofF 2))) rfl (fun w' => by exact of_frac 2 w' i64) ?_)) | ((show Called _ 19 _ _ _; refine called_pure (.t [.a (frC n), .v (.int .i64 0)]) rfl (fun w' => by exact hdiv w') ?_)) | (exact ⟨g, trivial, by ((repeat' (first | exact trivial | exact rfl | refine And.intro ?_ ?_)) <;> (try (conv => whnf)) <;> (try simp only [SV.real, SV.r2, SV.r1])), by ((repeat' (first | exact trivial | exact rfl | refine And.intro ?_ ?_)) <;> (try (conv => whnf)) <;> (try simp only [SV.real, SV.r2, SV.r1])), rfl⟩))
  rintro g27 -
  have hcc : 0 ≤ c1 * c2 ∧ c1 * c2 ≤ 1 := by
    refine ⟨hm.pos, ?_⟩
    obtain ⟨_, _⟩ := hm.bd1
    obtain ⟨_, _⟩ := hm.bd2
    rcases (by omega : c1 = -1 ∨ c1 = 0 ∨ c1 = 1) with h | h | h <;> subst h <;> omega
  have hne : ∀ w, (Op.equal 26 (SV.a (List.take 17 (List.drop 0 (frC n)))).real (SV.a (List.take 17 (List.drop ((k : Int).toNat * 17) CN))).real).run Try.prog w = .ok true w := fun w => by
    rw [kCN k n en]
    exact fr_same bn w
  have hn1 : (0 : Int) ≤ k := by omega
  repeat' ((conv => whnf); first | refine walk (Try.ok ..) ?_ | (refine Cnd.mk (fun h => ?_) (fun h => ?_) <;> (first | exact cndT h (by (try dsimp only); omega) | exact cndF h (by (try dsimp only); omega) | (exfalso; simp at h; omega) | simp at h | skip)) | refine kp ?_ ?_ | refine tw ?_ ?_ | exact trivial | refine side2 ?_ | refine sideL2 ?_ | refine Or.inr ?_ | refine sat_drawH (Try.ok ..) (by kernel_rfl) ?_ | refine xi _ (And.intro rfl rfl) ?_ | refine xi _ (fun _ => And.intro rfl rfl) ?_ | refine xi _ rfl ?_)
  refine calledQ_pure (.a CR) rfl (fun _ w' => by exact hlr w') ?_
  repeat' ((conv => whnf); first | refine walk (Try.ok ..) ?_ | (refine Cnd.mk (fun h => ?_) (fun h => ?_) <;> (first | exact cndT h (by (try dsimp only); omega) | exact cndF h (by (try dsimp only); omega) | (exfalso; simp at h; omega) | simp at h | skip)) | refine kp ?_ ?_ | refine tw ?_ ?_ | exact trivial | refine side2 ?_ | refine sideL2 ?_ | refine Or.inr ?_ | refine sat_drawH (Try.ok ..) (by kernel_rfl) ?_ | refine xi _ (And.intro rfl rfl) ?_ | refine xi _ (fun _ => And.intro rfl rfl) ?_ | refine xi _ rfl ?_)
  refine calledQ_pure (.a CN) rfl (fun _ w' => by exact hln w') ?_
  repeat' ((conv => whnf); first | refine walk (Try.ok ..) ?_ | (refine Cnd.mk (fun h => ?_) (fun h => ?_) <;> (first | exact cndT h (by (try dsimp only); omega) | exact cndF h (by (try dsimp only); omega) | (exfalso; simp at h; omega) | simp at h | skip)) | refine kp ?_ ?_ | refine tw ?_ ?_ | exact trivial | refine side2 ?_ | refine sideL2 ?_ | refine Or.inr ?_ | refine sat_drawH (Try.ok ..) (by kernel_rfl) ?_ | refine xi _ (And.intro rfl rfl) ?_ | refine xi _ (fun _ => And.intro rfl rfl) ?_ | refine xi _ rfl ?_)
  refine calledQ_pure (.t [.v (.int .i64 c1), .v (.int .i64 0)]) rfl (fun _ w' => by exact hlo w') ?_
  repeat' ((conv => whnf); first | refine walk (Try.ok ..) ?_ | (refine Cnd.mk (fun h => ?_) (fun h => ?_) <;> (first | exact cndT h (by (try dsimp only); omega) | exact cndF h (by (try dsimp only); omega) | (exfalso; simp at h; omega) | simp at h | skip)) | refine kp ?_ ?_ | refine tw ?_ ?_ | exact trivial | refine side2 ?_ | refine sideL2 ?_ | refine Or.inr ?_ | refine sat_drawH (Try.ok ..) (by kernel_rfl) ?_ | refine xi _ (And.intro rfl rfl) ?_ | refine xi _ (fun _ => And.intro rfl rfl) ?_ | refine xi _ rfl ?_)
  refine calledQ_pure (.a CN) rfl (fun _ w' => by exact hln w') ?_
  repeat' ((conv => whnf); first | refine walk (Try.ok ..) ?_ | (refine Cnd.mk (fun h => ?_) (fun h => ?_) <;> (first | exact cndT h (by (try dsimp only); omega) | exact cndF h (by (try dsimp only); omega) | (exfalso; simp at h; omega) | simp at h | skip)) | refine kp ?_ ?_ | refine tw ?_ ?_ | exact trivial | refine side2 ?_ | refine sideL2 ?_ | refine Or.inr ?_ | refine sat_drawH (Try.ok ..) (by kernel_rfl) ?_ | refine xi _ (And.intro rfl rfl) ?_ | refine xi _ (fun _ => And.intro rfl rfl) ?_ | refine xi _ rfl ?_)
  refine calledQ_pure (.a CS) rfl (fun _ w' => by exact hls w') ?_
  repeat' ((conv => whnf); first | refine walk (Try.ok ..) ?_ | (refine Cnd.mk (fun h => ?_) (fun h => ?_) <;> (first | exact cndT h (by (try dsimp only); omega) | exact cndF h (by (try dsimp only); omega) | (exfalso; simp at h; omega) | simp at h | skip)) | refine kp ?_ ?_ | refine tw ?_ ?_ | exact trivial | refine side2 ?_ | refine sideL2 ?_ | refine Or.inr ?_ | refine sat_drawH (Try.ok ..) (by kernel_rfl) ?_ | refine xi _ (And.intro rfl rfl) ?_ | refine xi _ (fun _ => And.intro rfl rfl) ?_ | refine xi _ rfl ?_)
  refine calledQ_pure (.t [.v (.int .i64 c2), .v (.int .i64 0)]) rfl (fun _ w' => by exact hhi w') ?_
  repeat' ((conv => whnf); first | refine walk (Try.ok ..) ?_ | (refine Cnd.mk (fun h => ?_) (fun h => ?_) <;> (first | exact cndT h (by (try dsimp only); omega) | exact cndF h (by (try dsimp only); omega) | (exfalso; simp at h; omega) | simp at h | skip)) | refine kp ?_ ?_ | refine tw ?_ ?_ | exact trivial | refine side2 ?_ | refine sideL2 ?_ | refine Or.inr ?_ | refine sat_drawH (Try.ok ..) (by kernel_rfl) ?_ | refine xi _ (And.intro rfl rfl) ?_ | refine xi _ (fun _ => And.intro rfl rfl) ?_ | refine xi _ rfl ?_)
  refine calledQ_pure (.a CN) rfl (fun _ w' => by exact hln w') ?_
  repeat' ((conv => whnf); first | refine walk (Try.ok ..) ?_ | (refine Cnd.mk (fun h => ?_) (fun h => ?_) <;> (first | exact cndT h (by (try dsimp only); omega) | exact cndF h (by (try dsimp only); omega) | (exfalso; simp at h; omega) | simp at h | skip)) | refine kp ?_ ?_ | refine tw ?_ ?_ | exact trivial | refine side2 ?_ | refine sideL2 ?_ | refine Or.inr ?_ | refine sat_drawH (Try.ok ..) (by kernel_rfl) ?_ | refine xi _ (And.intro rfl rfl) ?_ | refine xi _ (fun _ => And.intro rfl rfl) ?_ | refine xi _ rfl ?_)
  refine eqAgg_neq true eqgFr1 (fun w => by exact hne w) ?_
  repeat' ((conv => whnf); first | refine walk (Try.ok ..) ?_ | (refine Cnd.mk (fun h => ?_) (fun h => ?_) <;> (first | exact cndT h (by (try dsimp only); omega) | exact cndF h (by (try dsimp only); omega) | (exfalso; simp at h; omega) | simp at h | skip)) | refine kp ?_ ?_ | refine tw ?_ ?_ | exact trivial | refine side2 ?_ | refine sideL2 ?_ | refine Or.inr ?_ | refine sat_drawH (Try.ok ..) (by kernel_rfl) ?_ | refine xi _ (And.intro rfl rfl) ?_ | refine xi _ (fun _ => And.intro rfl rfl) ?_ | refine xi _ rfl ?_)
  refine ⟨k + 1, ⟨by omega, by omega⟩, ?_, ?_, rfl⟩
  all_goals ((repeat' (first | exact trivial | exact rfl | refine And.intro ?_ ?_)) <;> (try (conv => whnf)) <;> (try simp only [SV.real, SV.r2, SV.r1]))
end Go.Proofs.Ytomhfakkebaciaa
