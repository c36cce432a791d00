/-
  The walks of the hydro package: the values at a weight.
-/
import Derived.Test.YtomhfakkebaciaaH5
set_option linter.unusedSimpArgs false
set_option linter.unusedVariables false
namespace Go.Proofs.Ytomhfakkebaciaa
open Go Sat Go.RowKit Go.PlainAid
def v4C (l : List Fr) : List SV := l.flatMap frC
def v4V (l : List Fr) : Value := (SV.a (v4C l)).real
theorem at_no {l : List HRow} {k : Int} (h : rightH l = false) : atH l k = (zero4, 2) := by unfold atH; rw [h]; rfl
theorem at_out {l : List HRow} {k : Int} {a b : HRow} (h : rightH l = true) (ha : l[0]? = some a) (hb : l[l.length - 1]? = some b) (hi : inB k a.k b.k = false) : atH l k = (zero4, 6) := by
  unfold atH
  rw [if_pos h, range_yes h ha hb]
  dsimp only
  rw [hi]
  rfl
theorem v4_len (l : List Fr) : (v4C l).length = l.length * 17 := by
  induction l with
  | nil => rfl
  | cons x l ih =>
    unfold v4C at ih ⊢
    rw [List.flatMap_cons, List.length_append, ih, frC_len, List.length_cons]
    omega
theorem v4_set (l : List Fr) (i : Nat) (c : Fr) (h : i < l.length) : (v4C l).take (i * 17) ++ frC c ++ (v4C l).drop (i * 17 + 17) = v4C (l.set i c) := by
  induction l generalizing i with
  | nil => simp at h
  | cons x l ih =>
    have hx := frC_len x
    cases i with
    | zero =>
      unfold v4C
      simp only [List.flatMap_cons, List.set_cons_zero, Nat.zero_mul, List.take_zero, List.nil_append, Nat.zero_add]
      rw [List.drop_append_of_le_length (by omega), List.drop_of_length_le (by omega), List.nil_append]
    | succ i =>
      have := ih i (by simpa using h)
      unfold v4C at this ⊢
      simp only [List.flatMap_cons, List.set_cons_succ]
      rw [← this, show (i + 1) * 17 = (frC x).length + i * 17 from by omega, List.take_length_add_append, Nat.add_assoc, List.drop_length_add_append]
      simp only [List.append_assoc]
theorem two_rows {f g u v : Int} (hf : -10000000000 ≤ f ∧ f ≤ 10000000000) (hg : -10000000000 ≤ g ∧ g ≤ 10000000000) (hu : 0 ≤ u) (hv : 0 ≤ v) (h : u + v ≤ 500000000) :
    (-5000000000000000000 ≤ f * u ∧ f * u ≤ 5000000000000000000) ∧ (-5000000000000000000 ≤ g * v ∧ g * v ≤ 5000000000000000000) ∧ -5000000000000000000 ≤ f * u + g * v ∧ f * u + g * v ≤ 5000000000000000000 := by
  have a1 : f * u ≤ 10000000000 * u := Int.mul_le_mul_of_nonneg_right hf.2 hu
  have a2 : -10000000000 * u ≤ f * u := Int.mul_le_mul_of_nonneg_right hf.1 hu
  have b1 : g * v ≤ 10000000000 * v := Int.mul_le_mul_of_nonneg_right hg.2 hv
  have b2 : -10000000000 * v ≤ g * v := Int.mul_le_mul_of_nonneg_right hg.1 hv
  omega
theorem v4_at {l : List Fr} {i : Nat} {c : Fr} (h : l[i]? = some c) : ((v4C l).drop (i * 17)).take 17 = frC c := by
  induction l generalizing i with
  | nil => simp at h
  | cons x l ih =>
    have hx := frC_len x
    cases i with
    | zero =>
      simp at h
      subst h
      unfold v4C
      rw [Nat.zero_mul, List.drop_zero, List.flatMap_cons, List.take_append_of_le_length (by omega), List.take_of_length_le (by omega)]
    | succ i =>
      have := ih (i := i) (by simpa using h)
      unfold v4C at this ⊢
      rw [List.flatMap_cons, show (i + 1) * 17 = (frC x).length + i * 17 from by omega, List.drop_length_add_append]
      exact this
def put17 (l0 : List SV) (off : Nat) (A : List SV) : List SV := l0.take off ++ A ++ l0.drop (off + 17)
theorem bl4 (a b c d : Fr) : put17 (put17 (put17 (put17 (v4C zero4) 0 (((v4C [a, b, c, d]).drop 0).take 17)) 17 (((v4C [a, b, c, d]).drop 17).take 17)) 34 (((v4C [a, b, c, d]).drop 34).take 17)) 51 (((v4C [a, b, c, d]).drop 51).take 17) = v4C [a, b, c, d] := by
  have s0 := v4_set zero4 0 a (by decide)
  have s1 := v4_set (zero4.set 0 a) 1 b (by show 1 < 4; decide)
  have s2 := v4_set ((zero4.set 0 a).set 1 b) 2 c (by show 2 < 4; decide)
  have s3 := v4_set (((zero4.set 0 a).set 1 b).set 2 c) 3 d (by show 3 < 4; decide)
  have t0 := v4_at (l := [a, b, c, d]) (i := 0) (c := a) rfl
  have t1 := v4_at (l := [a, b, c, d]) (i := 1) (c := b) rfl
  have t2 := v4_at (l := [a, b, c, d]) (i := 2) (c := c) rfl
  have t3 := v4_at (l := [a, b, c, d]) (i := 3) (c := d) rfl
  simp only [Nat.zero_mul, Nat.one_mul, Nat.reduceMul, Nat.reduceAdd] at s0 s1 s2 s3 t0 t1 t2 t3
  rw [t0, t1, t2, t3]
  unfold put17
  rw [s0, s1, s2, s3]
  rfl
theorem v4_all (l : List Fr) : allV ((v4C l).map SV.r1) = true := by
  refine allV_of fun u hu => ?_
  obtain ⟨s, hs, rfl⟩ := List.mem_map.1 hu
  unfold v4C at hs
  obtain ⟨f, _, hf⟩ := List.mem_flatMap.1 hs
  exact allV_mem (frC_cells f) _ (List.mem_map_of_mem hf)
def fnC : List SV := [.v (.func (.func 67) #[] #[]), .v (.func (.func 68) #[] #[]), .v (.func (.func 69) #[] #[]), .v (.func (.func 70) #[] #[])]
set_option maxRecDepth 100000 in
set_option maxHeartbeats 16000000 in
theorem at_any (l : List HRow) (k : Int) (A : Option (Nat × Nat)) (cap : Nat) (w : World) (hA : Ro w A l.length 5 (rwL l)) (hl : l.length ≤ 9223372036854775807) (hk : I64 k) :
    Calls Try.prog 17 #[.slice (adr A) l.length cap, .int .i64 k] w fun e w' => e = .returned (.tuple #[v4V (atH l k).1, .int .i64 (atH l k).2]) ∧ Below w.heap.size w w' := by
  refine calls_sat (cx := Try.cx 92 [8, 13] [] [] w) (Try.ok ..) Try.func17 rfl [.o 300 A l.length cap, .v (.int .i64 k)] rfl (by show 2 ≤ 92; omega) [(300, .ro A l.length 5 (rwL l))] (holds_ros rfl rfl ⟨hA, trivial⟩) ?_
  repeat' ((conv => whnf); first | refine walk (Try.ok ..) ?_ | (refine Cnd.mk (fun h => ?_) (fun h => ?_) <;> (first | exact cndT h (by (try dsimp only); omega) | exact cndF h (by (try dsimp only); omega) | (exfalso; simp at h; omega) | simp at h | skip)) | refine kp ?_ ?_ | refine tw ?_ ?_ | exact trivial | refine side2 ?_ | refine sideL2 ?_ | refine Or.inr ?_ | refine sat_drawH (Try.ok ..) (by kernel_rfl) ?_ | refine xi _ (And.intro rfl rfl) ?_ | refine xi _ (fun _ => And.intro rfl rfl) ?_ | refine xi _ rfl ?_)
  (conv => whnf)
  intro g4 hg4
  repeat' ((conv => whnf); first | refine walk (Try.ok ..) ?_ | (refine Cnd.mk (fun h => ?_) (fun h => ?_) <;> (first | exact cndT h (by (try dsimp only); omega) | exact cndF h (by (try dsimp only); omega) | (exfalso; simp at h; omega) | simp at h | skip)) | refine kp ?_ ?_ | refine tw ?_ ?_ | exact trivial | refine side2 ?_ | refine sideL2 ?_ | refine Or.inr ?_ | refine sat_drawH (Try.ok ..) (by kernel_rfl) ?_ | refine xi _ (And.intro rfl rfl) ?_ | refine xi _ (fun _ => And.intro rfl rfl) ?_ | refine xi _ rfl ?_)
  (conv => whnf)
  refine called_at (.t [.v (.int .i64 (rangeH l).1.1), .v (.int .i64 (rangeH l).1.2), .v (.int .i64 (rangeH l).2)]) rfl (fun w' hh => by exact hRange_any l A cap w' (ro_of_ro hh (id := 300) rfl) hl) ?_
  cases hr : rightH l with
  | false =>
    rw [range_no hr]
    repeat' ((conv => whnf); first | refine walk (Try.ok ..) ?_ | (refine Cnd.mk (fun h => ?_) (fun h => ?_) <;> (first | exact cndT h (by (try dsimp only); omega) | exact cndF h (by (try dsimp only); omega) | (exfalso; simp at h; omega) | simp at h | skip)) | refine kp ?_ ?_ | refine tw ?_ ?_ | exact trivial | refine side2 ?_ | refine sideL2 ?_ | refine Or.inr ?_ | refine sat_drawH (Try.ok ..) (by kernel_rfl) ?_ | refine xi _ (And.intro rfl rfl) ?_ | refine xi _ (fun _ => And.intro rfl rfl) ?_ | refine xi _ rfl ?_)
    refine done_pure rfl rfl ?_
    rw [at_no hr]
    rfl
  | true =>
    have h2 := (right_is hr).two
    have h100 := (right_is hr).most
    obtain ⟨lo, hlo⟩ : ∃ a, l[0]? = some a := ⟨_, List.getElem?_eq_getElem (by omega)⟩
    obtain ⟨hi, hhi⟩ : ∃ b, l[l.length - 1]? = some b := ⟨_, List.getElem?_eq_getElem (by omega)⟩
    rw [range_yes hr hlo hhi]
    repeat' ((conv => whnf); first | refine walk (Try.ok ..) ?_ | (refine Cnd.mk (fun h => ?_) (fun h => ?_) <;> (first | exact cndT h (by (try dsimp only); omega) | exact cndF h (by (try dsimp only); omega) | (exfalso; simp at h; omega) | simp at h | skip)) | refine kp ?_ ?_ | refine tw ?_ ?_ | exact trivial | refine side2 ?_ | refine sideL2 ?_ | refine Or.inr ?_ | refine sat_drawH (Try.ok ..) (by kernel_rfl) ?_ | refine xi _ (And.intro rfl rfl) ?_ | refine xi _ (fun _ => And.intro rfl rfl) ?_ | refine xi _ rfl ?_)
    (conv => whnf)
    refine called_pure (.v (.bool (inB k lo.k hi.k))) rfl (fun w' => within_any _ _ _ w') ?_
    cases hin : inB k lo.k hi.k with
    | false =>
      repeat' ((conv => whnf); first | refine walk (Try.ok ..) ?_ | (refine Cnd.mk (fun h => ?_) (fun h => ?_) <;> (first | exact cndT h (by (try dsimp only); omega) | exact cndF h (by (try dsimp only); omega) | (exfalso; simp at h; omega) | simp at h | skip)) | refine kp ?_ ?_ | refine tw ?_ ?_ | exact trivial | refine side2 ?_ | refine sideL2 ?_ | refine Or.inr ?_ | refine sat_drawH (Try.ok ..) (by kernel_rfl) ?_ | refine xi _ (And.intro rfl rfl) ?_ | refine xi _ (fun _ => And.intro rfl rfl) ?_ | refine xi _ rfl ?_)
      refine done_pure rfl rfl ?_
      rw [at_out hr hlo hhi hin]
      rfl
    | true =>
      have hv := heavy_is (right_is hr) k
      have hin2 : lo.k ≤ k ∧ k ≤ hi.k := by unfold inB at hin; simpa using hin
      have hlt : heavyI l k < l.length := by
        rcases Nat.lt_or_ge (heavyI l k) l.length with h3 | h3
        · exact h3
        · have := hv.below (l.length - 1) hi (by omega) hhi
          omega
      have h100' : l.length ≤ 100 := h100
      obtain ⟨a, ha⟩ : ∃ a, l[max (heavyI l k) 1 - 1]? = some a := ⟨_, List.getElem?_eq_getElem (by omega)⟩
      obtain ⟨b, hb⟩ : ∃ b, l[max (heavyI l k) 1]? = some b := ⟨_, List.getElem?_eq_getElem (by omega)⟩
      repeat' ((conv => whnf); first | refine walk (Try.ok ..) ?_ | (refine Cnd.mk (fun h => ?_) (fun h => ?_) <;> (first | exact cndT h (by (try dsimp only); omega) | exact cndF h (by (try dsimp only); omega) | (exfalso; simp at h; omega) | simp at h | skip)) | refine kp ?_ ?_ | refine tw ?_ ?_ | exact trivial | refine side2 ?_ | refine sideL2 ?_ | refine Or.inr ?_ | refine sat_drawH (Try.ok ..) (by kernel_rfl) ?_ | refine xi _ (And.intro rfl rfl) ?_ | refine xi _ (fun _ => And.intro rfl rfl) ?_ | refine xi _ rfl ?_)
      (conv => whnf)
      refine called_at (.t [.v (.int .i64 (heavyI l k)), .v (.bool (foundH l k))]) rfl (fun w' hh => by exact search_any l A cap k w' (ro_of_ro hh (id := 300) rfl) hr) ?_
      have ca := rw_cells ha (i := max (heavyI l k : Int) 1 - 1) (by omega)
      have cb := rw_cells hb (i := max (heavyI l k : Int) 1) (by omega)
      repeat' ((conv => whnf); first | refine walk (Try.ok ..) ?_ | (refine Cnd.mk (fun h => ?_) (fun h => ?_) <;> (first | exact cndT h (by (try dsimp only); omega) | exact cndF h (by (try dsimp only); omega) | (exfalso; simp at h; omega) | simp at h | skip)) | refine kp ?_ ?_ | refine tw ?_ ?_ | exact trivial | refine side2 ?_ | refine sideL2 ?_ | refine Or.inr ?_ | refine xi _ (And.intro rfl rfl) ?_ | refine xi _ (fun _ => And.intro rfl rfl) ?_ | refine xi _ rfl ?_)
      obtain ⟨z, hz⟩ : ∃ z, z = v4C zero4 := ⟨_, rfl⟩
      obtain ⟨o, ho⟩ : ∃ o : Nat → List SV, o = fun j => v4C ((valH a b k).take j ++ zero4.drop j) := ⟨_, rfl⟩
      have hz0 : z = o 0 := by rw [hz, ho]; rfl
      (conv => whnf)
      refine sat_join0 (fun (s : Nat × Nat) => ([(0, .yes, .o 300 A l.length cap), (1, .yes, .v (.int .i64 k)), (4, .yes, .p 4 g4 0 0), (5, .yes, .v (.int .i64 0)), (11, .yes, .p 11 s.1 0 0), (12, .yes, .p 12 s.2 0 0)], [(4, .blk g4 45 z), (11, .blk s.1 31 (rwC a)), (12, .blk s.2 31 (rwC b)), (300, .ro A l.length 5 (rwL l))])) (fun _ => True) (fun _ => rfl) ?_ ?_
      · refine sat_drawH (Try.ok ..) (by kernel_rfl) ?_
        repeat' ((conv => whnf); first | refine walk (Try.ok ..) ?_ | (refine Cnd.mk (fun h => ?_) (fun h => ?_) <;> (first | exact cndT h (by (try dsimp only); omega) | exact cndF h (by (try dsimp only); omega) | (exfalso; simp at h; omega) | simp at h | skip)) | refine kp ?_ ?_ | refine tw ?_ ?_ | exact trivial | refine side2 ?_ | refine sideL2 ?_ | refine Or.inr ?_ | refine sat_drawH (Try.ok ..) (by kernel_rfl) ?_ | refine xi _ (And.intro rfl rfl) ?_ | refine xi _ (fun _ => And.intro rfl rfl) ?_ | refine xi _ rfl ?_ | refine xi _ (fun _ => ca) ?_ | refine xi _ ca ?_ | refine xi _ (fun _ => cb) ?_ | refine xi _ cb ?_ | intro g hg | (exact ⟨(_, _), trivial, by ((repeat' (first | exact trivial | exact rfl | refine And.intro ?_ ?_)) <;> (try (conv => whnf)) <;> (try simp only [SV.real, SV.r2, SV.r1])), by (rw [hz]; ((repeat' (first | exact trivial | exact rfl | refine And.intro ?_ ?_)) <;> (try (conv => whnf)) <;> (try simp only [SV.real, SV.r2, SV.r1]))), rfl⟩))
      rintro ⟨g11, g12⟩ -
      repeat' ((conv => whnf); first | refine walk (Try.ok ..) ?_ | (refine Cnd.mk (fun h => ?_) (fun h => ?_) <;> (first | exact cndT h (by (try dsimp only); omega) | exact cndF h (by (try dsimp only); omega) | (exfalso; simp at h; omega) | simp at h | skip)) | refine kp ?_ ?_ | refine tw ?_ ?_ | exact trivial | refine side2 ?_ | refine sideL2 ?_ | refine Or.inr ?_ | refine sat_drawH (Try.ok ..) (by kernel_rfl) ?_ | refine xi _ (And.intro rfl rfl) ?_ | refine xi _ (fun _ => And.intro rfl rfl) ?_ | refine xi _ rfl ?_)
      (conv => whnf)
      intro g13 hg13
      repeat' ((conv => whnf); first | refine walk (Try.ok ..) ?_ | (refine Cnd.mk (fun h => ?_) (fun h => ?_) <;> (first | exact cndT h (by (try dsimp only); omega) | exact cndF h (by (try dsimp only); omega) | (exfalso; simp at h; omega) | simp at h | skip)) | refine kp ?_ ?_ | refine tw ?_ ?_ | exact trivial | refine side2 ?_ | refine sideL2 ?_ | refine Or.inr ?_ | refine sat_drawH (Try.ok ..) (by kernel_rfl) ?_ | refine xi _ (And.intro rfl rfl) ?_ | refine xi _ (fun _ => And.intro rfl rfl) ?_ | refine xi _ rfl ?_)
      (conv => whnf)
      refine called_pure (.a fnC) rfl (fun w' => columns_any w') ?_
      repeat' ((conv => whnf); first | refine walk (Try.ok ..) ?_ | (refine Cnd.mk (fun h => ?_) (fun h => ?_) <;> (first | exact cndT h (by (try dsimp only); omega) | exact cndF h (by (try dsimp only); omega) | (exfalso; simp at h; omega) | simp at h | skip)) | refine kp ?_ ?_ | refine tw ?_ ?_ | exact trivial | refine side2 ?_ | refine sideL2 ?_ | refine Or.inr ?_ | refine sat_drawH (Try.ok ..) (by kernel_rfl) ?_ | refine xi _ (And.intro rfl rfl) ?_ | refine xi _ (fun _ => And.intro rfl rfl) ?_ | refine xi _ rfl ?_)
      refine sat_loop (Try.ok ..) (α := Nat) (fun j => ([(0, .yes, .o 300 A l.length cap), (1, .yes, .v (.int .i64 k)), (4, .yes, .p 4 g4 0 0), (5, .yes, .v (.int .i64 0)), (11, .yes, .p 11 g11 0 0), (12, .yes, .p 12 g12 0 0), (13, .yes, .p 13 g13 0 0), (49, .yes, .a fnC), (50, .yes, .v (.int .i64 (j : Nat)))], [(4, .blk g4 45 z), (11, .blk g11 31 (rwC a)), (12, .blk g12 31 (rwC b)), (13, .blk g13 48 (o j)), (300, .ro A l.length 5 (rwL l))]))
        (fun j => j ≤ 4) (fun j => 4 - j) (fun _ => rfl) ?_ ?_
      · refine ⟨0, Nat.zero_le _, ?_, ?_, rfl⟩
        · ((repeat' (first | exact trivial | exact rfl | refine And.intro ?_ ?_)) <;> (try (conv => whnf)) <;> (try simp only [SV.real, SV.r2, SV.r1]))
        · dsimp only
          rw [← hz0, hz]
          ((repeat' (first | exact trivial | exact rfl | refine And.intro ?_ ?_)) <;> (try (conv => whnf)) <;> (try simp only [SV.real, SV.r2, SV.r1]))
      obtain ⟨⟨_, _⟩, ⟨_, _⟩, ⟨_, _⟩, ⟨_, _⟩, _, _⟩ := ok_row ((right_is hr).row _ a ha)
      obtain ⟨⟨_, _⟩, ⟨_, _⟩, ⟨_, _⟩, ⟨_, _⟩, _, _⟩ := ok_row ((right_is hr).row _ b hb)
      have hab := ((right_is hr).lt_of (by omega) ha hb).2
      have hak : a.k ≤ k := by
        rcases Nat.eq_zero_or_pos (heavyI l k) with h3 | h3
        · rw [h3, show max 0 1 - 1 = 0 from rfl, hlo] at ha; cases ha; exact hin2.1
        · have := hv.below _ a (by omega) ha; omega
      have hkb : k ≤ b.k := hv.above _ b (by omega) hb
      have hol : ∀ j, j ≤ 4 → (o j).length = 68 := by
        intro j hj
        rw [ho]
        dsimp only
        rw [v4_len]
        rcases (by omega : j = 0 ∨ j = 1 ∨ j = 2 ∨ j = 3 ∨ j = 4) with rfl | rfl | rfl | rfl | rfl <;> rfl
      have hset : ∀ j, j < 4 → ∀ c, (valH a b k)[j]? = some c → (o j).take (j * 17) ++ frC c ++ (o j).drop (j * 17 + 17) = o (j + 1) := by
        intro j hj c hc
        rw [ho]
        dsimp only
        rcases (by omega : j = 0 ∨ j = 1 ∨ j = 2 ∨ j = 3) with rfl | rfl | rfl | rfl <;> (cases hc; exact v4_set _ _ _ (by show _ < 4; decide))
      intro j hj
      by_cases hj4 : j < 4
      · rcases (by omega : j = 0 ∨ j = 1 ∨ j = 2 ∨ j = 3) with rfl | rfl | rfl | rfl
        · repeat' ((conv => whnf); first | refine walk (Try.ok ..) ?_ | (refine Cnd.mk (fun h => ?_) (fun h => ?_) <;> (first | exact cndT h (by (try dsimp only); omega) | exact cndF h (by (try dsimp only); omega) | (exfalso; simp at h; omega) | simp at h | skip)) | refine kp ?_ ?_ | refine tw ?_ ?_ | exact trivial | refine side2 ?_ | refine sideL2 ?_ | refine Or.inr ?_ | refine xi _ (And.intro rfl rfl) ?_ | refine xi _ (fun _ => And.intro rfl rfl) ?_ | refine xi _ rfl ?_ | (refine Exists.intro (SV.v (.func (.func 67) #[] #[])) (And.intro ⟨by decide, by decide, rfl, rfl⟩ ?_)))
          (conv => whnf)
          refine sat_draw (Try.ok ..) [] [(4, .blk g4 45 z), (11, .blk g11 31 (rwC a)), (12, .blk g12 31 (rwC b)), (300, .ro A l.length 5 (rwL l))] (by kernel_rfl) (fun w hw => hw.sub ?_) ?_
          · ((repeat' (first | exact trivial | exact rfl | refine And.intro ?_ ?_)) <;> (try (conv => whnf)) <;> (try simp only [SV.real, SV.r2, SV.r1]))
          repeat' ((conv => whnf); first | refine walk (Try.ok ..) ?_ | (refine Cnd.mk (fun h => ?_) (fun h => ?_) <;> (first | exact cndT h (by (try dsimp only); omega) | exact cndF h (by (try dsimp only); omega) | (exfalso; simp at h; omega) | simp at h | skip)) | refine kp ?_ ?_ | refine tw ?_ ?_ | exact trivial | refine side2 ?_ | refine sideL2 ?_ | refine Or.inr ?_ | refine sat_drawH (Try.ok ..) (by kernel_rfl) ?_ | refine xi _ (And.intro rfl rfl) ?_ | refine xi _ (fun _ => And.intro rfl rfl) ?_ | refine xi _ rfl ?_)
          (conv => whnf)
          have hb2 := two_rows (f := a.d) (g := b.d) (u := b.k - k) (v := k - a.k) (by omega) (by omega) (by omega) (by omega) (by omega)
          refine called_pure (.v (.int .i64 a.d)) rfl (fun w' => col1_any a w') ?_
          repeat' ((conv => whnf); first | refine walk (Try.ok ..) ?_ | (refine Cnd.mk (fun h => ?_) (fun h => ?_) <;> (first | exact cndT h (by (try dsimp only); omega) | exact cndF h (by (try dsimp only); omega) | (exfalso; simp at h; omega) | simp at h | skip)) | refine kp ?_ ?_ | refine tw ?_ ?_ | exact trivial | refine side2 ?_ | refine sideL2 ?_ | refine Or.inr ?_ | refine sat_drawH (Try.ok ..) (by kernel_rfl) ?_ | refine xi _ (And.intro rfl rfl) ?_ | refine xi _ (fun _ => And.intro rfl rfl) ?_ | refine xi _ rfl ?_)
          (conv => whnf)
          refine called_pure (.v (.int .i64 b.d)) rfl (fun w' => col1_any b w') ?_
          repeat' ((conv => whnf); first | refine walk (Try.ok ..) ?_ | (refine Cnd.mk (fun h => ?_) (fun h => ?_) <;> (first | exact cndT h (by (try dsimp only); omega) | exact cndF h (by (try dsimp only); omega) | (exfalso; simp at h; omega) | simp at h | skip)) | refine kp ?_ ?_ | refine tw ?_ ?_ | exact trivial | refine side2 ?_ | refine sideL2 ?_ | refine Or.inr ?_ | refine sat_drawH (Try.ok ..) (by kernel_rfl) ?_ | refine xi _ (And.intro rfl rfl) ?_ | refine xi _ (fun _ => And.intro rfl rfl) ?_ | refine xi _ rfl ?_)
          (conv => whnf)
          refine called_pure (.t [.a (frC (colH HRow.d a b k)), .v (.int .i64 (ratioE (a.d * (b.k - k) + b.d * (k - a.k)) (b.k - a.k)).2)]) rfl (fun w' => by exact ratio_any _ _ w' (by refine ⟨?_, ?_⟩ <;> omega) (by refine ⟨?_, ?_⟩ <;> omega)) ?_
          repeat' ((conv => whnf); first | refine walk (Try.ok ..) ?_ | (refine Cnd.mk (fun h => ?_) (fun h => ?_) <;> (first | exact cndT h (by (try dsimp only); omega) | exact cndF h (by (try dsimp only); omega) | (exfalso; simp at h; omega) | simp at h | skip)) | refine kp ?_ ?_ | refine tw ?_ ?_ | exact trivial | refine side2 ?_ | refine sideL2 ?_ | refine Or.inr ?_ | refine sat_drawH (Try.ok ..) (by kernel_rfl) ?_ | refine xi _ (And.intro rfl rfl) ?_ | refine xi _ (fun _ => And.intro rfl rfl) ?_ | refine xi _ rfl ?_)
          (conv => whnf)
          refine ⟨⟨frC_len _, by rw [hol 0 (by omega), frC_len]; decide, frC_cells _⟩, ?_⟩
          repeat' ((conv => whnf); first | refine walk (Try.ok ..) ?_ | (refine Cnd.mk (fun h => ?_) (fun h => ?_) <;> (first | exact cndT h (by (try dsimp only); omega) | exact cndF h (by (try dsimp only); omega) | (exfalso; simp at h; omega) | simp at h | skip)) | refine kp ?_ ?_ | refine tw ?_ ?_ | exact trivial | refine side2 ?_ | refine sideL2 ?_ | refine Or.inr ?_ | refine sat_drawH (Try.ok ..) (by kernel_rfl) ?_ | refine xi _ (And.intro rfl rfl) ?_ | refine xi _ (fun _ => And.intro rfl rfl) ?_ | refine xi _ rfl ?_)
          refine ⟨1, ⟨by omega, by omega⟩, ?_, ?_, rfl⟩
          · ((repeat' (first | exact trivial | exact rfl | refine And.intro ?_ ?_)) <;> (try (conv => whnf)) <;> (try simp only [SV.real, SV.r2, SV.r1]))
          · have hs := hset 0 (by omega) (colH HRow.d a b k) rfl
            dsimp only
            rw [← hs]
            ((repeat' (first | exact trivial | exact rfl | refine And.intro ?_ ?_)) <;> (try (conv => whnf)) <;> (try simp only [SV.real, SV.r2, SV.r1]))
            all_goals (rw [frC_len]; rfl)
        · repeat' ((conv => whnf); first | refine walk (Try.ok ..) ?_ | (refine Cnd.mk (fun h => ?_) (fun h => ?_) <;> (first | exact cndT h (by (try dsimp only); omega) | exact cndF h (by (try dsimp only); omega) | (exfalso; simp at h; omega) | simp at h | skip)) | refine kp ?_ ?_ | refine tw ?_ ?_ | exact trivial | refine side2 ?_ | refine sideL2 ?_ | refine Or.inr ?_ | refine xi _ (And.intro rfl rfl) ?_ | refine xi _ (fun _ => And.intro rfl rfl) ?_ | refine xi _ rfl ?_ | (refine Exists.intro (SV.v (.func (.func 68) #[] #[])) (And.intro ⟨by decide, by decide, rfl, rfl⟩ ?_)))
          (conv => whnf)
          refine sat_draw (Try.ok ..) [] [(4, .blk g4 45 z), (11, .blk g11 31 (rwC a)), (12, .blk g12 31 (rwC b)), (300, .ro A l.length 5 (rwL l))] (by kernel_rfl) (fun w hw => hw.sub ?_) ?_
          · ((repeat' (first | exact trivial | exact rfl | refine And.intro ?_ ?_)) <;> (try (conv => whnf)) <;> (try simp only [SV.real, SV.r2, SV.r1]))
          repeat' ((conv => whnf); first | refine walk (Try.ok ..) ?_ | (refine Cnd.mk (fun h => ?_) (fun h => ?_) <;> (first | exact cndT h (by (try dsimp only); omega) | exact cndF h (by (try dsimp only); omega) | (exfalso; simp at h; omega) | simp at h | skip)) | refine kp ?_ ?_ | refine tw ?_ ?_ | exact trivial | refine side2 ?_ | refine sideL2 ?_ | refine Or.inr ?_ | refine sat_drawH (Try.ok ..) (by kernel_rfl) ?_ | refine xi _ (And.intro rfl rfl) ?_ | refine xi _ (fun _ => And.intro rfl rfl) ?_ | refine xi _ rfl ?_)
          (conv => whnf)
          have hb2 := two_rows (f := a.b) (g := b.b) (u := b.k - k) (v := k - a.k) (by omega) (by omega) (by omega) (by omega) (by omega)
          refine called_pure (.v (.int .i64 a.b)) rfl (fun w' => col2_any a w') ?_
          repeat' ((conv => whnf); first | refine walk (Try.ok ..) ?_ | (refine Cnd.mk (fun h => ?_) (fun h => ?_) <;> (first | exact cndT h (by (try dsimp only); omega) | exact cndF h (by (try dsimp only); omega) | (exfalso; simp at h; omega) | simp at h | skip)) | refine kp ?_ ?_ | refine tw ?_ ?_ | exact trivial | refine side2 ?_ | refine sideL2 ?_ | refine Or.inr ?_ | refine sat_drawH (Try.ok ..) (by kernel_rfl) ?_ | refine xi _ (And.intro rfl rfl) ?_ | refine xi _ (fun _ => And.intro rfl rfl) ?_ | refine xi _ rfl ?_)
          (conv => whnf)
          refine called_pure (.v (.int .i64 b.b)) rfl (fun w' => col2_any b w') ?_
          repeat' ((conv => whnf); first | refine walk (Try.ok ..) ?_ | (refine Cnd.mk (fun h => ?_) (fun h => ?_) <;> (first | exact cndT h (by (try dsimp only); omega) | exact cndF h (by (try dsimp only); omega) | (exfalso; simp at h; omega) | simp at h | skip)) | refine kp ?_ ?_ | refine tw ?_ ?_ | exact trivial | refine side2 ?_ | refine sideL2 ?_ | refine Or.inr ?_ | refine sat_drawH (Try.ok ..) (by kernel_rfl) ?_ | refine xi _ (And.intro rfl rfl) ?_ | refine xi _ (fun _ => And.intro rfl rfl) ?_ | refine xi _ rfl ?_)
          (conv => whnf)
          refine called_pure (.t [.a (frC (colH HRow.b a b k)), .v (.int .i64 (ratioE (a.b * (b.k - k) + b.b * (k - a.k)) (b.k - a.k)).2)]) rfl (fun w' => by exact ratio_any _ _ w' (by refine ⟨?_, ?_⟩ <;> omega) (by refine ⟨?_, ?_⟩ <;> omega)) ?_
          repeat' ((conv => whnf); first | refine walk (Try.ok ..) ?_ | (refine Cnd.mk (fun h => ?_) (fun h => ?_) <;> (first | exact cndT h (by (try dsimp only); omega) | exact cndF h (by (try dsimp only); omega) | (exfalso; simp at h; omega) | simp at h | skip)) | refine kp ?_ ?_ | refine tw ?_ ?_ | exact trivial | refine side2 ?_ | refine sideL2 ?_ | refine Or.inr ?_ | refine sat_drawH (Try.ok ..) (by kernel_rfl) ?_ | refine xi _ (And.intro rfl rfl) ?_ | refine xi _ (fun _ => And.intro rfl rfl) ?_ | refine xi _ rfl ?_)
          (conv => whnf)
          refine ⟨⟨frC_len _, by rw [hol 1 (by omega), frC_len]; decide, frC_cells _⟩, ?_⟩
          repeat' ((conv => whnf); first | refine walk (Try.ok ..) ?_ | (refine Cnd.mk (fun h => ?_) (fun h => ?_) <;> (first | exact cndT h (by (try dsimp only); omega) | exact cndF h (by (try dsimp only); omega) | (exfalso; simp at h; omega) | simp at h | skip)) | refine kp ?_ ?_ | refine tw ?_ ?_ | exact trivial | refine side2 ?_ | refine sideL2 ?_ | refine Or.inr ?_ | refine sat_drawH (Try.ok ..) (by kernel_rfl) ?_ | refine xi _ (And.intro rfl rfl) ?_ | refine xi _ (fun _ => And.intro rfl rfl) ?_ | refine xi _ rfl ?_)
          refine ⟨2, ⟨by omega, by omega⟩, ?_, ?_, rfl⟩
          · ((repeat' (first | exact trivial | exact rfl | refine And.intro ?_ ?_)) <;> (try (conv => whnf)) <;> (try simp only [SV.real, SV.r2, SV.r1]))
          · have hs := hset 1 (by omega) (colH HRow.b a b k) rfl
            dsimp only
            rw [← hs]
            ((repeat' (first | exact trivial | exact rfl | refine And.intro ?_ ?_)) <;> (try (conv => whnf)) <;> (try simp only [SV.real, SV.r2, SV.r1]))
            all_goals (rw [frC_len]; rfl)
        · repeat' ((conv => whnf); first | refine walk (Try.ok ..) ?_ | (refine Cnd.mk (fun h => ?_) (fun h => ?_) <;> (first | exact cndT h (by (try dsimp only); omega) | exact cndF h (by (try dsimp only); omega) | (exfalso; simp at h; omega) | simp at h | skip)) | refine kp ?_ ?_ | refine tw ?_ ?_ | exact trivial | refine side2 ?_ | refine sideL2 ?_ | refine Or.inr ?_ | refine xi _ (And.intro rfl rfl) ?_ | refine xi _ (fun _ => And.intro rfl rfl) ?_ | refine xi _ rfl ?_ | (refine Exists.intro (SV.v (.func (.func 69) #[] #[])) (And.intro ⟨by decide, by decide, rfl, rfl⟩ ?_)))
          (conv => whnf)
          refine sat_draw (Try.ok ..) [] [(4, .blk g4 45 z), (11, .blk g11 31 (rwC a)), (12, .blk g12 31 (rwC b)), (300, .ro A l.length 5 (rwL l))] (by kernel_rfl) (fun w hw => hw.sub ?_) ?_
          · ((repeat' (first | exact trivial | exact rfl | refine And.intro ?_ ?_)) <;> (try (conv => whnf)) <;> (try simp only [SV.real, SV.r2, SV.r1]))
          repeat' ((conv => whnf); first | refine walk (Try.ok ..) ?_ | (refine Cnd.mk (fun h => ?_) (fun h => ?_) <;> (first | exact cndT h (by (try dsimp only); omega) | exact cndF h (by (try dsimp only); omega) | (exfalso; simp at h; omega) | simp at h | skip)) | refine kp ?_ ?_ | refine tw ?_ ?_ | exact trivial | refine side2 ?_ | refine sideL2 ?_ | refine Or.inr ?_ | refine sat_drawH (Try.ok ..) (by kernel_rfl) ?_ | refine xi _ (And.intro rfl rfl) ?_ | refine xi _ (fun _ => And.intro rfl rfl) ?_ | refine xi _ rfl ?_)
          (conv => whnf)
          have hb2 := two_rows (f := a.m) (g := b.m) (u := b.k - k) (v := k - a.k) (by omega) (by omega) (by omega) (by omega) (by omega)
          refine called_pure (.v (.int .i64 a.m)) rfl (fun w' => col3_any a w') ?_
          repeat' ((conv => whnf); first | refine walk (Try.ok ..) ?_ | (refine Cnd.mk (fun h => ?_) (fun h => ?_) <;> (first | exact cndT h (by (try dsimp only); omega) | exact cndF h (by (try dsimp only); omega) | (exfalso; simp at h; omega) | simp at h | skip)) | refine kp ?_ ?_ | refine tw ?_ ?_ | exact trivial | refine side2 ?_ | refine sideL2 ?_ | refine Or.inr ?_ | refine sat_drawH (Try.ok ..) (by kernel_rfl) ?_ | refine xi _ (And.intro rfl rfl) ?_ | refine xi _ (fun _ => And.intro rfl rfl) ?_ | refine xi _ rfl ?_)
          (conv => whnf)
          refine called_pure (.v (.int .i64 b.m)) rfl (fun w' => col3_any b w') ?_
          repeat' ((conv => whnf); first | refine walk (Try.ok ..) ?_ | (refine Cnd.mk (fun h => ?_) (fun h => ?_) <;> (first | exact cndT h (by (try dsimp only); omega) | exact cndF h (by (try dsimp only); omega) | (exfalso; simp at h; omega) | simp at h | skip)) | refine kp ?_ ?_ | refine tw ?_ ?_ | exact trivial | refine side2 ?_ | refine sideL2 ?_ | refine Or.inr ?_ | refine sat_drawH (Try.ok ..) (by kernel_rfl) ?_ | refine xi _ (And.intro rfl rfl) ?_ | refine xi _ (fun _ => And.intro rfl rfl) ?_ | refine xi _ rfl ?_)
          (conv => whnf)
          refine called_pure (.t [.a (frC (colH HRow.m a b k)), .v (.int .i64 (ratioE (a.m * (b.k - k) + b.m * (k - a.k)) (b.k - a.k)).2)]) rfl (fun w' => by exact ratio_any _ _ w' (by refine ⟨?_, ?_⟩ <;> omega) (by refine ⟨?_, ?_⟩ <;> omega)) ?_
          repeat' ((conv => whnf); first | refine walk (Try.ok ..) ?_ | (refine Cnd.mk (fun h => ?_) (fun h => ?_) <;> (first | exact cndT h (by (try dsimp only); omega) | exact cndF h (by (try dsimp only); omega) | (exfalso; simp at h; omega) | simp at h | skip)) | refine kp ?_ ?_ | refine tw ?_ ?_ | exact trivial | refine side2 ?_ | refine sideL2 ?_ | refine Or.inr ?_ | refine sat_drawH (Try.ok ..) (by kernel_rfl) ?_ | refine xi _ (And.intro rfl rfl) ?_ | refine xi _ (fun _ => And.intro rfl rfl) ?_ | refine xi _ rfl ?_)
          (conv => whnf)
          refine ⟨⟨frC_len _, by rw [hol 2 (by omega), frC_len]; decide, frC_cells _⟩, ?_⟩
          repeat' ((conv => whnf); first | refine walk (Try.ok ..) ?_ | (refine Cnd.mk (fun h => ?_) (fun h => ?_) <;> (first | exact cndT h (by (try dsimp only); omega) | exact cndF h (by (try dsimp only); omega) | (exfalso; simp at h; omega) | simp at h | skip)) | refine kp ?_ ?_ | refine tw ?_ ?_ | exact trivial | refine side2 ?_ | refine sideL2 ?_ | refine Or.inr ?_ | refine sat_drawH (Try.ok ..) (by kernel_rfl) ?_ | refine xi _ (And.intro rfl rfl) ?_ | refine xi _ (fun _ => And.intro rfl rfl) ?_ | refine xi _ rfl ?_)
          refine ⟨3, ⟨by omega, by omega⟩, ?_, ?_, rfl⟩
          · ((repeat' (first | exact trivial | exact rfl | refine And.intro ?_ ?_)) <;> (try (conv => whnf)) <;> (try simp only [SV.real, SV.r2, SV.r1]))
          · have hs := hset 2 (by omega) (colH HRow.m a b k) rfl
            dsimp only
            rw [← hs]
            ((repeat' (first | exact trivial | exact rfl | refine And.intro ?_ ?_)) <;> (try (conv => whnf)) <;> (try simp only [SV.real, SV.r2, SV.r1]))
            all_goals (rw [frC_len]; rfl)
        · repeat' ((conv => whnf); first | refine walk (Try.ok ..) ?_ | (refine Cnd.mk (fun h => ?_) (fun h => ?_) <;> (first | exact cndT h (by (try dsimp only); omega) | exact cndF h (by (try dsimp only); omega) | (exfalso; simp at h; omega) | simp at h | skip)) | refine kp ?_ ?_ | refine tw ?_ ?_ | exact trivial | refine side2 ?_ | refine sideL2 ?_ | refine Or.inr ?_ | refine xi _ (And.intro rfl rfl) ?_ | refine xi _ (fun _ => And.intro rfl rfl) ?_ | refine xi _ rfl ?_ | (refine Exists.intro (SV.v (.func (.func 70) #[] #[])) (And.intro ⟨by decide, by decide, rfl, rfl⟩ ?_)))
          (conv => whnf)
          refine sat_draw (Try.ok ..) [] [(4, .blk g4 45 z), (11, .blk g11 31 (rwC a)), (12, .blk g12 31 (rwC b)), (300, .ro A l.length 5 (rwL l))] (by kernel_rfl) (fun w hw => hw.sub ?_) ?_
          · ((repeat' (first | exact trivial | exact rfl | refine And.intro ?_ ?_)) <;> (try (conv => whnf)) <;> (try simp only [SV.real, SV.r2, SV.r1]))
          repeat' ((conv => whnf); first | refine walk (Try.ok ..) ?_ | (refine Cnd.mk (fun h => ?_) (fun h => ?_) <;> (first | exact cndT h (by (try dsimp only); omega) | exact cndF h (by (try dsimp only); omega) | (exfalso; simp at h; omega) | simp at h | skip)) | refine kp ?_ ?_ | refine tw ?_ ?_ | exact trivial | refine side2 ?_ | refine sideL2 ?_ | refine Or.inr ?_ | refine sat_drawH (Try.ok ..) (by kernel_rfl) ?_ | refine xi _ (And.intro rfl rfl) ?_ | refine xi _ (fun _ => And.intro rfl rfl) ?_ | refine xi _ rfl ?_)
          (conv => whnf)
          have hb2 := two_rows (f := a.t) (g := b.t) (u := b.k - k) (v := k - a.k) (by omega) (by omega) (by omega) (by omega) (by omega)
          refine called_pure (.v (.int .i64 a.t)) rfl (fun w' => col4_any a w') ?_
          repeat' ((conv => whnf); first | refine walk (Try.ok ..) ?_ | (refine Cnd.mk (fun h => ?_) (fun h => ?_) <;> (first | exact cndT h (by (try dsimp only); omega) | exact cndF h (by (try dsimp only); omega) | (exfalso; simp at h; omega) | simp at h | skip)) | refine kp ?_ ?_ | refine tw ?_ ?_ | exact trivial | refine side2 ?_ | refine sideL2 ?_ | refine Or.inr ?_ | refine sat_drawH (Try.ok ..) (by kernel_rfl) ?_ | refine xi _ (And.intro rfl rfl) ?_ | refine xi _ (fun _ => And.intro rfl rfl) ?_ | refine xi _ rfl ?_)
          (conv => whnf)
          refine called_pure (.v (.int .i64 b.t)) rfl (fun w' => col4_any b w') ?_
          repeat' ((conv => whnf); first | refine walk (Try.ok ..) ?_ | (refine Cnd.mk (fun h => ?_) (fun h => ?_) <;> (first | exact cndT h (by (try dsimp only); omega) | exact cndF h (by (try dsimp only); omega) | (exfalso; simp at h; omega) | simp at h | skip)) | refine kp ?_ ?_ | refine tw ?_ ?_ | exact trivial | refine side2 ?_ | refine sideL2 ?_ | refine Or.inr ?_ | refine sat_drawH (Try.ok ..) (by kernel_rfl) ?_ | refine xi _ (And.intro rfl rfl) ?_ | refine xi _ (fun _ => And.intro rfl rfl) ?_ | refine xi _ rfl ?_)
          (conv => whnf)
          refine called_pure (.t [.a (frC (colH HRow.t a b k)), .v (.int .i64 (ratioE (a.t * (b.k - k) + b.t * (k - a.k)) (b.k - a.k)).2)]) rfl (fun w' => by exact ratio_any _ _ w' (by refine ⟨?_, ?_⟩ <;> omega) (by refine ⟨?_, ?_⟩ <;> omega)) ?_
          repeat' ((conv => whnf); first | refine walk (Try.ok ..) ?_ | (refine Cnd.mk (fun h => ?_) (fun h => ?_) <;> (first | exact cndT h (by (try dsimp only); omega) | exact cndF h (by (try dsimp only); omega) | (exfalso; simp at h; omega) | simp at h | skip)) | refine kp ?_ ?_ | refine tw ?_ ?_ | exact trivial | refine side2 ?_ | refine sideL2 ?_ | refine Or.inr ?_ | refine sat_drawH (Try.ok ..) (by kernel_rfl) ?_ | refine xi _ (And.intro rfl rfl) ?_ | refine xi _ (fun _ => And.intro rfl rfl) ?_ | refine xi _ rfl ?_)
          (conv => whnf)
          refine ⟨⟨frC_len _, by rw [hol 3 (by omega), frC_len]; decide, frC_cells _⟩, ?_⟩
          repeat' ((conv => whnf); first | refine walk (Try.ok ..) ?_ | (refine Cnd.mk (fun h => ?_) (fun h => ?_) <;> (first | exact cndT h (by (try dsimp only); omega) | exact cndF h (by (try dsimp only); omega) | (exfalso; simp at h; omega) | simp at h | skip)) | refine kp ?_ ?_ | refine tw ?_ ?_ | exact trivial | refine side2 ?_ | refine sideL2 ?_ | refine Or.inr ?_ | refine sat_drawH (Try.ok ..) (by kernel_rfl) ?_ | refine xi _ (And.intro rfl rfl) ?_ | refine xi _ (fun _ => And.intro rfl rfl) ?_ | refine xi _ rfl ?_)
          refine ⟨4, ⟨by omega, by omega⟩, ?_, ?_, rfl⟩
          · ((repeat' (first | exact trivial | exact rfl | refine And.intro ?_ ?_)) <;> (try (conv => whnf)) <;> (try simp only [SV.real, SV.r2, SV.r1]))
          · have hs := hset 3 (by omega) (colH HRow.t a b k) rfl
            dsimp only
            rw [← hs]
            ((repeat' (first | exact trivial | exact rfl | refine And.intro ?_ ?_)) <;> (try (conv => whnf)) <;> (try simp only [SV.real, SV.r2, SV.r1]))
            all_goals (rw [frC_len]; rfl)
      obtain rfl : j = 4 := by omega
      have hol4 := hol 4 (by omega)
      obtain ⟨c0, hc0⟩ : ∃ c, c = colH HRow.d a b k := ⟨_, rfl⟩
      obtain ⟨c1, hc1⟩ : ∃ c, c = colH HRow.b a b k := ⟨_, rfl⟩
      obtain ⟨c2, hc2⟩ : ∃ c, c = colH HRow.m a b k := ⟨_, rfl⟩
      obtain ⟨c3, hc3⟩ : ∃ c, c = colH HRow.t a b k := ⟨_, rfl⟩
      have e4 : o 4 = v4C [c0, c1, c2, c3] := by rw [ho, hc0, hc1, hc2, hc3]; rfl
      have hat : atH l k = ([c0, c1, c2, c3], 0) := by
        unfold atH
        rw [if_pos hr, range_yes hr hlo hhi, ha, hb, hc0, hc1, hc2, hc3]
        dsimp only
        rw [if_pos hin]
        rfl
      rw [hat]
      clear hat
      rw [e4]
      have hv4 : (v4C [c0, c1, c2, c3]).length = 68 := by rw [v4_len]; rfl
      have hvz : (v4C [c0, c1, c2, c3]).length = z.length := by rw [hz, v4_len, v4_len]; rfl
      repeat' ((conv => whnf); first | refine walk (Try.ok ..) ?_ | (refine Cnd.mk (fun h => ?_) (fun h => ?_) <;> (first | exact cndT h (by (try dsimp only); omega) | exact cndF h (by (try dsimp only); omega) | (exfalso; simp at h; omega) | simp at h | skip)) | refine kp ?_ ?_ | refine tw ?_ ?_ | exact trivial | refine side2 ?_ | refine sideL2 ?_ | refine Or.inr ?_ | refine sat_drawH (Try.ok ..) (by kernel_rfl) ?_ | refine xi _ (And.intro rfl rfl) ?_ | refine xi _ (fun _ => And.intro rfl rfl) ?_ | refine xi _ rfl ?_)
      generalize hL : (List.take 51 (_ ++ _) ++ List.take _ (List.drop _ _) ++ List.drop _ _ : List SV) = L
      have hL4 : L = v4C [c0, c1, c2, c3] := hL.symm.trans (bl4 c0 c1 c2 c3)
      clear hL
      subst hL4
      (conv => whnf)
      refine And.intro ⟨rfl, hv4, hvz, v4_all _⟩ ?_
      repeat' ((conv => whnf); first | refine walk (Try.ok ..) ?_ | (refine Cnd.mk (fun h => ?_) (fun h => ?_) <;> (first | exact cndT h (by (try dsimp only); omega) | exact cndF h (by (try dsimp only); omega) | (exfalso; simp at h; omega) | simp at h | skip)) | refine kp ?_ ?_ | refine tw ?_ ?_ | exact trivial | refine side2 ?_ | refine sideL2 ?_ | refine Or.inr ?_ | refine sat_drawH (Try.ok ..) (by kernel_rfl) ?_ | refine xi _ (And.intro rfl rfl) ?_ | refine xi _ (fun _ => And.intro rfl rfl) ?_ | refine xi _ rfl ?_)
      generalize hT : (List.take _ (List.drop 0 (v4C [c0, c1, c2, c3])) : List SV) = T
      have hT4 : T = v4C [c0, c1, c2, c3] := hT.symm.trans (List.take_of_length_le (Nat.le_of_eq hv4))
      clear hT
      subst hT4
      repeat' ((conv => whnf); first | refine walk (Try.ok ..) ?_ | (refine Cnd.mk (fun h => ?_) (fun h => ?_) <;> (first | exact cndT h (by (try dsimp only); omega) | exact cndF h (by (try dsimp only); omega) | (exfalso; simp at h; omega) | simp at h | skip)) | refine kp ?_ ?_ | refine tw ?_ ?_ | exact trivial | refine side2 ?_ | refine sideL2 ?_ | refine Or.inr ?_ | refine sat_drawH (Try.ok ..) (by kernel_rfl) ?_ | refine xi _ (And.intro rfl rfl) ?_ | refine xi _ (fun _ => And.intro rfl rfl) ?_ | refine xi _ rfl ?_)
      exact done_pure rfl rfl rfl
end Go.Proofs.Ytomhfakkebaciaa
