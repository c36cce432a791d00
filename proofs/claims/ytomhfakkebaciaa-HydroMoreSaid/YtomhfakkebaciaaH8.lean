/-
  The walks of the reference for hydrostatic tables: the values at a weight.
-/
import Derived.Test.YtomhfakkebaciaaH7
set_option linter.unusedSimpArgs false
set_option linter.unusedVariables false
namespace Go.Proofs.Ytomhfakkebaciaa
open Go Sat Go.RowKit Go.PlainAid
theorem bl4' (a b c d : Fr) : put17 (put17 (put17 (put17 (v4C zero4) 0 (((frC a).drop 0).take 17)) 17 (((frC b).drop 0).take 17)) 34 (((frC c).drop 0).take 17)) 51 (((frC d).drop 0).take 17) = v4C [a, b, c, d] := by
  have s0 := v4_set zero4 0 a (by decide)
  have s1 := v4_set (zero4.set 0 a) 1 b (by show 1 < 4; decide)
  have s2 := v4_set ((zero4.set 0 a).set 1 b) 2 c (by show 2 < 4; decide)
  have s3 := v4_set (((zero4.set 0 a).set 1 b).set 2 c) 3 d (by show 3 < 4; decide)
  simp only [Nat.zero_mul, Nat.one_mul, Nat.reduceMul, Nat.reduceAdd] at s0 s1 s2 s3
  have t : ∀ f, ((frC f).drop 0).take 17 = frC f := fun f => List.take_of_length_le (Nat.le_of_eq (frC_len f))
  rw [t, t, t, t]
  unfold put17
  rw [s0, s1, s2, s3]
  rfl
theorem at_no' {l : List HRow} {k : Int} (h : rightH l = false) : atH l k = (zero4, 2) := at_no h
/-- a line between two rows of a right table -/
theorem row_line {l : List HRow} (hr : rightH l = true) {i : Nat} {a b : HRow} (ha : l[i]? = some a) (hb : l[i + 1]? = some b) {k : Int} (h1 : a.k ≤ k) (h2 : k ≤ b.k) (f : HRow → Int) (hf : ∀ (r : HRow), okR r = true → -10000000000 ≤ f r ∧ f r ≤ 10000000000) :
    lineE (f a) (f b) (ofF k) a.k b.k = (colH f a b k, 0) := by
  have hR := right_is hr
  have oa := hR.row _ a ha
  have ob := hR.row _ b hb
  obtain ⟨_, ⟨_, _⟩, _, _, _⟩ := ok_row oa
  obtain ⟨_, ⟨_, _⟩, _, _, _⟩ := ok_row ob
  have hab := (hR.lt_of (by omega) ha hb).2
  have fa := hf a oa
  have fb := hf b ob
  exact (line_R (by omega) (by omega) (by omega) h1 h2 hab (by omega)).1
set_option maxRecDepth 100000 in
set_option maxHeartbeats 16000000 in
theorem rAt_any (l : List HRow) (k : Int) (A : Option (Nat × Nat)) (cap : Nat) (w : World) (hA : Ro w A l.length 5 (rwL l)) (hl : l.length ≤ 9223372036854775807) (hk : I64 k) :
    Calls Try.prog 26 #[.slice (adr A) l.length cap, .int .i64 k] w fun e w' => e = .returned (.tuple #[v4V (atH l k).1, .int .i64 (atH l k).2]) ∧ Below w.heap.size w w' := by
  obtain ⟨_, _⟩ := hk
  refine calls_sat (cx := Try.cx 108 [6] [] [] w) (Try.ok ..) Try.func26 rfl [.o 300 A l.length cap, .v (.int .i64 k)] rfl (by show 2 ≤ 108; omega) [(300, .ro A l.length 5 (rwL l))] (holds_ros rfl rfl ⟨hA, trivial⟩) ?_
  repeat' ((conv => whnf); first | refine walk (Try.ok ..) ?_ | (refine Cnd.mk (fun h => ?_) (fun h => ?_) <;> (first | exact cndT h (by (try dsimp only); omega) | exact cndF h (by (try dsimp only); omega) | (exfalso; simp at h; omega) | simp at h | skip)) | refine kp ?_ ?_ | refine tw ?_ ?_ | exact trivial | refine side2 ?_ | refine sideL2 ?_ | refine Or.inr ?_ | refine sat_drawH (Try.ok ..) (by kernel_rfl) ?_ | refine xi _ (And.intro rfl rfl) ?_ | refine xi _ (fun _ => And.intro rfl rfl) ?_ | refine xi _ rfl ?_)
  (conv => whnf)
  intro g4 hg4
  repeat' ((conv => whnf); first | refine walk (Try.ok ..) ?_ | (refine Cnd.mk (fun h => ?_) (fun h => ?_) <;> (first | exact cndT h (by (try dsimp only); omega) | exact cndF h (by (try dsimp only); omega) | (exfalso; simp at h; omega) | simp at h | skip)) | refine kp ?_ ?_ | refine tw ?_ ?_ | exact trivial | refine side2 ?_ | refine sideL2 ?_ | refine Or.inr ?_ | refine sat_drawH (Try.ok ..) (by kernel_rfl) ?_ | refine xi _ (And.intro rfl rfl) ?_ | refine xi _ (fun _ => And.intro rfl rfl) ?_ | refine xi _ rfl ?_)
  refine called_at (.v (.bool (rightH l))) rfl (fun w' hh => by exact rRight_any l A cap w' (ro_of_ro hh (id := 300) rfl) hl) ?_
  cases hr : rightH l with
  | false =>
    repeat' ((conv => whnf); first | refine walk (Try.ok ..) ?_ | (refine Cnd.mk (fun h => ?_) (fun h => ?_) <;> (first | exact cndT h (by (try dsimp only); omega) | exact cndF h (by (try dsimp only); omega) | (exfalso; simp at h; omega) | simp at h | skip)) | refine kp ?_ ?_ | refine tw ?_ ?_ | exact trivial | refine side2 ?_ | refine sideL2 ?_ | refine Or.inr ?_ | refine sat_drawH (Try.ok ..) (by kernel_rfl) ?_ | refine xi _ (And.intro rfl rfl) ?_ | refine xi _ (fun _ => And.intro rfl rfl) ?_ | refine xi _ rfl ?_)
    refine done_pure rfl rfl ?_
    rw [at_no hr]
    rfl
  | true =>
  have h2 := (right_is hr).two
  have h100 := (right_is hr).most
  have h100' : l.length ≤ 100 := h100
  obtain ⟨z, hz⟩ : ∃ z, z = v4C zero4 := ⟨_, rfl⟩
  repeat' ((conv => whnf); first | refine walk (Try.ok ..) ?_ | (refine Cnd.mk (fun h => ?_) (fun h => ?_) <;> (first | exact cndT h (by (try dsimp only); omega) | exact cndF h (by (try dsimp only); omega) | (exfalso; simp at h; omega) | simp at h | skip)) | refine kp ?_ ?_ | refine tw ?_ ?_ | exact trivial | refine side2 ?_ | refine sideL2 ?_ | refine Or.inr ?_ | refine sat_drawH (Try.ok ..) (by kernel_rfl) ?_ | refine xi _ (And.intro rfl rfl) ?_ | refine xi _ (fun _ => And.intro rfl rfl) ?_ | refine xi _ rfl ?_)
  refine sat_loop (Try.ok ..) (α := Nat) (fun j => ([(0, .yes, .o 300 A l.length cap), (1, .yes, .v (.int .i64 k)), (4, .yes, .p 4 g4 0 0), (5, .yes, .v (.int .i64 0)), (6, .yes, .v (.int .i64 (j : Nat)))], [(4, .blk g4 64 z), (300, .ro A l.length 5 (rwL l))]))
    (fun j => j + 1 ≤ l.length ∧ ∀ (i : Nat) (c d : HRow), i < j → l[i]? = some c → l[i + 1]? = some d → ¬ (c.k ≤ k ∧ k ≤ d.k)) (fun j => l.length - j) (fun _ => rfl) ?_ ?_
  · refine ⟨0, ⟨by omega, fun i c d hi => absurd hi (Nat.not_lt_zero _)⟩, ?_, ?_, rfl⟩
    · ((repeat' (first | exact trivial | exact rfl | refine And.intro ?_ ?_)) <;> (try (conv => whnf)) <;> (try simp only [SV.real, SV.r2, SV.r1]))
    · rw [hz]
      ((repeat' (first | exact trivial | exact rfl | refine And.intro ?_ ?_)) <;> (try (conv => whnf)) <;> (try simp only [SV.real, SV.r2, SV.r1]))
  rintro j ⟨hj, hno⟩
  by_cases hj1 : j + 1 < l.length
  case neg =>
    have hzl : (svCells (SV.real (.a (v4C zero4)))).length = z.length := by rw [hz]; rfl
    repeat' ((conv => whnf); first | refine walk (Try.ok ..) ?_ | (refine Cnd.mk (fun h => ?_) (fun h => ?_) <;> (first | exact cndT h (by (try dsimp only); omega) | exact cndF h (by (try dsimp only); omega) | (exfalso; simp at h; omega) | simp at h | skip)) | refine kp ?_ ?_ | refine tw ?_ ?_ | exact trivial | refine side2 ?_ | refine sideL2 ?_ | refine Or.inr ?_ | refine sat_drawH (Try.ok ..) (by kernel_rfl) ?_ | refine xi _ (And.intro rfl rfl) ?_ | refine xi _ (fun _ => And.intro rfl rfl) ?_ | refine xi _ rfl ?_ | (refine And.intro ⟨rfl, rfl, hzl, by kernel_rfl⟩ ?_))
    refine done_pure rfl rfl ?_
    rw [at_none hr (fun i c d hc hd => hno i c d (by have := (List.getElem?_eq_some_iff.1 hd).1; omega) hc hd)]
    rfl
  obtain ⟨a, ha⟩ : ∃ a, l[j]? = some a := ⟨_, List.getElem?_eq_getElem (by omega)⟩
  obtain ⟨b, hb⟩ : ∃ b, l[j + 1]? = some b := ⟨_, List.getElem?_eq_getElem hj1⟩
  have ca := rw_cells ha (i := (j : Int)) rfl
  have cb := rw_cells hb (i := (j : Int) + 1) (by omega)
  obtain ⟨⟨_, _⟩, ⟨_, _⟩, ⟨_, _⟩, ⟨_, _⟩, _, _⟩ := ok_row ((right_is hr).row _ a ha)
  obtain ⟨⟨_, _⟩, ⟨_, _⟩, ⟨_, _⟩, ⟨_, _⟩, _, _⟩ := ok_row ((right_is hr).row _ b hb)
  repeat' ((conv => whnf); first | refine walk (Try.ok ..) ?_ | (refine Cnd.mk (fun h => ?_) (fun h => ?_) <;> (first | exact cndT h (by (try dsimp only); omega) | exact cndF h (by (try dsimp only); omega) | (exfalso; simp at h; omega) | simp at h | skip)) | refine kp ?_ ?_ | refine tw ?_ ?_ | exact trivial | refine side2 ?_ | refine sideL2 ?_ | refine Or.inr ?_ | refine xi _ (And.intro rfl rfl) ?_ | refine xi _ (fun _ => And.intro rfl rfl) ?_ | refine xi _ rfl ?_)
  (conv => whnf)
  refine sat_join0 (fun (s : Nat × Nat) => ([(0, .yes, .o 300 A l.length cap), (1, .yes, .v (.int .i64 k)), (4, .yes, .p 4 g4 0 0), (5, .yes, .v (.int .i64 0)), (6, .yes, .v (.int .i64 (j : Nat))), (7, .yes, .p 7 s.1 0 0), (8, .yes, .p 8 s.2 0 0)], [(4, .blk g4 64 z), (7, .blk s.1 31 (rwC a)), (8, .blk s.2 31 (rwC b)), (300, .ro A l.length 5 (rwL l))])) (fun _ => True) (fun _ => rfl) ?_ ?_
  · refine sat_drawH (Try.ok ..) (by kernel_rfl) ?_
    repeat' ((conv => whnf); first | refine walk (Try.ok ..) ?_ | (refine Cnd.mk (fun h => ?_) (fun h => ?_) <;> (first | exact cndT h (by (try dsimp only); omega) | exact cndF h (by (try dsimp only); omega) | (exfalso; simp at h; omega) | simp at h | skip)) | refine kp ?_ ?_ | refine tw ?_ ?_ | exact trivial | refine side2 ?_ | refine sideL2 ?_ | refine Or.inr ?_ | refine sat_drawH (Try.ok ..) (by kernel_rfl) ?_ | refine xi _ (And.intro rfl rfl) ?_ | refine xi _ (fun _ => And.intro rfl rfl) ?_ | refine xi _ rfl ?_ | refine xi _ (fun _ => ca) ?_ | refine xi _ ca ?_ | refine xi _ (fun _ => cb) ?_ | refine xi _ cb ?_ | intro g hg | (exact ⟨(_, _), trivial, by ((repeat' (first | exact trivial | exact rfl | refine And.intro ?_ ?_)) <;> (try (conv => whnf)) <;> (try simp only [SV.real, SV.r2, SV.r1])), by ((repeat' (first | exact trivial | exact rfl | refine And.intro ?_ ?_)) <;> (try (conv => whnf)) <;> (try simp only [SV.real, SV.r2, SV.r1])), rfl⟩))
  rintro ⟨g7, g8⟩ -
  obtain ⟨c0, hc0⟩ : ∃ c, c = colH HRow.d a b k := ⟨_, rfl⟩
  obtain ⟨c1, hc1⟩ : ∃ c, c = colH HRow.b a b k := ⟨_, rfl⟩
  obtain ⟨c2, hc2⟩ : ∃ c, c = colH HRow.m a b k := ⟨_, rfl⟩
  obtain ⟨c3, hc3⟩ : ∃ c, c = colH HRow.t a b k := ⟨_, rfl⟩
  repeat' ((conv => whnf); first | refine walk (Try.ok ..) ?_ | (refine Cnd.mk (fun h => ?_) (fun h => ?_) <;> (first | exact cndT h (by (try dsimp only); omega) | exact cndF h (by (try dsimp only); omega) | (exfalso; simp at h; omega) | simp at h | skip)) | refine kp ?_ ?_ | refine tw ?_ ?_ | exact trivial | refine side2 ?_ | refine sideL2 ?_ | refine Or.inr ?_ | refine sat_drawH (Try.ok ..) (by kernel_rfl) ?_ | refine xi _ (And.intro rfl rfl) ?_ | refine xi _ (fun _ => And.intro rfl rfl) ?_ | refine xi _ rfl ?_)
  case pos.refine_1.refine_2.refine_2 =>
    refine ⟨j + 1, ⟨⟨by omega, fun i c d hi hc hd => ?_⟩, by omega⟩, ?_, ?_, rfl⟩
    · rcases Nat.lt_or_eq_of_le (Nat.le_of_lt_succ hi) with h3 | h3
      · exact hno i c d h3 hc hd
      · subst h3
        rw [ha] at hc
        rw [hb] at hd
        cases hc
        cases hd
        omega
    all_goals ((repeat' (first | exact trivial | exact rfl | refine And.intro ?_ ?_)) <;> (try (conv => whnf)) <;> (try simp only [SV.real, SV.r2, SV.r1]))
  have hin : a.k ≤ k ∧ k ≤ b.k := by assumption
  have hat : atH l k = ([c0, c1, c2, c3], 0) := by
    rw [at_found hr ha hb hin.1 hin.2 hno, hc0, hc1, hc2, hc3]
    rfl
  rw [hat]
  have l0 := frC_len c0
  have l1 := frC_len c1
  have l2 := frC_len c2
  have l3 := frC_len c3
  have lx := frC_len (ofF k)
  (conv => whnf)
  refine called_pure (.a (frC (ofF k))) rfl (fun w' => by exact rof2 _ w' (by refine ⟨?_, ?_⟩ <;> omega)) ?_
  repeat' ((conv => whnf); first | refine walk (Try.ok ..) ?_ | (refine Cnd.mk (fun h => ?_) (fun h => ?_) <;> (first | exact cndT h (by (try dsimp only); omega) | exact cndF h (by (try dsimp only); omega) | (exfalso; simp at h; omega) | simp at h | skip)) | refine kp ?_ ?_ | refine tw ?_ ?_ | exact trivial | refine side2 ?_ | refine sideL2 ?_ | refine Or.inr ?_ | refine sat_drawH (Try.ok ..) (by kernel_rfl) ?_ | refine xi _ (And.intro rfl rfl) ?_ | refine xi _ (fun _ => And.intro rfl rfl) ?_ | refine xi _ rfl ?_)
  (conv => whnf)
  intro g9 hg9
  repeat' ((conv => whnf); first | refine walk (Try.ok ..) ?_ | (refine Cnd.mk (fun h => ?_) (fun h => ?_) <;> (first | exact cndT h (by (try dsimp only); omega) | exact cndF h (by (try dsimp only); omega) | (exfalso; simp at h; omega) | simp at h | skip)) | refine kp ?_ ?_ | refine tw ?_ ?_ | exact trivial | refine side2 ?_ | refine sideL2 ?_ | refine Or.inr ?_ | refine sat_drawH (Try.ok ..) (by kernel_rfl) ?_ | refine xi _ (And.intro rfl rfl) ?_ | refine xi _ (fun _ => And.intro rfl rfl) ?_ | refine xi _ rfl ?_)
  (conv => whnf)
  refine called_pure (.t [.a (frC c0), .v (.int .i64 0)]) rfl (fun w' => by
    have h := rline_any (a.d) (b.d) a.k b.k (ofF k) w' (ofF_big k) (by refine ⟨?_, ?_⟩ <;> omega) (by refine ⟨?_, ?_⟩ <;> omega) (by refine ⟨?_, ?_⟩ <;> omega) (by refine ⟨?_, ?_⟩ <;> omega) (by refine ⟨?_, ?_⟩ <;> omega) (by refine ⟨?_, ?_⟩ <;> omega)
    rw [row_line hr ha hb hin.1 hin.2 HRow.d (fun r h => by obtain ⟨⟨_, _⟩, ⟨_, _⟩, ⟨_, _⟩, ⟨_, _⟩, _, _⟩ := ok_row h; omega), ← hc0] at h
    exact h) ?_
  repeat' ((conv => whnf); first | refine walk (Try.ok ..) ?_ | (refine Cnd.mk (fun h => ?_) (fun h => ?_) <;> (first | exact cndT h (by (try dsimp only); omega) | exact cndF h (by (try dsimp only); omega) | (exfalso; simp at h; omega) | simp at h | skip)) | refine kp ?_ ?_ | refine tw ?_ ?_ | exact trivial | refine side2 ?_ | refine sideL2 ?_ | refine Or.inr ?_ | refine sat_drawH (Try.ok ..) (by kernel_rfl) ?_ | refine xi _ (And.intro rfl rfl) ?_ | refine xi _ (fun _ => And.intro rfl rfl) ?_ | refine xi _ rfl ?_)
  (conv => whnf)
  intro g10 hg10
  repeat' ((conv => whnf); first | refine walk (Try.ok ..) ?_ | (refine Cnd.mk (fun h => ?_) (fun h => ?_) <;> (first | exact cndT h (by (try dsimp only); omega) | exact cndF h (by (try dsimp only); omega) | (exfalso; simp at h; omega) | simp at h | skip)) | refine kp ?_ ?_ | refine tw ?_ ?_ | exact trivial | refine side2 ?_ | refine sideL2 ?_ | refine Or.inr ?_ | refine sat_drawH (Try.ok ..) (by kernel_rfl) ?_ | refine xi _ (And.intro rfl rfl) ?_ | refine xi _ (fun _ => And.intro rfl rfl) ?_ | refine xi _ rfl ?_)
  (conv => whnf)
  refine called_pure (.t [.a (frC c1), .v (.int .i64 0)]) rfl (fun w' => by
    have h := rline_any (a.b) (b.b) a.k b.k (ofF k) w' (ofF_big k) (by refine ⟨?_, ?_⟩ <;> omega) (by refine ⟨?_, ?_⟩ <;> omega) (by refine ⟨?_, ?_⟩ <;> omega) (by refine ⟨?_, ?_⟩ <;> omega) (by refine ⟨?_, ?_⟩ <;> omega) (by refine ⟨?_, ?_⟩ <;> omega)
    rw [row_line hr ha hb hin.1 hin.2 HRow.b (fun r h => by obtain ⟨⟨_, _⟩, ⟨_, _⟩, ⟨_, _⟩, ⟨_, _⟩, _, _⟩ := ok_row h; omega), ← hc1] at h
    exact h) ?_
  repeat' ((conv => whnf); first | refine walk (Try.ok ..) ?_ | (refine Cnd.mk (fun h => ?_) (fun h => ?_) <;> (first | exact cndT h (by (try dsimp only); omega) | exact cndF h (by (try dsimp only); omega) | (exfalso; simp at h; omega) | simp at h | skip)) | refine kp ?_ ?_ | refine tw ?_ ?_ | exact trivial | refine side2 ?_ | refine sideL2 ?_ | refine Or.inr ?_ | refine sat_drawH (Try.ok ..) (by kernel_rfl) ?_ | refine xi _ (And.intro rfl rfl) ?_ | refine xi _ (fun _ => And.intro rfl rfl) ?_ | refine xi _ rfl ?_)
  (conv => whnf)
  intro g12 hg12
  repeat' ((conv => whnf); first | refine walk (Try.ok ..) ?_ | (refine Cnd.mk (fun h => ?_) (fun h => ?_) <;> (first | exact cndT h (by (try dsimp only); omega) | exact cndF h (by (try dsimp only); omega) | (exfalso; simp at h; omega) | simp at h | skip)) | refine kp ?_ ?_ | refine tw ?_ ?_ | exact trivial | refine side2 ?_ | refine sideL2 ?_ | refine Or.inr ?_ | refine sat_drawH (Try.ok ..) (by kernel_rfl) ?_ | refine xi _ (And.intro rfl rfl) ?_ | refine xi _ (fun _ => And.intro rfl rfl) ?_ | refine xi _ rfl ?_)
  (conv => whnf)
  refine called_pure (.t [.a (frC c2), .v (.int .i64 0)]) rfl (fun w' => by
    have h := rline_any (a.m) (b.m) a.k b.k (ofF k) w' (ofF_big k) (by refine ⟨?_, ?_⟩ <;> omega) (by refine ⟨?_, ?_⟩ <;> omega) (by refine ⟨?_, ?_⟩ <;> omega) (by refine ⟨?_, ?_⟩ <;> omega) (by refine ⟨?_, ?_⟩ <;> omega) (by refine ⟨?_, ?_⟩ <;> omega)
    rw [row_line hr ha hb hin.1 hin.2 HRow.m (fun r h => by obtain ⟨⟨_, _⟩, ⟨_, _⟩, ⟨_, _⟩, ⟨_, _⟩, _, _⟩ := ok_row h; omega), ← hc2] at h
    exact h) ?_
  repeat' ((conv => whnf); first | refine walk (Try.ok ..) ?_ | (refine Cnd.mk (fun h => ?_) (fun h => ?_) <;> (first | exact cndT h (by (try dsimp only); omega) | exact cndF h (by (try dsimp only); omega) | (exfalso; simp at h; omega) | simp at h | skip)) | refine kp ?_ ?_ | refine tw ?_ ?_ | exact trivial | refine side2 ?_ | refine sideL2 ?_ | refine Or.inr ?_ | refine sat_drawH (Try.ok ..) (by kernel_rfl) ?_ | refine xi _ (And.intro rfl rfl) ?_ | refine xi _ (fun _ => And.intro rfl rfl) ?_ | refine xi _ rfl ?_)
  (conv => whnf)
  intro g14 hg14
  repeat' ((conv => whnf); first | refine walk (Try.ok ..) ?_ | (refine Cnd.mk (fun h => ?_) (fun h => ?_) <;> (first | exact cndT h (by (try dsimp only); omega) | exact cndF h (by (try dsimp only); omega) | (exfalso; simp at h; omega) | simp at h | skip)) | refine kp ?_ ?_ | refine tw ?_ ?_ | exact trivial | refine side2 ?_ | refine sideL2 ?_ | refine Or.inr ?_ | refine sat_drawH (Try.ok ..) (by kernel_rfl) ?_ | refine xi _ (And.intro rfl rfl) ?_ | refine xi _ (fun _ => And.intro rfl rfl) ?_ | refine xi _ rfl ?_)
  (conv => whnf)
  refine called_pure (.t [.a (frC c3), .v (.int .i64 0)]) rfl (fun w' => by
    have h := rline_any (a.t) (b.t) a.k b.k (ofF k) w' (ofF_big k) (by refine ⟨?_, ?_⟩ <;> omega) (by refine ⟨?_, ?_⟩ <;> omega) (by refine ⟨?_, ?_⟩ <;> omega) (by refine ⟨?_, ?_⟩ <;> omega) (by refine ⟨?_, ?_⟩ <;> omega) (by refine ⟨?_, ?_⟩ <;> omega)
    rw [row_line hr ha hb hin.1 hin.2 HRow.t (fun r h => by obtain ⟨⟨_, _⟩, ⟨_, _⟩, ⟨_, _⟩, ⟨_, _⟩, _, _⟩ := ok_row h; omega), ← hc3] at h
    exact h) ?_
  repeat' ((conv => whnf); first | refine walk (Try.ok ..) ?_ | (refine Cnd.mk (fun h => ?_) (fun h => ?_) <;> (first | exact cndT h (by (try dsimp only); omega) | exact cndF h (by (try dsimp only); omega) | (exfalso; simp at h; omega) | simp at h | skip)) | refine kp ?_ ?_ | refine tw ?_ ?_ | exact trivial | refine side2 ?_ | refine sideL2 ?_ | refine Or.inr ?_ | refine sat_drawH (Try.ok ..) (by kernel_rfl) ?_ | refine xi _ (And.intro rfl rfl) ?_ | refine xi _ (fun _ => And.intro rfl rfl) ?_ | refine xi _ rfl ?_)
  (conv => whnf)
  intro g16 hg16
  have hv4 : (v4C [c0, c1, c2, c3]).length = 68 := by rw [v4_len]; rfl
  have hvz : (v4C [c0, c1, c2, c3]).length = z.length := by rw [hz, v4_len, v4_len]; rfl
  repeat' ((conv => whnf); first | refine walk (Try.ok ..) ?_ | (refine Cnd.mk (fun h => ?_) (fun h => ?_) <;> (first | exact cndT h (by (try dsimp only); omega) | exact cndF h (by (try dsimp only); omega) | (exfalso; simp at h; omega) | simp at h | skip)) | refine kp ?_ ?_ | refine tw ?_ ?_ | exact trivial | refine side2 ?_ | refine sideL2 ?_ | refine Or.inr ?_ | refine sat_drawH (Try.ok ..) (by kernel_rfl) ?_ | refine xi _ (And.intro rfl rfl) ?_ | refine xi _ (fun _ => And.intro rfl rfl) ?_ | refine xi _ rfl ?_)
  generalize hL : (List.take 51 (_ ++ _) ++ List.take _ (List.drop _ _) ++ List.drop _ _ : List SV) = L
  have hL4 : L = v4C [c0, c1, c2, c3] := hL.symm.trans (bl4' c0 c1 c2 c3)
  clear hL
  subst hL4
  (conv => whnf)
  refine And.intro ⟨rfl, hv4, hvz, v4_all _⟩ ?_
  repeat' ((conv => whnf); first | refine walk (Try.ok ..) ?_ | (refine Cnd.mk (fun h => ?_) (fun h => ?_) <;> (first | exact cndT h (by (try dsimp only); omega) | exact cndF h (by (try dsimp only); omega) | (exfalso; simp at h; omega) | simp at h | skip)) | refine kp ?_ ?_ | refine tw ?_ ?_ | exact trivial | refine side2 ?_ | refine sideL2 ?_ | refine Or.inr ?_ | refine sat_drawH (Try.ok ..) (by kernel_rfl) ?_ | refine xi _ (And.intro rfl rfl) ?_ | refine xi _ (fun _ => And.intro rfl rfl) ?_ | refine xi _ rfl ?_)
  generalize hT : (List.take _ (List.drop 0 (v4C [c0, c1, c2, c3])) : List SV) = T
  have hT4 : T = v4C [c0, c1, c2, c3] := hT.symm.trans (List.take_of_length_le (Nat.le_of_eq hv4))
  clear hT
  subst hT4
  repeat' ((conv => whnf); first | refine walk (Try.ok ..) ?_ | (refine Cnd.mk (fun h => ?_) (fun h => ?_) <;> (first | exact cndT h (by (try dsimp only); omega) | exact cndF h (by (try dsimp only); omega) | (exfalso; simp at h; omega) | simp at h | skip)) | refine kp ?_ ?_ | refine tw ?_ ?_ | exact trivial | refine side2 ?_ | refine sideL2 ?_ | refine Or.inr ?_ | refine sat_drawH (Try.ok ..) (by kernel_rfl) ?_ | refine xi _ (And.intro rfl rfl) ?_ | refine xi _ (fun _ => And.intro rfl rfl) ?_ | refine xi _ rfl ?_)
  exact done_pure rfl rfl rfl
end Go.Proofs.Ytomhfakkebaciaa
