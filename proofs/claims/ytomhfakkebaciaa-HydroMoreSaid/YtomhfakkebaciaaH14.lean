/-
  The values of a table are compared; rows are lent.
-/
import Derived.Test.YtomhfakkebaciaaH13
set_option linter.unusedSimpArgs false
set_option linter.unusedVariables false
namespace Go.Proofs.Ytomhfakkebaciaa
open Go Sat Go.RowKit Go.PlainAid
theorem part17 (l : List Fr) {i : Nat} {c : Fr} (h : l[i]? = some c) (w : World) : (part 26 ((v4C l).map SV.r1).toArray (i * 17)).run Try.prog w = .ok (frV c) w := by
  have h1 := run_part_agg (cx := Try.cx 0 [] [] [] w) (Try.ok 0 [] [] [] w.heap.size [] w).T (t := 26) (j := _) rfl rfl (cs := ((v4C l).map SV.r1).toArray) (off := i * 17) w
  refine h1.trans (congrArg (fun a => Result.ok (Value.agg a) w) ?_)
  apply Array.toList_inj.1
  rw [Array.toList_extract]
  show (((v4C l).map SV.r1).drop (i * 17)).take (i * 17 + 17 - i * 17) = (frC c).map SV.r1
  rw [Nat.add_sub_cancel_left, ← List.map_drop, ← List.map_take, v4_at h]
theorem eqInV4 (n : Nat) {a b c d a' b' c' d' : Fr} (h : ∀ x ∈ [a, b, c, d], Big x) (h' : ∀ x ∈ [a', b', c', d'], Big x) (w : World) :
    (Op.equalIn (n + 1 + 1 + 1 + 1) 45 (.agg ((v4C [a, b, c, d]).map SV.r1).toArray) (.agg ((v4C [a', b', c', d']).map SV.r1).toArray)).run Try.prog w = .ok (eqFr a a' && (eqFr b b' && (eqFr c c' && (eqFr d d' && true)))) w := by
  have p := fun (l : List Fr) (i : Nat) (c : Fr) (hc : l[i]? = some c) => part17 l hc w
  refine equalIn_st [(true, 26, 0), (true, 26, 17), (true, 26, 34), (true, 26, 51)] (by kernel_rfl) (by kernel_rfl) (by kernel_rfl) ?_
  refine eqs_cons _ _ (p [a, b, c, d] 0 a rfl) (p [a', b', c', d'] 0 a' rfl) (eqInFr1 n a a' (h _ (by simp)) (h' _ (by simp)) w) ?_
  refine eqs_cons _ _ (p [a, b, c, d] 1 b rfl) (p [a', b', c', d'] 1 b' rfl) (eqInFr1 n b b' (h _ (by simp)) (h' _ (by simp)) w) ?_
  refine eqs_cons _ _ (p [a, b, c, d] 2 c rfl) (p [a', b', c', d'] 2 c' rfl) (eqInFr1 n c c' (h _ (by simp)) (h' _ (by simp)) w) ?_
  refine eqs_cons _ _ (p [a, b, c, d] 3 d rfl) (p [a', b', c', d'] 3 d' rfl) (eqInFr1 n d d' (h _ (by simp)) (h' _ (by simp)) w) ?_
  exact eqs_nil
theorem eqV4_any {a b c d a' b' c' d' : Fr} (h : ∀ x ∈ [a, b, c, d], Big x) (h' : ∀ x ∈ [a', b', c', d'], Big x) (w : World) :
    (Op.equal 45 (SV.a (v4C [a, b, c, d])).real (SV.a (v4C [a', b', c', d'])).real).run Try.prog w = .ok (eqFr a a' && (eqFr b b' && (eqFr c c' && (eqFr d d' && true)))) w := eqInV4 9996 h h' w
theorem eqV4_g : Try.prog.eqGuardType Try.prog.depth 45 = false := by kernel_rfl
def markI (i : Int) : Int := 8000024 + i
def markH (i : Nat) : HRow := ⟨0, markI i, 0, 0, 0⟩
theorem mark_any (i : Int) (w : World) (hi : 0 ≤ i ∧ i ≤ 1000) : Calls Try.prog 77 #[.int .i64 1, .int .i64 i] w fun e w' => e = .returned (.int .i64 (markI i)) ∧ Below w.heap.size w w' := by
  refine calls_sat (cx := Try.cx 10 [] [] [] w) (Try.ok ..) Try.func77 rfl [.v (.int .i64 1), .v (.int .i64 i)] rfl (by show 2 ≤ 10; omega) [] (holds_nil (Nat.le_refl _)) ?_
  repeat' ((conv => whnf); first | refine walk (Try.ok ..) ?_ | (refine Cnd.mk (fun h => ?_) (fun h => ?_) <;> (first | exact cndT h (by (try dsimp only); omega) | exact cndF h (by (try dsimp only); omega) | (exfalso; simp at h; omega) | simp at h | skip)) | refine kp ?_ ?_ | refine tw ?_ ?_ | exact trivial | refine side2 ?_ | refine sideL2 ?_ | refine Or.inr ?_ | refine sat_drawH (Try.ok ..) (by kernel_rfl) ?_ | refine xi _ (And.intro rfl rfl) ?_ | refine xi _ (fun _ => And.intro rfl rfl) ?_ | refine xi _ rfl ?_)
  exact done_pure rfl rfl rfl
theorem markRow_any (i : Nat) (w : World) (hi : i ≤ 1000) : Calls Try.prog 56 #[.int .i64 1, .int .i64 i] w fun e w' => e = .returned (rwV (markH i)) ∧ Below w.heap.size w w' := by
  refine calls_sat (cx := Try.cx 9 [] [] [] w) (Try.ok ..) Try.func56 rfl [.v (.int .i64 1), .v (.int .i64 i)] rfl (by show 2 ≤ 9; omega) [] (holds_nil (Nat.le_refl _)) ?_
  repeat' ((conv => whnf); first | refine walk (Try.ok ..) ?_ | (refine Cnd.mk (fun h => ?_) (fun h => ?_) <;> (first | exact cndT h (by (try dsimp only); omega) | exact cndF h (by (try dsimp only); omega) | (exfalso; simp at h; omega) | simp at h | skip)) | refine kp ?_ ?_ | refine tw ?_ ?_ | exact trivial | refine side2 ?_ | refine sideL2 ?_ | refine Or.inr ?_ | refine sat_drawH (Try.ok ..) (by kernel_rfl) ?_ | refine xi _ (And.intro rfl rfl) ?_ | refine xi _ (fun _ => And.intro rfl rfl) ?_ | refine xi _ rfl ?_)
  (conv => whnf)
  intro g4 hg4
  repeat' ((conv => whnf); first | refine walk (Try.ok ..) ?_ | (refine Cnd.mk (fun h => ?_) (fun h => ?_) <;> (first | exact cndT h (by (try dsimp only); omega) | exact cndF h (by (try dsimp only); omega) | (exfalso; simp at h; omega) | simp at h | skip)) | refine kp ?_ ?_ | refine tw ?_ ?_ | exact trivial | refine side2 ?_ | refine sideL2 ?_ | refine Or.inr ?_ | refine sat_drawH (Try.ok ..) (by kernel_rfl) ?_ | refine xi _ (And.intro rfl rfl) ?_ | refine xi _ (fun _ => And.intro rfl rfl) ?_ | refine xi _ rfl ?_)
  refine called_pure (.v (.int .i64 (markI i))) rfl (fun w' => mark_any _ w' (by omega)) ?_
  repeat' ((conv => whnf); first | refine walk (Try.ok ..) ?_ | (refine Cnd.mk (fun h => ?_) (fun h => ?_) <;> (first | exact cndT h (by (try dsimp only); omega) | exact cndF h (by (try dsimp only); omega) | (exfalso; simp at h; omega) | simp at h | skip)) | refine kp ?_ ?_ | refine tw ?_ ?_ | exact trivial | refine side2 ?_ | refine sideL2 ?_ | refine Or.inr ?_ | refine sat_drawH (Try.ok ..) (by kernel_rfl) ?_ | refine xi _ (And.intro rfl rfl) ?_ | refine xi _ (fun _ => And.intro rfl rfl) ?_ | refine xi _ rfl ?_)
  exact done_pure rfl rfl rfl
def marksH : List HRow := (List.range 12).map markH
set_option maxRecDepth 100000 in
set_option maxHeartbeats 8000000 in
theorem lent_any (l : List HRow) (A : Option (Nat × Nat)) (cap : Nat) (w : World) (hA : Ro w A l.length 5 (rwL l)) (hl : l.length ≤ 1000) :
    Calls Try.prog 25 #[.slice (adr A) l.length cap] w fun e w' => ∃ v, e = .returned ((fun v => match v with | .slice a m c => .slice a (m - 12) c | v => v) v) ∧ w'.ownsRow w.heap.size 31 5 v (l.length + 12) (rwL (l ++ marksH)) ∧ Below w.heap.size w w' := by
  refine calls_sat (cx := Try.cx 25 [] [] [] w) (Try.ok ..) Try.func25 rfl [.o 300 A l.length cap] rfl (by show 1 ≤ 25; omega) [(300, .ro A l.length 5 (rwL l))] (holds_ros rfl rfl ⟨hA, trivial⟩) ?_
  repeat' ((conv => whnf); first | refine walk (Try.ok ..) ?_ | (refine Cnd.mk (fun h => ?_) (fun h => ?_) <;> (first | exact cndT h (by (try dsimp only); omega) | exact cndF h (by (try dsimp only); omega) | (exfalso; simp at h; omega) | simp at h | skip)) | refine kp ?_ ?_ | refine tw ?_ ?_ | exact trivial | refine side2 ?_ | refine sideL2 ?_ | refine Or.inr ?_ | refine sat_drawH (Try.ok ..) (by kernel_rfl) ?_ | refine xi _ (And.intro rfl rfl) ?_ | refine xi _ (fun _ => And.intro rfl rfl) ?_ | refine xi _ rfl ?_)
  (conv => whnf)
  intro g8 hg8
  have hL := rwL_len l
  have hall : allV (List.take (l.length * 5) (rwL l)) = true := allV_of fun u hu => by
    obtain ⟨r, _, hr⟩ := List.mem_flatMap.1 (List.mem_of_mem_take hu)
    simp only [rwW, List.mem_cons, List.not_mem_nil, or_false] at hr
    rcases hr with rfl | rfl | rfl | rfl | rfl <;> rfl
  have htk : List.take (l.length * 5) (rwL l) = rwL (l ++ marksH.take 0) := by
    rw [List.take_of_length_le (by omega), List.take_zero, List.append_nil]
  repeat' ((conv => whnf); first | refine walk (Try.ok ..) ?_ | (refine Cnd.mk (fun h => ?_) (fun h => ?_) <;> (first | exact cndT h (by (try dsimp only); omega) | exact cndF h (by (try dsimp only); omega) | (exfalso; simp at h; omega) | simp at h | skip)) | refine kp ?_ ?_ | refine tw ?_ ?_ | exact trivial | refine side2 ?_ | refine sideL2 ?_ | refine Or.inr ?_ | refine sat_drawH (Try.ok ..) (by kernel_rfl) ?_ | refine xi _ (And.intro rfl rfl) ?_ | refine xi _ (fun _ => And.intro rfl rfl) ?_ | refine xi _ rfl ?_ | (refine And.intro (Nat.le_of_eq hL.symm) ?_) | (refine And.intro hall ?_))
  refine sat_loop (Try.ok ..) (α := Nat) (fun i => ([(0, .yes, .o 300 A l.length cap), (3, .yes, .o 8 (some (g8, 0)) (l.length + i) (l.length + 12)), (4, .yes, .v (.int .i64 (i : Nat)))], [(8, .row (some (g8, 0)) 31 5 (l.length + i) (l.length + 12) (rwL (l ++ marksH.take i))), (300, .ro A l.length 5 (rwL l))]))
    (fun i => i ≤ 12) (fun i => 12 - i) (fun _ => rfl) ?_ ?_
  · refine ⟨0, by omega, ?_, ?_, rfl⟩
    · ((repeat' (first | exact trivial | exact rfl | refine And.intro ?_ ?_)) <;> (try (conv => whnf)) <;> (try simp only [SV.real, SV.r2, SV.r1]))
      have e1 : Int.toNat 0 + l.length = l.length + 0 := by omega
      have e2 : ((l.length : Int) + 12).toNat = l.length + 12 := by omega
      rw [e1, e2]
    · ((repeat' (first | exact trivial | exact rfl | refine And.intro ?_ ?_)) <;> (try (conv => whnf)) <;> (try simp only [SV.real, SV.r2, SV.r1]))
      · show Int.toNat 0 + l.length = l.length + 0
        omega
      · rw [htk]
        simp [madeCells]
  intro i hi
  have hms : ∀ i, i < 12 → marksH.take (i + 1) = marksH.take i ++ [markH i] := by
    intro i hi
    rw [List.take_add_one]
    have : marksH[i]? = some (markH i) := by
      unfold marksH
      rw [List.getElem?_map, List.getElem?_range hi]
      rfl
    rw [this]
    rfl
  by_cases hi1 : i < 12
  · repeat' ((conv => whnf); first | refine walk (Try.ok ..) ?_ | (refine Cnd.mk (fun h => ?_) (fun h => ?_) <;> (first | exact cndT h (by (try dsimp only); omega) | exact cndF h (by (try dsimp only); omega) | (exfalso; simp at h; omega) | simp at h | skip)) | refine kp ?_ ?_ | refine tw ?_ ?_ | exact trivial | refine side2 ?_ | refine sideL2 ?_ | refine Or.inr ?_ | refine sat_drawH (Try.ok ..) (by kernel_rfl) ?_ | refine xi _ (And.intro rfl rfl) ?_ | refine xi _ (fun _ => And.intro rfl rfl) ?_ | refine xi _ rfl ?_)
    refine called_pure (.a (rwC (markH i))) rfl (fun w' => markRow_any i w' (by omega)) ?_
    repeat' ((conv => whnf); first | refine walk (Try.ok ..) ?_ | (refine Cnd.mk (fun h => ?_) (fun h => ?_) <;> (first | exact cndT h (by (try dsimp only); omega) | exact cndF h (by (try dsimp only); omega) | (exfalso; simp at h; omega) | simp at h | skip)) | refine kp ?_ ?_ | refine tw ?_ ?_ | exact trivial | refine side2 ?_ | refine sideL2 ?_ | refine Or.inr ?_ | refine sat_drawH (Try.ok ..) (by kernel_rfl) ?_ | refine xi _ (And.intro rfl rfl) ?_ | refine xi _ (fun _ => And.intro rfl rfl) ?_ | refine xi _ rfl ?_)
    (conv => whnf)
    intro g19 hg19
    repeat' ((conv => whnf); first | refine walk (Try.ok ..) ?_ | (refine Cnd.mk (fun h => ?_) (fun h => ?_) <;> (first | exact cndT h (by (try dsimp only); omega) | exact cndF h (by (try dsimp only); omega) | (exfalso; simp at h; omega) | simp at h | skip)) | refine kp ?_ ?_ | refine tw ?_ ?_ | exact trivial | refine side2 ?_ | refine sideL2 ?_ | refine Or.inr ?_ | refine sat_drawH (Try.ok ..) (by kernel_rfl) ?_ | refine xi _ (And.intro rfl rfl) ?_ | refine xi _ (fun _ => And.intro rfl rfl) ?_ | refine xi _ rfl ?_)
    refine ⟨i + 1, ⟨by omega, by omega⟩, ?_, ?_, rfl⟩
    · ((repeat' (first | exact trivial | exact rfl | refine And.intro ?_ ?_)) <;> (try (conv => whnf)) <;> (try simp only [SV.real, SV.r2, SV.r1]))
    · ((repeat' (first | exact trivial | exact rfl | refine And.intro ?_ ?_)) <;> (try (conv => whnf)) <;> (try simp only [SV.real, SV.r2, SV.r1]))
      rw [hms i hi1, ← List.append_assoc]
      unfold rwL
      rw [List.flatMap_append (xs := l ++ marksH.take i)]
      rfl
  obtain rfl : i = 12 := by omega
  repeat' ((conv => whnf); first | refine walk (Try.ok ..) ?_ | (refine Cnd.mk (fun h => ?_) (fun h => ?_) <;> (first | exact cndT h (by (try dsimp only); omega) | exact cndF h (by (try dsimp only); omega) | (exfalso; simp at h; omega) | simp at h | skip)) | refine kp ?_ ?_ | refine tw ?_ ?_ | exact trivial | refine side2 ?_ | refine sideL2 ?_ | refine Or.inr ?_ | refine sat_drawH (Try.ok ..) (by kernel_rfl) ?_ | refine xi _ (And.intro rfl rfl) ?_ | refine xi _ (fun _ => And.intro rfl rfl) ?_ | refine xi _ rfl ?_)
  refine done_row2 rfl rfl 8 (some (g8, 0)) (l.length + 12) rfl rfl (by rw [show marksH.take 12 = marksH from rfl]) ?_
  show Value.slice _ _ _ = Value.slice _ _ _
  rw [Int.toNat_natCast, Nat.add_sub_cancel]
end Go.Proofs.Ytomhfakkebaciaa
