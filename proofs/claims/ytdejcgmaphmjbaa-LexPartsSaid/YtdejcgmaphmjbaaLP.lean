/-
  The law LexParts, walked (under way: the last region is left).
-/
import Derived.Test.YtdejcgmaphmjbaaLB
import Derived.Test.YtdejcgmaphmjbaaRP4
import Derived.Test.YtdejcgmaphmjbaaW2
import Derived.Test.YtdejcgmaphmjbaaRC
set_option linter.unusedSimpArgs false
set_option linter.unusedVariables false
namespace Go.Proofs.Ytdejcgmaphmjbaa
open Go Sat Go.RowKit Go.PlainAid
theorem pos_bound {l : List UInt8} {p q : Int} {x : List Segm} (h : runE l 0 rd0 = (x, p, q)) (hq : q ≠ 0) : 0 ≤ p ∧ p ≤ l.length := by
  rw [runE_eq] at h
  cases hs : runS l 0 rd0 with
  | error e =>
    obtain ⟨l1, c, l2, r1, rfl, h1, h3⟩ := run_split _ _ _ _ hs
    have ha := stepE_at (runS_all _ _ _ _ rd0_all h1) h3
    rw [hs] at h
    dsimp only at h
    have hp := (Prod.mk.inj (Prod.mk.inj h).2).1
    rw [List.length_append, List.length_cons]
    split at ha
    · rename_i hm
      obtain ⟨l0, r0, rfl, hmk, -⟩ := runS_wait h1 hm
      rw [List.length_append]
      omega
    · omega
  | ok r =>
    rw [hs] at h
    dsimp only at h
    unfold finE at h
    split at h
    · rename_i hm
      obtain ⟨l0, r0, rfl, hmk, -⟩ := runS_wait hs hm
      have hp := (Prod.mk.inj (Prod.mk.inj h).2).1
      rw [List.length_append]
      omega
    split at h
    · have hp := (Prod.mk.inj (Prod.mk.inj h).2).1
      omega
    · exact absurd (Prod.mk.inj (Prod.mk.inj h).2).2.symm hq
set_option maxRecDepth 100000 in
set_option maxHeartbeats 16000000 in
theorem lexParts_any (s t : ByteArray) (w : World) : Calls Try.prog 6 #[.string s, .string t] w fun e w' => e = .returned (.bool true) ∧ Below w.heap.size w w' := by
  refine calls_sat (cx := Try.cx 78 [] [] [] w) (Try.ok ..) Try.func6 rfl [.v (.string s), .v (.string t)] rfl (by show 2 ≤ 78; omega) [] (holds_nil (Nat.le_refl _)) ?_
  repeat' ((conv => whnf); first | refine walk (Try.ok ..) ?_ | (refine Cnd.mk (fun h => ?_) (fun h => ?_) <;> (first | exact cndT h (by (try dsimp only); omega) | exact cndF h (by (try dsimp only); omega) | (exfalso; simp at h; omega) | simp at h | skip)) | refine kp ?_ ?_ | refine tw ?_ ?_ | refine appnil rfl ?_ | refine rawnil rfl ?_ | exact trivial | refine side2 ?_ | refine sideL2 ?_ | refine Or.inr ?_ | refine sat_drawH (Try.ok ..) (by kernel_rfl) ?_ | refine xi _ (And.intro rfl rfl) ?_ | refine xi _ (fun _ => And.intro rfl rfl) ?_ | refine xi _ rfl ?_)
  (conv => whnf)
  refine called_pure (.v (.bool true)) rfl (fun w' => awake_any w') ?_
  by_cases hs : 2000 < s.size
  · repeat' ((conv => whnf); first | refine walk (Try.ok ..) ?_ | (refine Cnd.mk (fun h => ?_) (fun h => ?_) <;> (first | exact cndT h (by (try dsimp only); omega) | exact cndF h (by (try dsimp only); omega) | (exfalso; simp at h; omega) | simp at h | skip)) | refine kp ?_ ?_ | refine tw ?_ ?_ | refine appnil rfl ?_ | refine rawnil rfl ?_ | exact trivial | refine side2 ?_ | refine sideL2 ?_ | refine Or.inr ?_ | refine sat_drawH (Try.ok ..) (by kernel_rfl) ?_ | refine xi _ (And.intro rfl rfl) ?_ | refine xi _ (fun _ => And.intro rfl rfl) ?_ | refine xi _ rfl ?_)
    all_goals exact done_pure rfl rfl rfl
  by_cases ht : 2000 < t.size
  · repeat' ((conv => whnf); first | refine walk (Try.ok ..) ?_ | (refine Cnd.mk (fun h => ?_) (fun h => ?_) <;> (first | exact cndT h (by (try dsimp only); omega) | exact cndF h (by (try dsimp only); omega) | (exfalso; simp at h; omega) | simp at h | skip)) | refine kp ?_ ?_ | refine tw ?_ ?_ | refine appnil rfl ?_ | refine rawnil rfl ?_ | exact trivial | refine side2 ?_ | refine sideL2 ?_ | refine Or.inr ?_ | refine sat_drawH (Try.ok ..) (by kernel_rfl) ?_ | refine xi _ (And.intro rfl rfl) ?_ | refine xi _ (fun _ => And.intro rfl rfl) ?_ | refine xi _ rfl ?_)
    all_goals exact done_pure rfl rfl rfl
  have hsz : s.size = s.data.toList.length := rfl
  have htz : t.size = t.data.toList.length := rfl
  obtain ⟨l, p, q, hr⟩ : ∃ x p q, readE s.data.toList = (x, p, q) := ⟨_, _, _, rfl⟩
  obtain ⟨m, p2, q2, hr2⟩ : ∃ x p q, readE t.data.toList = (x, p, q) := ⟨_, _, _, rfl⟩
  repeat' ((conv => whnf); first | refine walk (Try.ok ..) ?_ | (refine Cnd.mk (fun h => ?_) (fun h => ?_) <;> (first | exact cndT h (by (try dsimp only); omega) | exact cndF h (by (try dsimp only); omega) | (exfalso; simp at h; omega) | simp at h | skip)) | refine kp ?_ ?_ | refine tw ?_ ?_ | refine appnil rfl ?_ | refine rawnil rfl ?_ | exact trivial | refine side2 ?_ | refine sideL2 ?_ | refine Or.inr ?_ | refine sat_drawH (Try.ok ..) (by kernel_rfl) ?_ | refine xi _ (And.intro rfl rfl) ?_ | refine xi _ (fun _ => And.intro rfl rfl) ?_ | refine xi _ rfl ?_)
  (conv => whnf)
  refine called_nest 900 (mk := fun v => .tuple #[v, .int .i64 p, .int .i64 q]) (Q := fun w B v => NL w B v l) (fun v => .t [.v v, .v (.int .i64 p), .v (.int .i64 q)]) (fun _ => rfl) (fun w' _ => by exact read_lit (s := s) hr w') ?_
  intro w1 gs1 v1 h1
  by_cases h0 : q = 0
  case neg =>
    repeat' ((conv => whnf); first | refine walk (Try.ok ..) ?_ | (refine Cnd.mk (fun h => ?_) (fun h => ?_) <;> (first | exact cndT h (by (try dsimp only); omega) | exact cndF h (by (try dsimp only); omega) | (exfalso; simp at h; omega) | simp at h | skip)) | refine kp ?_ ?_ | refine tw ?_ ?_ | refine appnil rfl ?_ | refine rawnil rfl ?_ | exact trivial | refine side2 ?_ | refine sideL2 ?_ | refine Or.inr ?_ | refine sat_drawH (Try.ok ..) (by kernel_rfl) ?_ | refine xi _ (And.intro rfl rfl) ?_ | refine xi _ (fun _ => And.intro rfl rfl) ?_ | refine xi _ rfl ?_)
    all_goals exact done_pure rfl rfl rfl
  subst h0
  repeat' ((conv => whnf); first | refine walk (Try.ok ..) ?_ | (refine Cnd.mk (fun h => ?_) (fun h => ?_) <;> (first | exact cndT h (by (try dsimp only); omega) | exact cndF h (by (try dsimp only); omega) | (exfalso; simp at h; omega) | simp at h | skip)) | refine kp ?_ ?_ | refine tw ?_ ?_ | refine appnil rfl ?_ | refine rawnil rfl ?_ | exact trivial | refine side2 ?_ | refine sideL2 ?_ | refine Or.inr ?_ | refine sat_drawH (Try.ok ..) (by kernel_rfl) ?_ | refine xi _ (And.intro rfl rfl) ?_ | refine xi _ (fun _ => And.intro rfl rfl) ?_ | refine xi _ rfl ?_)
  (conv => whnf)
  refine called_nest 901 (mk := fun v => .tuple #[v, .int .i64 p2, .int .i64 q2]) (Q := fun w B v => NL w B v m) (fun v => .t [.v v, .v (.int .i64 p2), .v (.int .i64 q2)]) (fun _ => rfl) (fun w' _ => by exact read_lit (s := t) hr2 w') ?_
  intro w2 gs2 v2 h2
  have hpt := parts (a := s.data.toList) (b := t.data.toList) (l := l) (p := p) (by rw [← readE_short (by omega)]; exact hr) (by omega) (by omega)
  rw [← readE_short (by rw [List.length_append]; omega), ← readE_short (l := t.data.toList) (by omega), hr2, ← app_list] at hpt
  dsimp only at hpt
  by_cases h02 : q2 = 0
  case neg =>
    rw [if_neg h02] at hpt
    have hpb := pos_bound (l := t.data.toList) (by rw [← readE_short (by omega)]; exact hr2) h02
    repeat' ((conv => whnf); first | refine walk (Try.ok ..) ?_ | (refine Cnd.mk (fun h => ?_) (fun h => ?_) <;> (first | exact cndT h (by (try dsimp only); omega) | exact cndF h (by (try dsimp only); omega) | (exfalso; simp at h; omega) | simp at h | skip)) | refine kp ?_ ?_ | refine tw ?_ ?_ | refine appnil rfl ?_ | refine rawnil rfl ?_ | exact trivial | refine side2 ?_ | refine sideL2 ?_ | refine Or.inr ?_ | refine sat_drawH (Try.ok ..) (by kernel_rfl) ?_ | refine xi _ (And.intro rfl rfl) ?_ | refine xi _ (fun _ => And.intro rfl rfl) ?_ | refine xi _ rfl ?_)
    (conv => whnf)
    refine called_nest 902 (mk := fun v => .tuple #[v, .int .i64 ((s.data.toList.length : Int) + p2), .int .i64 q2]) (Q := fun w B v => NL w B v []) (fun v => .t [.v v, .v (.int .i64 ((s.data.toList.length : Int) + p2)), .v (.int .i64 q2)]) (fun _ => rfl) (fun w' _ => by exact read_lit (s := s ++ t) hpt w') ?_
    intro w3 gs3 v3 h3
    obtain ⟨A3, c3, xs3, rfl, -⟩ := h3
    repeat' ((conv => whnf); first | refine walk (Try.ok ..) ?_ | (refine Cnd.mk (fun h => ?_) (fun h => ?_) <;> (first | exact cndT h (by (try dsimp only); omega) | exact cndF h (by (try dsimp only); omega) | (exfalso; simp at h; omega) | simp at h | skip)) | refine kp ?_ ?_ | refine tw ?_ ?_ | refine appnil rfl ?_ | refine rawnil rfl ?_ | exact trivial | refine side2 ?_ | refine sideL2 ?_ | refine Or.inr ?_ | refine sat_drawH (Try.ok ..) (by kernel_rfl) ?_ | refine xi _ (And.intro rfl rfl) ?_ | refine xi _ (fun _ => And.intro rfl rfl) ?_ | refine xi _ rfl ?_)
    all_goals exact done_pure rfl rfl (congrArg Value.bool (by simp))
  subst h02
  rw [if_pos rfl] at hpt
  repeat' ((conv => whnf); first | refine walk (Try.ok ..) ?_ | (refine Cnd.mk (fun h => ?_) (fun h => ?_) <;> (first | exact cndT h (by (try dsimp only); omega) | exact cndF h (by (try dsimp only); omega) | (exfalso; simp at h; omega) | simp at h | skip)) | refine kp ?_ ?_ | refine tw ?_ ?_ | refine appnil rfl ?_ | refine rawnil rfl ?_ | exact trivial | refine side2 ?_ | refine sideL2 ?_ | refine Or.inr ?_ | refine sat_drawH (Try.ok ..) (by kernel_rfl) ?_ | refine xi _ (And.intro rfl rfl) ?_ | refine xi _ (fun _ => And.intro rfl rfl) ?_ | refine xi _ rfl ?_)
  (conv => whnf)
  refine called_nest 902 (mk := fun v => .tuple #[v, .int .i64 0, .int .i64 0]) (Q := fun w B v => NL w B v (l ++ m)) (fun v => .t [.v v, .v (.int .i64 0), .v (.int .i64 0)]) (fun _ => rfl) (fun w' _ => by exact read_lit (s := s ++ t) hpt w') ?_
  intro w3 gs3 v3 h3
  have few : FewL l := fewL_of (again (t := s.data.toList) (p := p) (by rw [← readE_short (l := s.data.toList) (by omega)]; exact hr))
  have fewm := (again (t := t.data.toList) (p := p2) (l := m) (by rw [← readE_short (l := t.data.toList) (by omega)]; exact hr2)).few
  have fewl := few.top
  obtain ⟨A2, c2, xs2, rfl, hc2, hro2, hB2, hx2⟩ := h2
  have hall : allV xs2 = true := nest_all (R := NS) (fun w B v a h => nest_cells h) (by rw [hro2.1, Nat.mul_one]) hx2
  repeat' ((conv => whnf); first | refine walk (Try.ok ..) ?_ | (refine Cnd.mk (fun h => ?_) (fun h => ?_) <;> (first | exact cndT h (by (try dsimp only); omega) | exact cndF h (by (try dsimp only); omega) | (exfalso; simp at h; omega) | simp at h | skip)) | refine kp ?_ ?_ | refine tw ?_ ?_ | refine appnil rfl ?_ | refine rawnil rfl ?_ | exact trivial | refine side2 ?_ | (with_reducible refine Or.inr (Cnd.mk (fun _ => ?_) (fun h => absurd (of_decide_eq_false h) (by omega)))) | (with_reducible refine Or.inr (Cnd.mk (fun _ => ?_) (fun h => absurd h (by simp)))) | refine sideL2 ?_ | refine Or.inr ?_ | refine sat_drawH (Try.ok ..) (by kernel_rfl) ?_ | refine xi _ (And.intro rfl rfl) ?_ | refine xi _ (fun _ => And.intro rfl rfl) ?_ | refine xi _ rfl ?_)
  (conv => whnf)
  refine called_nestR 903 904 (mk := id) (R := NS) (l := l) (T := 31) (fun A cap => .o 903 A l.length cap) (fun _ _ => rfl) (fun w' hh => by exact own_row l v1 w' (frz_any 900 h1 hh rfl) few) ?_
  intro w4 A4 cap4 xs4 gs4 hl4 hx4
  repeat' ((conv => whnf); first | refine walk (Try.ok ..) ?_ | (refine Cnd.mk (fun h => ?_) (fun h => ?_) <;> (first | exact cndT h (by (try dsimp only); omega) | exact cndF h (by (try dsimp only); omega) | (exfalso; simp at h; omega) | simp at h | skip)) | refine kp ?_ ?_ | refine tw ?_ ?_ | refine appnil rfl ?_ | refine rawnil rfl ?_ | exact trivial | refine side2 ?_ | (with_reducible refine Or.inr (Cnd.mk (fun _ => ?_) (fun h => absurd (of_decide_eq_false h) (by omega)))) | (with_reducible refine Or.inr (Cnd.mk (fun _ => ?_) (fun h => absurd h (by simp)))) | refine sideL2 ?_ | refine Or.inr ?_ | refine sat_drawH (Try.ok ..) (by kernel_rfl) ?_ | refine xi _ (And.intro rfl rfl) ?_ | refine xi _ (fun _ => And.intro rfl rfl) ?_ | refine xi _ rfl ?_)
  (conv => whnf)
  refine raw_frz (d := 901) hro2 hB2 rfl ?_
  repeat' ((conv => whnf); first | refine walk (Try.ok ..) ?_ | (refine Cnd.mk (fun h => ?_) (fun h => ?_) <;> (first | exact cndT h (by (try dsimp only); omega) | exact cndF h (by (try dsimp only); omega) | (exfalso; simp at h; omega) | simp at h | skip)) | refine kp ?_ ?_ | refine tw ?_ ?_ | refine appnil rfl ?_ | refine rawnil rfl ?_ | exact trivial | refine side2 ?_ | (with_reducible refine Or.inr (Cnd.mk (fun _ => ?_) (fun h => absurd (of_decide_eq_false h) (by omega)))) | (with_reducible refine Or.inr (Cnd.mk (fun _ => ?_) (fun h => absurd h (by simp)))) | refine sideL2 ?_ | refine Or.inr ?_ | refine sat_drawH (Try.ok ..) (by kernel_rfl) ?_ | refine xi _ (And.intro rfl rfl) ?_ | refine xi _ (fun _ => And.intro rfl rfl) ?_ | refine xi _ rfl ?_)
  (conv => whnf)
  intro A5 cap5
  repeat' ((conv => whnf); first | refine walk (Try.ok ..) ?_ | (refine Cnd.mk (fun h => ?_) (fun h => ?_) <;> (first | exact cndT h (by (try dsimp only); omega) | exact cndF h (by (try dsimp only); omega) | (exfalso; simp at h; omega) | simp at h | skip)) | refine kp ?_ ?_ | refine tw ?_ ?_ | refine appnil rfl ?_ | refine rawnil rfl ?_ | exact trivial | refine side2 ?_ | (with_reducible refine Or.inr (Cnd.mk (fun _ => ?_) (fun h => absurd (of_decide_eq_false h) (by omega)))) | (with_reducible refine Or.inr (Cnd.mk (fun _ => ?_) (fun h => absurd h (by simp)))) | refine sideL2 ?_ | refine Or.inr ?_ | refine sat_drawH (Try.ok ..) (by kernel_rfl) ?_ | refine xi _ (And.intro rfl rfl) ?_ | refine xi _ (fun _ => And.intro rfl rfl) ?_ | refine xi _ rfl ?_)
  (conv => whnf)
  refine called_at (.v (.bool (decide (l ++ m = l ++ m)))) rfl (fun w' hh => by exact same_any (l ++ m) (l ++ m) v3 _ w' (frz_any 902 h3 hh rfl) (nest_app ns_stays hh 903 904 901 rfl rfl rfl hx4 hx2 hl4 (by rw [List.length_append]))) ?_
  repeat' ((conv => whnf); first | refine walk (Try.ok ..) ?_ | (refine Cnd.mk (fun h => ?_) (fun h => ?_) <;> (first | exact cndT h (by (try dsimp only); omega) | exact cndF h (by (try dsimp only); omega) | (exfalso; simp at h; omega) | simp at h | skip)) | refine kp ?_ ?_ | refine tw ?_ ?_ | refine appnil rfl ?_ | refine rawnil rfl ?_ | exact trivial | refine side2 ?_ | refine sideL2 ?_ | refine Or.inr ?_ | refine sat_drawH (Try.ok ..) (by kernel_rfl) ?_ | refine xi _ (And.intro rfl rfl) ?_ | refine xi _ (fun _ => And.intro rfl rfl) ?_ | refine xi _ rfl ?_)
  all_goals exact done_pure rfl rfl (congrArg Value.bool (by simp))
end Go.Proofs.Ytdejcgmaphmjbaa
