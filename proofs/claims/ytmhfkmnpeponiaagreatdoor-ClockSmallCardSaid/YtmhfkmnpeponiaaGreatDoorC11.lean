/-
  The walks of the reference of the clock package: what two lists of spans have in common.
-/
import Derived.Test.YtmhfkmnpeponiaaGreatDoorC10
import Derived.Test.YtmhfkmnpeponiaaGreatDoorC4
namespace Go.Proofs.YtmhfkmnpeponiaaGreatDoor
open Go Sat Go.RowKit Go.PlainAid
set_option linter.unusedSimpArgs false
set_option linter.unusedVariables false
theorem rowTo_at {s r : Sp} {b : List Sp} {k : Nat} (h : b[k]? = some r) : rowTo s b (k + 1) = rowTo s b k ++ pc s r := by rw [rowTo, h]
set_option maxRecDepth 100000 in
set_option maxHeartbeats 8000000 in
theorem rboth_any (a b : List Sp) (A B : Option (Nat × Nat)) (cA cB : Nat) (w : World) (hA : Ro w A a.length 2 (sps a)) (hB : Ro w B b.length 2 (sps b)) (hl : a.length ≤ 4611686018427387903) (hc : b.length ≤ 4611686018427387903) :
    Calls Tryz.prog 28 #[.slice (adr A) a.length cA, .slice (adr B) b.length cB] w fun e w' => ∃ v, e = .returned (.tuple #[v, .int .i64 (boE a b)]) ∧ w'.ownsRow w.heap.size 81 2 v (boL a b).length (sps (boL a b)) ∧ Below w.heap.size w w' := by
  refine calls_sat (cx := Tryz.cx 66 [] [] [] w) (Tryz.ok ..) Tryz.func28 rfl [.o 300 A a.length cA, .o 301 B b.length cB] rfl (by show 2 ≤ 66; omega) [(300, .ro A a.length 2 (sps a)), (301, .ro B b.length 2 (sps b))] (holds_ros rfl rfl ⟨hA, hB, trivial⟩) ?_
  repeat' ((conv => whnf); first | refine walk (Tryz.ok ..) ?_ | (refine Cnd.mk (fun h => ?_) (fun h => ?_) <;> (first | exact cndT h (by (try dsimp only); omega) | exact cndF h (by (try dsimp only); omega) | (exfalso; simp at h; omega) | simp at h | skip)) | refine kp ?_ ?_ | refine tw ?_ ?_ | exact trivial | refine side ?_ | refine sideL ?_ | refine Or.inr ?_ | refine sat_drawH (Tryz.ok ..) (by kernel_rfl) ?_ | refine xi _ (And.intro rfl rfl) ?_ | refine xi _ (fun _ => And.intro rfl rfl) ?_ | refine xi _ rfl ?_)
  obtain ⟨p, hp⟩ : ∃ p, p = apart a := ⟨_, rfl⟩
  obtain ⟨q, hq⟩ : ∃ p, p = apart b := ⟨_, rfl⟩
  refine called_at (.v (.bool p)) rfl (fun w' hh => by rw [hp]; exact rapart_any a A cA w' (ro_of_ro hh (id := 300) rfl) (by omega)) ?_
  repeat' ((conv => whnf); first | refine walk (Tryz.ok ..) ?_ | (refine Cnd.mk (fun h => ?_) (fun h => ?_) <;> (first | exact cndT h (by (try dsimp only); omega) | exact cndF h (by (try dsimp only); omega) | (exfalso; simp at h; omega) | simp at h | skip)) | refine kp ?_ ?_ | refine tw ?_ ?_ | exact trivial | refine side ?_ | refine sideL ?_ | refine Or.inr ?_ | refine sat_drawH (Tryz.ok ..) (by kernel_rfl) ?_ | refine xi _ (And.intro rfl rfl) ?_ | refine xi _ (fun _ => And.intro rfl rfl) ?_ | refine xi _ rfl ?_)
  refine calledQ_at (.v (.bool q)) rfl (fun _ w' hh => by rw [hq]; exact rapart_any b B cB w' (ro_of_ro hh (id := 301) rfl) (by omega)) ?_
  repeat' ((conv => whnf); first | refine walk (Tryz.ok ..) ?_ | (refine Cnd.mk (fun h => ?_) (fun h => ?_) <;> (first | exact cndT h (by (try dsimp only); omega) | exact cndF h (by (try dsimp only); omega) | (exfalso; simp at h; omega) | simp at h | skip)) | refine kp ?_ ?_ | refine tw ?_ ?_ | exact trivial | refine side ?_ | refine sideL ?_ | refine Or.inr ?_ | refine sat_drawH (Tryz.ok ..) (by kernel_rfl) ?_ | refine xi _ (And.intro rfl rfl) ?_ | refine xi _ (fun _ => And.intro rfl rfl) ?_ | refine xi _ rfl ?_)
  · have hno : boOk a b = false := by
      unfold boOk
      rw [← hp, ← hq]
      rcases h with h | h <;> rw [h] <;> simp
    obtain ⟨h1, h2⟩ := bo_no hno
    rw [h1, h2]
    exact done_nil (mk := fun v => .tuple #[v, .int .i64 2]) rfl rfl rfl
  have hyes : boOk a b = true := by
    unfold boOk
    rw [← hp, ← hq, h.1, h.2]
    rfl
  obtain ⟨oka, na⟩ := apart_ok (hp ▸ h.1)
  obtain ⟨okb, nb⟩ := apart_ok (hq ▸ h.2)
  refine sat_loop (Tryz.ok ..) (α := Nat × Option (Nat × Nat) × Nat) (fun s => ([(0, .yes, .o 300 A a.length cA), (1, .yes, .o 301 B b.length cB), (6, .yes, .o 61 s.2.1 (bothTo a b s.1).length s.2.2), (7, .yes, .v (.int .i64 s.1))],
      [(61, .row s.2.1 81 2 (bothTo a b s.1).length s.2.2 (sps (bothTo a b s.1))), (300, .ro A a.length 2 (sps a)), (301, .ro B b.length 2 (sps b))])) (fun s => s.1 ≤ a.length) (fun s => a.length - s.1) (fun _ => rfl) ?_ ?_
  · refine ⟨(0, none, 0), Nat.zero_le _, ?_, ?_, rfl⟩
    all_goals ((repeat' (first | exact trivial | exact rfl | refine And.intro ?_ ?_)) <;> (try (conv => whnf)) <;> (try simp only [SV.real, SV.r2, SV.r1]))
  rintro ⟨n, A1, cap1⟩ hn
  dsimp only at hn
  by_cases hn1 : n < a.length
  · obtain ⟨s, hs⟩ : ∃ s, a[n]? = some s := ⟨a[n], List.getElem?_eq_getElem hn1⟩
    repeat' ((conv => whnf); first | refine walk (Tryz.ok ..) ?_ | (refine Cnd.mk (fun h => ?_) (fun h => ?_) <;> (first | exact cndT h (by (try dsimp only); omega) | exact cndF h (by (try dsimp only); omega) | (exfalso; simp at h; omega) | simp at h | skip)) | refine kp ?_ ?_ | refine tw ?_ ?_ | exact trivial | refine side ?_ | refine sideL ?_ | refine Or.inr ?_ | refine sat_drawH (Tryz.ok ..) (by kernel_rfl) ?_ | refine xi _ (And.intro rfl rfl) ?_ | refine xi _ (fun _ => And.intro rfl rfl) ?_ | refine xi _ rfl ?_)
    refine sat_loop (Tryz.ok ..) (α := Nat × Option (Nat × Nat) × Nat) (fun x => ([(0, .yes, .o 300 A a.length cA), (1, .yes, .o 301 B b.length cB), (6, .yes, .o 61 x.2.1 (bothTo a b n ++ rowTo s b x.1).length x.2.2), (7, .yes, .v (.int .i64 n)), (8, .yes, .v (.int .i64 x.1))],
        [(61, .row x.2.1 81 2 (bothTo a b n ++ rowTo s b x.1).length x.2.2 (sps (bothTo a b n ++ rowTo s b x.1))), (300, .ro A a.length 2 (sps a)), (301, .ro B b.length 2 (sps b))])) (fun x => x.1 ≤ b.length) (fun x => b.length - x.1) (fun _ => rfl) ?_ ?_
    · refine ⟨(0, A1, cap1), Nat.zero_le _, ?_, ?_, rfl⟩
      all_goals
        dsimp only
        rw [show rowTo s b 0 = [] from rfl, List.append_nil]
        ((repeat' (first | exact trivial | exact rfl | refine And.intro ?_ ?_)) <;> (try (conv => whnf)) <;> (try simp only [SV.real, SV.r2, SV.r1]))
    rintro ⟨k, A2, cap2⟩ hk
    dsimp only at hk
    by_cases hk1 : k < b.length
    · obtain ⟨r, hr⟩ : ∃ r, b[k]? = some r := ⟨b[k], List.getElem?_eq_getElem hk1⟩
      have hl2 := bothTo_len a b n
      have hl3 := rowTo_len s b k
      have hl4 : n * b.length ≤ 1000 * 1000 := Nat.mul_le_mul (by omega) (by omega)
      have hlen : (bothTo a b n ++ rowTo s b k).length ≤ 1001000 := by rw [List.length_append]; omega
      have hpc : max s.f r.f < min s.t r.t → bothTo a b n ++ rowTo s b (k + 1) = bothTo a b n ++ rowTo s b k ++ [⟨max s.f r.f, min s.t r.t⟩] := fun h => by
        rw [rowTo_at hr, pc, if_pos h, List.append_assoc]
      have hpn : ¬ max s.f r.f < min s.t r.t → bothTo a b n ++ rowTo s b (k + 1) = bothTo a b n ++ rowTo s b k := fun h => by
        rw [rowTo_at hr, pc, if_neg h, List.append_nil]
      repeat' ((conv => whnf); first | refine walk (Tryz.ok ..) ?_ | (refine Cnd.mk (fun h => ?_) (fun h => ?_) <;> (first | exact cndT h (by (try dsimp only); omega) | exact cndF h (by (try dsimp only); omega) | (exfalso; simp at h; omega) | simp at h | skip)) | refine kp ?_ ?_ | refine tw ?_ ?_ | exact trivial | refine side ?_ | refine sideL ?_ | refine Or.inr ?_ | refine sat_drawH (Tryz.ok ..) (by kernel_rfl) ?_ | refine xi _ (And.intro rfl rfl) ?_ | refine xi _ (fun _ => And.intro rfl rfl) ?_ | refine xi _ rfl ?_ | refine xi _ (fun _ => (at_f hs rfl)) ?_ | refine xi _ (at_f hs rfl) ?_ | refine xi _ (fun _ => (at_t hs rfl)) ?_ | refine xi _ (at_t hs rfl) ?_ | refine xi _ (fun _ => (at_f hr rfl)) ?_ | refine xi _ (at_f hr rfl) ?_ | refine xi _ (fun _ => (at_t hr rfl)) ?_ | refine xi _ (at_t hr rfl) ?_)
      intro g9 hg9
      repeat' ((conv => whnf); first | refine walk (Tryz.ok ..) ?_ | (refine Cnd.mk (fun h => ?_) (fun h => ?_) <;> (first | exact cndT h (by (try dsimp only); omega) | exact cndF h (by (try dsimp only); omega) | (exfalso; simp at h; omega) | simp at h | skip)) | refine kp ?_ ?_ | refine tw ?_ ?_ | exact trivial | refine side ?_ | refine sideL ?_ | refine Or.inr ?_ | refine sat_drawH (Tryz.ok ..) (by kernel_rfl) ?_ | refine xi _ (And.intro rfl rfl) ?_ | refine xi _ (fun _ => And.intro rfl rfl) ?_ | refine xi _ rfl ?_)
      · have e := hpc h
        have el : (bothTo a b n ++ rowTo s b (k + 1)).length = (bothTo a b n ++ rowTo s b k).length + 1 := by rw [e]; simp; omega
        intro g60 hg60
        repeat' ((conv => whnf); first | refine walk (Tryz.ok ..) ?_ | (refine Cnd.mk (fun h => ?_) (fun h => ?_) <;> (first | exact cndT h (by (try dsimp only); omega) | exact cndF h (by (try dsimp only); omega) | (exfalso; simp at h; omega) | simp at h | skip)) | refine kp ?_ ?_ | refine tw ?_ ?_ | exact trivial | refine side ?_ | refine sideL ?_ | refine Or.inr ?_ | refine sat_drawH (Tryz.ok ..) (by kernel_rfl) ?_ | refine xi _ (And.intro rfl rfl) ?_ | refine xi _ (fun _ => And.intro rfl rfl) ?_ | refine xi _ rfl ?_)
        intro A3 cap3
        repeat' ((conv => whnf); first | refine walk (Tryz.ok ..) ?_ | (refine Cnd.mk (fun h => ?_) (fun h => ?_) <;> (first | exact cndT h (by (try dsimp only); omega) | exact cndF h (by (try dsimp only); omega) | (exfalso; simp at h; omega) | simp at h | skip)) | refine kp ?_ ?_ | refine tw ?_ ?_ | exact trivial | refine side ?_ | refine sideL ?_ | refine Or.inr ?_ | refine sat_drawH (Tryz.ok ..) (by kernel_rfl) ?_ | refine xi _ (And.intro rfl rfl) ?_ | refine xi _ (fun _ => And.intro rfl rfl) ?_ | refine xi _ rfl ?_)
        refine ⟨(k + 1, A3, cap3), ⟨by show k + 1 ≤ b.length; omega, by show b.length - (k + 1) < b.length - k; omega⟩, ?_, ?_, rfl⟩
        · dsimp only
          rw [el]
          ((repeat' (first | exact trivial | exact rfl | refine And.intro ?_ ?_)) <;> (try (conv => whnf)) <;> (try simp only [SV.real, SV.r2, SV.r1]))
        · dsimp only
          rw [el, e, sps_app (bothTo a b n ++ rowTo s b k)]
          ((repeat' (first | exact trivial | exact rfl | refine And.intro ?_ ?_)) <;> (try (conv => whnf)) <;> (try simp only [SV.real, SV.r2, SV.r1]))
      · have e := hpn (by omega)
        refine ⟨(k + 1, A2, cap2), ⟨by show k + 1 ≤ b.length; omega, by show b.length - (k + 1) < b.length - k; omega⟩, ?_, ?_, rfl⟩
        all_goals
          dsimp only
          rw [e]
          ((repeat' (first | exact trivial | exact rfl | refine And.intro ?_ ?_)) <;> (try (conv => whnf)) <;> (try simp only [SV.real, SV.r2, SV.r1]))
    · obtain rfl : k = b.length := by omega
      repeat' ((conv => whnf); first | refine walk (Tryz.ok ..) ?_ | (refine Cnd.mk (fun h => ?_) (fun h => ?_) <;> (first | exact cndT h (by (try dsimp only); omega) | exact cndF h (by (try dsimp only); omega) | (exfalso; simp at h; omega) | simp at h | skip)) | refine kp ?_ ?_ | refine tw ?_ ?_ | exact trivial | refine side ?_ | refine sideL ?_ | refine Or.inr ?_ | refine sat_drawH (Tryz.ok ..) (by kernel_rfl) ?_ | refine xi _ (And.intro rfl rfl) ?_ | refine xi _ (fun _ => And.intro rfl rfl) ?_ | refine xi _ rfl ?_)
      refine ⟨(n + 1, A2, cap2), ⟨by show n + 1 ≤ a.length; omega, by show a.length - (n + 1) < a.length - n; omega⟩, ?_, ?_, rfl⟩
      all_goals
        dsimp only
        rw [bothTo_at hs]
        ((repeat' (first | exact trivial | exact rfl | refine And.intro ?_ ?_)) <;> (try (conv => whnf)) <;> (try simp only [SV.real, SV.r2, SV.r1]))
  · obtain rfl : n = a.length := by omega
    by_cases hlen : (bothL a b).length ≤ 1000
    · have hlen2 : (bothTo a b a.length).length ≤ 1000 := hlen
      repeat' ((conv => whnf); first | refine walk (Tryz.ok ..) ?_ | (refine Cnd.mk (fun h => ?_) (fun h => ?_) <;> (first | exact cndT h (by (try dsimp only); omega) | exact cndF h (by (try dsimp only); omega) | (exfalso; simp at h; omega) | simp at h | skip)) | refine kp ?_ ?_ | refine tw ?_ ?_ | exact trivial | refine side ?_ | refine sideL ?_ | refine Or.inr ?_ | refine sat_drawH (Tryz.ok ..) (by kernel_rfl) ?_ | refine xi _ (And.intro rfl rfl) ?_ | refine xi _ (fun _ => And.intro rfl rfl) ?_ | refine xi _ rfl ?_)
      obtain ⟨h1, h2⟩ := bo_yes hyes hlen
      rw [h1, h2]
      exact done_row (mk := fun v => .tuple #[v, .int .i64 0]) rfl rfl 61 A1 cap1 rfl rfl
    · have hlen2 : ¬ (bothTo a b a.length).length ≤ 1000 := hlen
      repeat' ((conv => whnf); first | refine walk (Tryz.ok ..) ?_ | (refine Cnd.mk (fun h => ?_) (fun h => ?_) <;> (first | exact cndT h (by (try dsimp only); omega) | exact cndF h (by (try dsimp only); omega) | (exfalso; simp at h; omega) | simp at h | skip)) | refine kp ?_ ?_ | refine tw ?_ ?_ | exact trivial | refine side ?_ | refine sideL ?_ | refine Or.inr ?_ | refine sat_drawH (Tryz.ok ..) (by kernel_rfl) ?_ | refine xi _ (And.intro rfl rfl) ?_ | refine xi _ (fun _ => And.intro rfl rfl) ?_ | refine xi _ rfl ?_)
      obtain ⟨h1, h2⟩ := bo_many hyes hlen
      rw [h1, h2]
      exact done_nil (mk := fun v => .tuple #[v, .int .i64 5]) rfl rfl rfl
end Go.Proofs.YtmhfkmnpeponiaaGreatDoor
