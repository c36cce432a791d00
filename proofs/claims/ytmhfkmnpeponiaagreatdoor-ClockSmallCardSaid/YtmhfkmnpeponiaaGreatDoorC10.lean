/-
  The walks of the clock package and of its reference: what two lists of spans have in common.
-/
import Derived.Test.YtmhfkmnpeponiaaGreatDoorC9
import Derived.Test.YtmhfkmnpeponiaaGreatDoorC5
namespace Go.Proofs.YtmhfkmnpeponiaaGreatDoor
open Go Sat Go.RowKit Go.PlainAid
set_option linter.unusedSimpArgs false
set_option linter.unusedVariables false
theorem bo_no {a b : List Sp} (h : boOk a b = false) : boL a b = [] ∧ boE a b = 2 := by unfold boL boE; rw [h]; exact ⟨rfl, rfl⟩
theorem bo_yes {a b : List Sp} (h : boOk a b = true) (h2 : (bothL a b).length ≤ 1000) : boL a b = bothL a b ∧ boE a b = 0 := by unfold boL boE; rw [h, if_pos ⟨rfl, h2⟩, if_pos h2]; exact ⟨rfl, rfl⟩
theorem bo_many {a b : List Sp} (h : boOk a b = true) (h2 : ¬ (bothL a b).length ≤ 1000) : boL a b = [] ∧ boE a b = 5 := by unfold boL boE; rw [h, if_neg (fun hc => h2 hc.2), if_neg h2]; exact ⟨rfl, rfl⟩
theorem in_of {l : List Sp} (h : okTo l l.length = true) {k : Nat} {s : Sp} (hs : l[k]? = some s) : InR .i64 s.f ∧ InR .i64 s.t := by
  have := ok_own h hs
  simp only [InR]
  omega
set_option maxRecDepth 100000 in
set_option maxHeartbeats 8000000 in
theorem both_any (a b : List Sp) (A B : Option (Nat × Nat)) (cA cB : Nat) (w : World) (hA : Ro w A a.length 2 (sps a)) (hB : Ro w B b.length 2 (sps b)) (hl : a.length ≤ 4611686018427387903) (hc : b.length ≤ 4611686018427387903) (hcB : b.length ≤ cB) :
    Calls Tryz.prog 24 #[.slice (adr A) a.length cA, .slice (adr B) b.length cB] w fun e w' => ∃ v, e = .returned (.tuple #[v, .int .i64 (boE a b)]) ∧ w'.ownsRow w.heap.size 25 2 v (boL a b).length (sps (boL a b)) ∧ Below w.heap.size w w' := by
  refine calls_sat (cx := Tryz.cx 53 [] [] [] w) (Tryz.ok ..) Tryz.func24 rfl [.o 300 A a.length cA, .o 301 B b.length cB] rfl (by show 2 ≤ 53; omega) [(300, .ro A a.length 2 (sps a)), (301, .ro B b.length 2 (sps b))] (holds_ros rfl rfl ⟨hA, hB, trivial⟩) ?_
  repeat' ((conv => whnf); first | refine walk (Tryz.ok ..) ?_ | (refine Cnd.mk (fun h => ?_) (fun h => ?_) <;> (first | exact cndT h (by (try dsimp only); omega) | exact cndF h (by (try dsimp only); omega) | (exfalso; simp at h; omega) | simp at h | skip)) | refine kp ?_ ?_ | refine tw ?_ ?_ | exact trivial | refine side ?_ | refine sideL ?_ | refine Or.inr ?_ | refine sat_drawH (Tryz.ok ..) (by kernel_rfl) ?_ | refine xi _ (And.intro rfl rfl) ?_ | refine xi _ (fun _ => And.intro rfl rfl) ?_ | refine xi _ rfl ?_)
  obtain ⟨p, hp⟩ : ∃ p, p = apart a := ⟨_, rfl⟩
  obtain ⟨q, hq⟩ : ∃ p, p = apart b := ⟨_, rfl⟩
  refine called_at (.v (.bool p)) rfl (fun w' hh => by rw [hp]; exact apart_any a A cA w' (ro_of_ro hh (id := 300) rfl) (by omega)) ?_
  repeat' ((conv => whnf); first | refine walk (Tryz.ok ..) ?_ | (refine Cnd.mk (fun h => ?_) (fun h => ?_) <;> (first | exact cndT h (by (try dsimp only); omega) | exact cndF h (by (try dsimp only); omega) | (exfalso; simp at h; omega) | simp at h | skip)) | refine kp ?_ ?_ | refine tw ?_ ?_ | exact trivial | refine side ?_ | refine sideL ?_ | refine Or.inr ?_ | refine sat_drawH (Tryz.ok ..) (by kernel_rfl) ?_ | refine xi _ (And.intro rfl rfl) ?_ | refine xi _ (fun _ => And.intro rfl rfl) ?_ | refine xi _ rfl ?_)
  refine calledQ_at (.v (.bool q)) rfl (fun _ w' hh => by rw [hq]; exact apart_any b B cB w' (ro_of_ro hh (id := 301) rfl) (by omega)) ?_
  repeat' ((conv => whnf); first | refine walk (Tryz.ok ..) ?_ | (refine Cnd.mk (fun h => ?_) (fun h => ?_) <;> (first | exact cndT h (by (try dsimp only); omega) | exact cndF h (by (try dsimp only); omega) | (exfalso; simp at h; omega) | simp at h | skip)) | refine kp ?_ ?_ | refine tw ?_ ?_ | exact trivial | refine side ?_ | refine sideL ?_ | refine Or.inr ?_ | refine sat_drawH (Tryz.ok ..) (by kernel_rfl) ?_ | refine xi _ (And.intro rfl rfl) ?_ | refine xi _ (fun _ => And.intro rfl rfl) ?_ | refine xi _ rfl ?_)
  · have hno : boOk a b = false := by
      unfold boOk
      rw [← hp, ← hq]
      rcases h with h | h <;> rw [h] <;> simp
    obtain ⟨h1, h2⟩ := bo_no hno
    rw [h1, h2]
    exact done_nil (mk := fun v => .tuple #[v, .int .i64 2]) rfl rfl rfl
  have hyes : boOk a b = true := by
    unfold boOk
    rw [← hp, ← hq, h.1, h.2]
    rfl
  obtain ⟨oka, na⟩ := apart_ok (hp ▸ h.1)
  obtain ⟨okb, nb⟩ := apart_ok (hq ▸ h.2)
  intro g6 hg6
  repeat' ((conv => whnf); first | refine walk (Tryz.ok ..) ?_ | (refine Cnd.mk (fun h => ?_) (fun h => ?_) <;> (first | exact cndT h (by (try dsimp only); omega) | exact cndF h (by (try dsimp only); omega) | (exfalso; simp at h; omega) | simp at h | skip)) | refine kp ?_ ?_ | refine tw ?_ ?_ | exact trivial | refine side ?_ | refine sideL ?_ | refine Or.inr ?_ | refine sat_drawH (Tryz.ok ..) (by kernel_rfl) ?_ | refine xi _ (And.intro rfl rfl) ?_ | refine xi _ (fun _ => And.intro rfl rfl) ?_ | refine xi _ rfl ?_)
  refine sat_loop (Tryz.ok ..) (α := Nat × Option (Nat × Nat) × Nat) (fun s => ([(1, .yes, .o 301 B b.length cB), (6, .yes, .p 6 g6 0 0), (19, .yes, .o 300 A a.length cA), (20, .yes, .v (.int .i64 a.length)), (21, .yes, .v (.int .i64 s.1))],
      [(6, .blk g6 86 [.o 60 s.2.1 (bothTo a b s.1).length s.2.2]), (60, .row s.2.1 25 2 (bothTo a b s.1).length s.2.2 (sps (bothTo a b s.1))), (300, .ro A a.length 2 (sps a)), (301, .ro B b.length 2 (sps b))])) (fun s => s.1 ≤ a.length) (fun s => a.length - s.1) (fun _ => rfl) ?_ ?_
  · refine ⟨(0, none, 0), Nat.zero_le _, ?_, ?_, rfl⟩
    all_goals ((repeat' (first | exact trivial | exact rfl | refine And.intro ?_ ?_)) <;> (try (conv => whnf)) <;> (try simp only [SV.real, SV.r2, SV.r1]))
  rintro ⟨n, A1, cap1⟩ hn
  dsimp only at hn
  by_cases hn1 : n < a.length
  · obtain ⟨s, hs⟩ : ∃ s, a[n]? = some s := ⟨a[n], List.getElem?_eq_getElem hn1⟩
    obtain ⟨i, hi⟩ : ∃ i, i = bhN b s.f := ⟨_, rfl⟩
    have hbh := bhN_is okb s.f
    rw [← hi] at hbh
    have hile := hbh.le
    have hskip := rowTo_skip hbh i (Nat.le_refl _)
    repeat' ((conv => whnf); first | refine walk (Tryz.ok ..) ?_ | (refine Cnd.mk (fun h => ?_) (fun h => ?_) <;> (first | exact cndT h (by (try dsimp only); omega) | exact cndF h (by (try dsimp only); omega) | (exfalso; simp at h; omega) | simp at h | skip)) | refine kp ?_ ?_ | refine tw ?_ ?_ | exact trivial | refine side ?_ | refine sideL ?_ | refine Or.inr ?_ | refine sat_drawH (Tryz.ok ..) (by kernel_rfl) ?_ | refine xi _ (And.intro rfl rfl) ?_ | refine xi _ (fun _ => And.intro rfl rfl) ?_ | refine xi _ rfl ?_ | refine xi _ (fun _ => (at_s hs rfl)) ?_ | refine xi _ (at_s hs rfl) ?_)
    intro g hg
    repeat' ((conv => whnf); first | refine walk (Tryz.ok ..) ?_ | (refine Cnd.mk (fun h => ?_) (fun h => ?_) <;> (first | exact cndT h (by (try dsimp only); omega) | exact cndF h (by (try dsimp only); omega) | (exfalso; simp at h; omega) | simp at h | skip)) | refine kp ?_ ?_ | refine tw ?_ ?_ | exact trivial | refine side ?_ | refine sideL ?_ | refine Or.inr ?_ | refine sat_drawH (Tryz.ok ..) (by kernel_rfl) ?_ | refine xi _ (And.intro rfl rfl) ?_ | refine xi _ (fun _ => And.intro rfl rfl) ?_ | refine xi _ rfl ?_)
    refine called_at (.v (.int .i64 i)) rfl (fun w' hh => by rw [hi]; exact behind_any b B cB s.f w' (ro_of_ro hh (id := 301) rfl) hc okb) ?_
    rcases Nat.eq_zero_or_pos b.length with hb0 | hb0
    · obtain rfl : b = [] := List.eq_nil_of_length_eq_zero hb0
      have hi0 : i = 0 := by simpa using hile
      subst hi0
      repeat' ((conv => whnf); first | refine walk (Tryz.ok ..) ?_ | (refine Cnd.mk (fun h => ?_) (fun h => ?_) <;> (first | exact cndT h (by (try dsimp only); omega) | exact cndF h (by (try dsimp only); omega) | (exfalso; simp at h; omega) | simp at h | skip)) | refine kp ?_ ?_ | refine tw ?_ ?_ | exact trivial | refine side ?_ | refine sideL ?_ | refine Or.inr ?_ | refine sat_drawH (Tryz.ok ..) (by kernel_rfl) ?_ | refine xi _ (And.intro rfl rfl) ?_ | refine xi _ (fun _ => And.intro rfl rfl) ?_ | refine xi _ rfl ?_)
      refine sat_loop (Tryz.ok ..) (α := Unit) (fun _ => ([(1, .yes, .o 301 B 0 cB), (6, .yes, .p 6 g6 0 0), (19, .yes, .o 300 A a.length cA), (20, .yes, .v (.int .i64 a.length)), (21, .yes, .v (.int .i64 n)), (31, .yes, .v (.int .i64 0)), (32, .yes, .v (.int .i64 0))],
          [(6, .blk g6 86 [.o 60 A1 (bothTo a [] n).length cap1]), (60, .row A1 25 2 (bothTo a [] n).length cap1 (sps (bothTo a [] n))), (300, .ro A a.length 2 (sps a)), (301, .ro B 0 2 (sps []))])) (fun _ => True) (fun _ => 0) (fun _ => rfl) ?_ ?_
      · refine ⟨(), trivial, ?_, ?_, rfl⟩
        · dsimp only
          ((repeat' (first | exact trivial | exact rfl | refine And.intro ?_ ?_)) <;> (try (conv => whnf)) <;> (try simp only [SV.real, SV.r2, SV.r1]))
        · ((repeat' (first | exact trivial | exact rfl | refine And.intro ?_ ?_)) <;> (try (conv => whnf)) <;> (try simp only [SV.real, SV.r2, SV.r1]))
      intro _ _
      repeat' ((conv => whnf); first | refine walk (Tryz.ok ..) ?_ | (refine Cnd.mk (fun h => ?_) (fun h => ?_) <;> (first | exact cndT h (by (try dsimp only); omega) | exact cndF h (by (try dsimp only); omega) | (exfalso; simp at h; omega) | simp at h | skip)) | refine kp ?_ ?_ | refine tw ?_ ?_ | exact trivial | refine side ?_ | refine sideL ?_ | refine Or.inr ?_ | refine sat_drawH (Tryz.ok ..) (by kernel_rfl) ?_ | refine xi _ (And.intro rfl rfl) ?_ | refine xi _ (fun _ => And.intro rfl rfl) ?_ | refine xi _ rfl ?_)
      have hnx : bothTo a [] (n + 1) = bothTo a [] n := by rw [bothTo_at hs, show rowTo s [] ([] : List Sp).length = [] from rfl, List.append_nil]
      refine ⟨(n + 1, A1, cap1), ⟨by show n + 1 ≤ a.length; omega, by show a.length - (n + 1) < a.length - n; omega⟩, ?_, ?_, rfl⟩
      · ((repeat' (first | exact trivial | exact rfl | refine And.intro ?_ ?_)) <;> (try (conv => whnf)) <;> (try simp only [SV.real, SV.r2, SV.r1]))
      · dsimp only
        rw [hnx]
        ((repeat' (first | exact trivial | exact rfl | refine And.intro ?_ ?_)) <;> (try (conv => whnf)) <;> (try simp only [SV.real, SV.r2, SV.r1]))
    · obtain ⟨pB, rfl, _, _⟩ := hB.2 hb0
      by_cases hib : i < b.length
      · refine Or.inl (And.intro ⟨by omega, by omega, by omega, by omega, rfl⟩ ?_)
        repeat' ((conv => whnf); first | refine walk (Tryz.ok ..) ?_ | (refine Cnd.mk (fun h => ?_) (fun h => ?_) <;> (first | exact cndT h (by (try dsimp only); omega) | exact cndF h (by (try dsimp only); omega) | (exfalso; simp at h; omega) | simp at h | skip)) | refine kp ?_ ?_ | refine tw ?_ ?_ | exact trivial | refine side ?_ | refine sideL ?_ | refine Or.inr ?_ | refine sat_drawH (Tryz.ok ..) (by kernel_rfl) ?_ | refine xi _ (And.intro rfl rfl) ?_ | refine xi _ (fun _ => And.intro rfl rfl) ?_ | refine xi _ rfl ?_)
        obtain ⟨m, hm⟩ : ∃ m, m = ((b.length : Int) - (i : Int)).toNat := ⟨_, rfl⟩
        obtain ⟨off, hoff⟩ : ∃ off, off = mulS ((i : Int)).toNat 2 := ⟨_, rfl⟩
        have hmn : i + m = b.length := by omega
        have ho : off = i * 2 := by rw [hoff, mulS_eq, Int.toNat_natCast]
        refine sat_loop (Tryz.ok ..) (α := Nat × Option (Nat × Nat) × Nat) (fun x => ([(1, .yes, .o 301 (some pB) b.length cB), (6, .yes, .p 6 g6 0 0), (8, .yes, .p 8 g 0 0), (19, .yes, .o 300 A a.length cA), (20, .yes, .v (.int .i64 a.length)), (21, .yes, .v (.int .i64 n)), (30, .yes, .s 301 pB.1 pB.2 off m (cB - ((i : Int)).toNat)), (31, .yes, .v (.int .i64 m)), (32, .yes, .v (.int .i64 x.1))],
            [(6, .blk g6 86 [.o 60 x.2.1 (bothTo a b n ++ rowTo s b (i + x.1)).length x.2.2]), (60, .row x.2.1 25 2 (bothTo a b n ++ rowTo s b (i + x.1)).length x.2.2 (sps (bothTo a b n ++ rowTo s b (i + x.1)))), (8, .blk g 25 [.v (.int .i64 s.f), .v (.int .i64 s.t)]), (300, .ro A a.length 2 (sps a)), (301, .ro (some pB) b.length 2 (sps b))])) (fun x => x.1 ≤ m) (fun x => m - x.1) (fun _ => rfl) ?_ ?_
        · refine ⟨(0, A1, cap1), Nat.zero_le _, ?_, ?_, rfl⟩
          · subst hm hoff
            ((repeat' (first | exact trivial | exact rfl | refine And.intro ?_ ?_)) <;> (try (conv => whnf)) <;> (try simp only [SV.real, SV.r2, SV.r1]))
          · dsimp only
            rw [Nat.add_zero, hskip, List.append_nil]
            ((repeat' (first | exact trivial | exact rfl | refine And.intro ?_ ?_)) <;> (try (conv => whnf)) <;> (try simp only [SV.real, SV.r2, SV.r1]))
        rintro ⟨x, A2, cap2⟩ hx
        dsimp only at hx
        by_cases hx1 : x < m
        · obtain ⟨r, hr⟩ : ∃ r, b[i + x]? = some r := ⟨b[i + x]'(by omega), List.getElem?_eq_getElem _⟩
          have hl2 := bothTo_len a b n
          have hl3 := rowTo_len s b (i + x)
          have hl4 : n * b.length ≤ 1000 * 1000 := Nat.mul_le_mul (by omega) (by omega)
          have hadd := both_add oka okb hs hr
          repeat' ((conv => whnf); first | refine walk (Tryz.ok ..) ?_ | (refine Cnd.mk (fun h => ?_) (fun h => ?_) <;> (first | exact cndT h (by (try dsimp only); omega) | exact cndF h (by (try dsimp only); omega) | (exfalso; simp at h; omega) | simp at h | skip)) | refine kp ?_ ?_ | refine tw ?_ ?_ | exact trivial | refine side ?_ | refine sideL ?_ | refine Or.inr ?_ | refine sat_drawH (Tryz.ok ..) (by kernel_rfl) ?_ | refine xi _ (And.intro rfl rfl) ?_ | refine xi _ (fun _ => And.intro rfl rfl) ?_ | refine xi _ rfl ?_ | refine xi _ (fun _ => (at_d hr ho)) ?_ | refine xi _ (at_d hr ho) ?_)
          intro g10 hg10
          repeat' ((conv => whnf); first | refine walk (Tryz.ok ..) ?_ | (refine Cnd.mk (fun h => ?_) (fun h => ?_) <;> (first | exact cndT h (by (try dsimp only); omega) | exact cndF h (by (try dsimp only); omega) | (exfalso; simp at h; omega) | simp at h | skip)) | refine kp ?_ ?_ | refine tw ?_ ?_ | exact trivial | refine side ?_ | refine sideL ?_ | refine Or.inr ?_ | refine sat_drawH (Tryz.ok ..) (by kernel_rfl) ?_ | refine xi _ (And.intro rfl rfl) ?_ | refine xi _ (fun _ => And.intro rfl rfl) ?_ | refine xi _ rfl ?_)
          · have hrest := rowTo_rest okb hr h (b.length - (i + x))
            rw [show i + x + (b.length - (i + x)) = b.length by omega] at hrest
            refine ⟨(n + 1, A2, cap2), ⟨by show n + 1 ≤ a.length; omega, by show a.length - (n + 1) < a.length - n; omega⟩, ?_, ?_, rfl⟩
            · ((repeat' (first | exact trivial | exact rfl | refine And.intro ?_ ?_)) <;> (try (conv => whnf)) <;> (try simp only [SV.real, SV.r2, SV.r1]))
            · dsimp only
              rw [bothTo_at hs, hrest]
              ((repeat' (first | exact trivial | exact rfl | refine And.intro ?_ ?_)) <;> (try (conv => whnf)) <;> (try simp only [SV.real, SV.r2, SV.r1]))
          · refine add_at (l := bothTo a b n ++ rowTo s b (i + x)) (A := A2) (cap := cap2) (g := g6) rfl 6 60 [(10, .blk g10 25 [.v (.int .i64 r.f), .v (.int .i64 r.t)]), (8, .blk g 25 [.v (.int .i64 s.f), .v (.int .i64 s.t)]), (300, .ro A a.length 2 (sps a)), (301, .ro (some pB) b.length 2 (sps b))] rfl rfl ?_ (in_of okb hr) (by rw [List.length_append]; omega) ?_
            · ((repeat' (first | exact trivial | exact rfl | refine And.intro ?_ ?_)) <;> (try (conv => whnf)) <;> (try simp only [SV.real, SV.r2, SV.r1]))
            intro A3 cap3
            rw [hadd]
            repeat' ((conv => whnf); first | refine walk (Tryz.ok ..) ?_ | (refine Cnd.mk (fun h => ?_) (fun h => ?_) <;> (first | exact cndT h (by (try dsimp only); omega) | exact cndF h (by (try dsimp only); omega) | (exfalso; simp at h; omega) | simp at h | skip)) | refine kp ?_ ?_ | refine tw ?_ ?_ | exact trivial | refine side ?_ | refine sideL ?_ | refine Or.inr ?_ | refine sat_drawH (Tryz.ok ..) (by kernel_rfl) ?_ | refine xi _ (And.intro rfl rfl) ?_ | refine xi _ (fun _ => And.intro rfl rfl) ?_ | refine xi _ rfl ?_)
            refine ⟨(x + 1, A3, cap3), ⟨by show x + 1 ≤ m; omega, by show m - (x + 1) < m - x; omega⟩, ?_, ?_, rfl⟩
            all_goals ((repeat' (first | exact trivial | exact rfl | refine And.intro ?_ ?_)) <;> (try (conv => whnf)) <;> (try simp only [SV.real, SV.r2, SV.r1]))
        · obtain rfl : x = m := by omega
          repeat' ((conv => whnf); first | refine walk (Tryz.ok ..) ?_ | (refine Cnd.mk (fun h => ?_) (fun h => ?_) <;> (first | exact cndT h (by (try dsimp only); omega) | exact cndF h (by (try dsimp only); omega) | (exfalso; simp at h; omega) | simp at h | skip)) | refine kp ?_ ?_ | refine tw ?_ ?_ | exact trivial | refine side ?_ | refine sideL ?_ | refine Or.inr ?_ | refine sat_drawH (Tryz.ok ..) (by kernel_rfl) ?_ | refine xi _ (And.intro rfl rfl) ?_ | refine xi _ (fun _ => And.intro rfl rfl) ?_ | refine xi _ rfl ?_)
          refine ⟨(n + 1, A2, cap2), ⟨by show n + 1 ≤ a.length; omega, by show a.length - (n + 1) < a.length - n; omega⟩, ?_, ?_, rfl⟩
          · ((repeat' (first | exact trivial | exact rfl | refine And.intro ?_ ?_)) <;> (try (conv => whnf)) <;> (try simp only [SV.real, SV.r2, SV.r1]))
          · dsimp only
            rw [bothTo_at hs, ← hmn]
            ((repeat' (first | exact trivial | exact rfl | refine And.intro ?_ ?_)) <;> (try (conv => whnf)) <;> (try simp only [SV.real, SV.r2, SV.r1]))
      · refine Or.inr (Or.inr (And.intro ⟨by omega, by omega, by omega, rfl⟩ ?_))
        repeat' ((conv => whnf); first | refine walk (Tryz.ok ..) ?_ | (refine Cnd.mk (fun h => ?_) (fun h => ?_) <;> (first | exact cndT h (by (try dsimp only); omega) | exact cndF h (by (try dsimp only); omega) | (exfalso; simp at h; omega) | simp at h | skip)) | refine kp ?_ ?_ | refine tw ?_ ?_ | exact trivial | refine side ?_ | refine sideL ?_ | refine Or.inr ?_ | refine sat_drawH (Tryz.ok ..) (by kernel_rfl) ?_ | refine xi _ (And.intro rfl rfl) ?_ | refine xi _ (fun _ => And.intro rfl rfl) ?_ | refine xi _ rfl ?_)
        refine sat_loop (Tryz.ok ..) (α := Unit) (fun _ => ([(1, .yes, .o 301 (some pB) b.length cB), (6, .yes, .p 6 g6 0 0), (19, .yes, .o 300 A a.length cA), (20, .yes, .v (.int .i64 a.length)), (21, .yes, .v (.int .i64 n)), (31, .yes, .v (.int .i64 0)), (32, .yes, .v (.int .i64 0))],
            [(6, .blk g6 86 [.o 60 A1 (bothTo a b n).length cap1]), (60, .row A1 25 2 (bothTo a b n).length cap1 (sps (bothTo a b n))), (300, .ro A a.length 2 (sps a)), (301, .ro (some pB) b.length 2 (sps b))])) (fun _ => True) (fun _ => 0) (fun _ => rfl) ?_ ?_
        · refine ⟨(), trivial, ?_, ?_, rfl⟩
          · rw [show ((b.length : Int) - (i : Int)).toNat = 0 by omega]
            ((repeat' (first | exact trivial | exact rfl | refine And.intro ?_ ?_)) <;> (try (conv => whnf)) <;> (try simp only [SV.real, SV.r2, SV.r1]))
          · ((repeat' (first | exact trivial | exact rfl | refine And.intro ?_ ?_)) <;> (try (conv => whnf)) <;> (try simp only [SV.real, SV.r2, SV.r1]))
        intro _ _
        repeat' ((conv => whnf); first | refine walk (Tryz.ok ..) ?_ | (refine Cnd.mk (fun h => ?_) (fun h => ?_) <;> (first | exact cndT h (by (try dsimp only); omega) | exact cndF h (by (try dsimp only); omega) | (exfalso; simp at h; omega) | simp at h | skip)) | refine kp ?_ ?_ | refine tw ?_ ?_ | exact trivial | refine side ?_ | refine sideL ?_ | refine Or.inr ?_ | refine sat_drawH (Tryz.ok ..) (by kernel_rfl) ?_ | refine xi _ (And.intro rfl rfl) ?_ | refine xi _ (fun _ => And.intro rfl rfl) ?_ | refine xi _ rfl ?_)
        have hnx : bothTo a b (n + 1) = bothTo a b n := by rw [bothTo_at hs, show b.length = i by omega, hskip, List.append_nil]
        refine ⟨(n + 1, A1, cap1), ⟨by show n + 1 ≤ a.length; omega, by show a.length - (n + 1) < a.length - n; omega⟩, ?_, ?_, rfl⟩
        · ((repeat' (first | exact trivial | exact rfl | refine And.intro ?_ ?_)) <;> (try (conv => whnf)) <;> (try simp only [SV.real, SV.r2, SV.r1]))
        · dsimp only
          rw [hnx]
          ((repeat' (first | exact trivial | exact rfl | refine And.intro ?_ ?_)) <;> (try (conv => whnf)) <;> (try simp only [SV.real, SV.r2, SV.r1]))
  · obtain rfl : n = a.length := by omega
    repeat' ((conv => whnf); first | refine walk (Tryz.ok ..) ?_ | (refine Cnd.mk (fun h => ?_) (fun h => ?_) <;> (first | exact cndT h (by (try dsimp only); omega) | exact cndF h (by (try dsimp only); omega) | (exfalso; simp at h; omega) | simp at h | skip)) | refine kp ?_ ?_ | refine tw ?_ ?_ | exact trivial | refine side ?_ | refine sideL ?_ | refine Or.inr ?_ | refine sat_drawH (Tryz.ok ..) (by kernel_rfl) ?_ | refine xi _ (And.intro rfl rfl) ?_ | refine xi _ (fun _ => And.intro rfl rfl) ?_ | refine xi _ rfl ?_)
    by_cases hlen : (bothL a b).length ≤ 1000
    · refine called_pure (.t [.o 60 A1 (bothL a b).length cap1, .v (.int .i64 0)]) rfl (fun w' => told_few A1 _ cap1 hlen w') ?_
      repeat' ((conv => whnf); first | refine walk (Tryz.ok ..) ?_ | (refine Cnd.mk (fun h => ?_) (fun h => ?_) <;> (first | exact cndT h (by (try dsimp only); omega) | exact cndF h (by (try dsimp only); omega) | (exfalso; simp at h; omega) | simp at h | skip)) | refine kp ?_ ?_ | refine tw ?_ ?_ | exact trivial | refine side ?_ | refine sideL ?_ | refine Or.inr ?_ | refine sat_drawH (Tryz.ok ..) (by kernel_rfl) ?_ | refine xi _ (And.intro rfl rfl) ?_ | refine xi _ (fun _ => And.intro rfl rfl) ?_ | refine xi _ rfl ?_)
      obtain ⟨h1, h2⟩ := bo_yes hyes hlen
      rw [h1, h2]
      exact done_row (mk := fun v => .tuple #[v, .int .i64 0]) rfl rfl 60 A1 cap1 rfl rfl
    · refine called_pure (.t [.v (.slice none 0 0), .v (.int .i64 5)]) rfl (fun w' => told_many A1 (bothL a b).length cap1 (by omega) w') ?_
      repeat' ((conv => whnf); first | refine walk (Tryz.ok ..) ?_ | (refine Cnd.mk (fun h => ?_) (fun h => ?_) <;> (first | exact cndT h (by (try dsimp only); omega) | exact cndF h (by (try dsimp only); omega) | (exfalso; simp at h; omega) | simp at h | skip)) | refine kp ?_ ?_ | refine tw ?_ ?_ | exact trivial | refine side ?_ | refine sideL ?_ | refine Or.inr ?_ | refine sat_drawH (Tryz.ok ..) (by kernel_rfl) ?_ | refine xi _ (And.intro rfl rfl) ?_ | refine xi _ (fun _ => And.intro rfl rfl) ?_ | refine xi _ rfl ?_)
      obtain ⟨h1, h2⟩ := bo_many hyes hlen
      rw [h1, h2]
      exact done_nil (mk := fun v => .tuple #[v, .int .i64 5]) rfl rfl rfl
end Go.Proofs.YtmhfkmnpeponiaaGreatDoor
