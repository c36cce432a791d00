/-
  The walk of the law's made.
-/
import Derived.Test.YtdejcgmaphmjbaaBK
import Derived.Test.YtdejcgmaphmjbaaW2
import Derived.Test.YtdejcgmaphmjbaaV4
set_option linter.unusedSimpArgs false
set_option linter.unusedVariables false
namespace Go.Proofs.Ytdejcgmaphmjbaa
open Go Sat Go.RowKit Go.PlainAid
theorem made_step {l : List UInt8} {n : Nat} {b : UInt8} (h : l[n]? = some b) : uB ((l.take (n + 1)).map madeB) = uB ((l.take n).map madeB) ++ [.int .u8 (32 + (b.toNat : Int) % 95)] := by
  rw [List.take_add_one, h, List.map_append]
  unfold uB
  rw [List.map_append]
  congr 1
  show [Value.int .u8 ((madeB b).toNat : Int)] = _
  rw [madeB_nat]
  rfl
theorem strs_step {e : Elem} {k : Nat} {c : ByteArray} (h : e[k]? = some c) : (((e.take (k + 1)).map madeC).map Value.string) = (((e.take k).map madeC).map Value.string) ++ [.string (madeC c)] := by
  rw [List.take_add_one, h, List.map_append, List.map_append]
  rfl
theorem map_take_step {α β : Type} (f : α → β) {l : List α} {k n : Nat} {x : α} (h : l[k]? = some x) (hk : k < n) : ((l.take n).map f)[k]? = some (f x) := by
  rw [List.getElem?_map, List.getElem?_take, if_pos hk, h]
  rfl
set_option maxRecDepth 100000 in
set_option maxHeartbeats 32000000 in
theorem made_any (l : List Segm) (va : Value) (w : World) (hA : NLA w (fun _ => True) va l) (hf : FewL l) :
    Calls Try.prog 18 #[va] w (GivesR 31 id NS (l.map madeS) w) := by
  obtain ⟨A', A, cA, xs, rfl, aA, hcA, hrA, -, hxA⟩ := hA
  refine calls_sat (cx := Try.cx 95 [8, 21, 24, 25] [] [] w) (Try.ok ..) Try.func18 rfl [.v (.slice A' l.length cA)] rfl (by show 1 ≤ 95; omega) [] (holds_nil (Nat.le_refl _)) ?_
  have htop := hf.top
  have hmax : l.length ≤ 9223372036854775807 := Nat.le_trans (Nat.le_trans hcA.1 hcA.2) (by decide)
  repeat' ((conv => whnf); first | refine walk (Try.ok ..) ?_ | (refine Cnd.mk (fun h => ?_) (fun h => ?_) <;> (first | exact cndT h (by (try dsimp only); omega) | exact cndF h (by (try dsimp only); omega) | (exfalso; simp at h; omega) | simp at h | skip)) | refine kp ?_ ?_ | refine tw ?_ ?_ | refine appnil rfl ?_ | refine rawnil rfl ?_ | exact trivial | refine side2 ?_ | refine sideL2 ?_ | refine Or.inr ?_ | refine sat_drawH (Try.ok ..) (by kernel_rfl) ?_ | refine xi _ (And.intro rfl rfl) ?_ | refine xi _ (fun _ => And.intro rfl rfl) ?_ | refine xi _ rfl ?_)
  refine sat_fuse 77 [] rfl fun w0 hw0 => ?_
  refine sat_loop (Try.ok ..) (α := Nat × Option (Nat × Nat) × Nat × List Value × World × List Nat) (fun t => ([(3, .yes, .o 92 t.2.1 t.1 t.2.2.1), (12, .yes, .v (.slice A' l.length cA)), (13, .yes, .v (.int .i64 l.length)), (14, .yes, .v (.int .i64 t.1))], [(92, .row t.2.1 31 1 t.1 t.2.2.1 t.2.2.2.1), (77, .own t.2.2.2.2.2 (Frz t.2.2.2.2.1 t.2.2.2.2.2))]))
    (fun t => t.1 ≤ l.length ∧ t.2.2.2.1.length = t.1 ∧ Got NS t.2.2.2.2.1 t.2.2.2.2.2 t.2.2.2.1 (l.map madeS)) (fun t => l.length - t.1) (fun _ => rfl) ?_ ?_
  · refine ⟨(0, none, 0, [], w0, []), ⟨Nat.zero_le _, rfl, Got.nil⟩, ?_, ?_, rfl⟩
    all_goals ((repeat' (first | exact trivial | exact rfl | refine And.intro ?_ ?_)) <;> (try (conv => whnf)) <;> (try simp only [SV.real, SV.r2, SV.r1]))
  rintro ⟨k0, A3, c3, xs3, w1, gs⟩ ⟨hk0, hl3, hx3⟩
  dsimp only at hk0 hl3 hx3 ⊢
  by_cases hk01 : k0 < l.length
  case neg =>
    obtain rfl : k0 = l.length := by omega
    repeat' ((conv => whnf); first | refine walk (Try.ok ..) ?_ | (refine Cnd.mk (fun h => ?_) (fun h => ?_) <;> (first | exact cndT h (by (try dsimp only); omega) | exact cndF h (by (try dsimp only); omega) | (exfalso; simp at h; omega) | simp at h | skip)) | refine kp ?_ ?_ | refine tw ?_ ?_ | refine appnil rfl ?_ | refine rawnil rfl ?_ | exact trivial | refine side2 ?_ | refine sideL2 ?_ | refine Or.inr ?_ | refine sat_drawH (Try.ok ..) (by kernel_rfl) ?_ | refine xi _ (And.intro rfl rfl) ?_ | refine xi _ (fun _ => And.intro rfl rfl) ?_ | refine xi _ rfl ?_)
    exact done_nestR (mk := id) ns_stays rfl rfl 92 77 (by decide) (A := A3) (cap := c3) (xs := xs3) (gs := gs) (w0 := w1) rfl rfl (by rw [List.length_map]) hx3 rfl
  obtain ⟨s, hs⟩ : ∃ s, l[k0]? = some s := ⟨_, List.getElem?_eq_getElem hk01⟩
  obtain ⟨x, hx, A1', A1, cA1, xs1, rfl, aA1, hcA1, hrA1, -, hxA1⟩ := nest_at hxA hrA.1 hs
  obtain ⟨p, rfl, rfl⟩ := some_of aA hrA (by omega)
  have hmax1 : s.length ≤ 9223372036854775807 := Nat.le_trans (Nat.le_trans hcA1.1 hcA1.2) (by decide)
  have hms : (l.map madeS)[k0]? = some (madeS s) := by rw [List.getElem?_map, hs]; rfl
  repeat' ((conv => whnf); first | refine walk (Try.ok ..) ?_ | (refine Cnd.mk (fun h => ?_) (fun h => ?_) <;> (first | exact cndT h (by (try dsimp only); omega) | exact cndF h (by (try dsimp only); omega) | (exfalso; simp at h; omega) | simp at h | skip)) | refine kp ?_ ?_ | refine tw ?_ ?_ | refine appnil rfl ?_ | refine rawnil rfl ?_ | exact trivial | refine side2 ?_ | refine sideL2 ?_ | refine Or.inr ?_ | refine sat_drawH (Try.ok ..) (by kernel_rfl) ?_ | refine xi _ (And.intro rfl rfl) ?_ | refine xi _ (fun _ => And.intro rfl rfl) ?_ | refine xi _ rfl ?_ | refine xi _ (fun _ => (ro_at rfl rfl hrA hx rfl)) ?_ | refine xi _ (ro_at rfl rfl hrA hx rfl) ?_)
  refine sat_loop (Try.ok ..) (α := Nat × Option (Nat × Nat) × Nat × List Value × World × List Nat) (fun u => ([(3, .yes, .o 92 A3 k0 c3), (5, .yes, .v (.slice A1' s.length cA1)), (6, .yes, .o 83 u.2.1 u.1 u.2.2.1), (7, .yes, .v (.int .i64 u.1)), (12, .yes, .v (.slice (adr (some p)) l.length cA)), (13, .yes, .v (.int .i64 l.length)), (14, .yes, .v (.int .i64 k0))], [(83, .row u.2.1 43 1 u.1 u.2.2.1 u.2.2.2.1), (92, .row A3 31 1 k0 c3 xs3), (77, .own u.2.2.2.2.2 (Frz u.2.2.2.2.1 u.2.2.2.2.2))]))
    (fun u => (u.1 ≤ s.length ∧ u.1 ≤ 30) ∧ u.2.2.2.1.length = u.1 ∧ Got NE u.2.2.2.2.1 u.2.2.2.2.2 u.2.2.2.1 ((s.take 30).map madeE) ∧ Got NS u.2.2.2.2.1 u.2.2.2.2.2 xs3 (l.map madeS)) (fun u => s.length - u.1) (fun _ => rfl) ?_ ?_
  · refine ⟨(0, none, 0, [], w1, gs), ⟨⟨Nat.zero_le _, Nat.zero_le _⟩, rfl, Got.nil, hx3⟩, ?_, ?_, rfl⟩
    all_goals ((repeat' (first | exact trivial | exact rfl | refine And.intro ?_ ?_)) <;> (try (conv => whnf)) <;> (try simp only [SV.real, SV.r2, SV.r1]))
  clear hx3
  rintro ⟨i, A6, c6, xs6, w2, gs2⟩ ⟨⟨hi, hi30⟩, hl6, hx6, hx3⟩
  dsimp only at hi hi30 hl6 hx6 hx3 ⊢
  by_cases hi1 : i < s.length ∧ i < 30
  case neg =>
    have htk : s.take i = s.take 30 := by
      rcases Nat.lt_or_ge i 30 with h9 | h9
      · rw [List.take_of_length_le (by omega), List.take_of_length_le (by omega)]
      · rw [show i = 30 by omega]
    by_cases hs0 : s.length = 0
    · have hmade : madeS s = [[⟨#[]⟩]] := by unfold madeS; rw [if_pos hs0]
      rw [hmade] at hms
      repeat' ((conv => whnf); first | refine walk (Try.ok ..) ?_ | (refine Cnd.mk (fun h => ?_) (fun h => ?_) <;> (first | exact cndT h (by (try dsimp only); omega) | exact cndF h (by (try dsimp only); omega) | (exfalso; simp at h; omega) | simp at h | skip)) | refine kp ?_ ?_ | refine tw ?_ ?_ | refine appnil rfl ?_ | refine rawnil rfl ?_ | exact trivial | refine side2 ?_ | refine sideL2 ?_ | refine Or.inr ?_ | refine sat_drawH (Try.ok ..) (by kernel_rfl) ?_ | refine xi _ (And.intro rfl rfl) ?_ | refine xi _ (fun _ => And.intro rfl rfl) ?_ | refine xi _ rfl ?_)
      (conv => whnf)
      intro g87 hg87
      repeat' ((conv => whnf); first | refine walk (Try.ok ..) ?_ | (refine Cnd.mk (fun h => ?_) (fun h => ?_) <;> (first | exact cndT h (by (try dsimp only); omega) | exact cndF h (by (try dsimp only); omega) | (exfalso; simp at h; omega) | simp at h | skip)) | refine kp ?_ ?_ | refine tw ?_ ?_ | refine appnil rfl ?_ | refine rawnil rfl ?_ | exact trivial | refine side2 ?_ | refine sideL2 ?_ | refine Or.inr ?_ | refine sat_drawH (Try.ok ..) (by kernel_rfl) ?_ | refine xi _ (And.intro rfl rfl) ?_ | refine xi _ (fun _ => And.intro rfl rfl) ?_ | refine xi _ rfl ?_)
      (conv => whnf)
      intro g88 hg88
      repeat' ((conv => whnf); first | refine walk (Try.ok ..) ?_ | (refine Cnd.mk (fun h => ?_) (fun h => ?_) <;> (first | exact cndT h (by (try dsimp only); omega) | exact cndF h (by (try dsimp only); omega) | (exfalso; simp at h; omega) | simp at h | skip)) | refine kp ?_ ?_ | refine tw ?_ ?_ | refine appnil rfl ?_ | refine rawnil rfl ?_ | exact trivial | refine side2 ?_ | refine sideL2 ?_ | refine Or.inr ?_ | refine sat_drawH (Try.ok ..) (by kernel_rfl) ?_ | refine xi _ (And.intro rfl rfl) ?_ | refine xi _ (fun _ => And.intro rfl rfl) ?_ | refine xi _ rfl ?_)
      refine sat_own 87 (n := 1) (size := 1) rfl rfl rfl (by decide) ?_
      refine sat_own 88 (n := 1) (size := 1) rfl rfl rfl (by decide) ?_
      refine sat_ops (Try.ok ..) ?_
      repeat' ((conv => whnf); first | refine walk (Try.ok ..) ?_ | (refine Cnd.mk (fun h => ?_) (fun h => ?_) <;> (first | exact cndT h (by (try dsimp only); omega) | exact cndF h (by (try dsimp only); omega) | (exfalso; simp at h; omega) | simp at h | skip)) | refine kp ?_ ?_ | refine tw ?_ ?_ | refine appnil rfl ?_ | refine rawnil rfl ?_ | exact trivial | refine side2 ?_ | refine sideL2 ?_ | refine Or.inr ?_ | refine sat_drawH (Try.ok ..) (by kernel_rfl) ?_ | refine xi _ (And.intro rfl rfl) ?_ | refine xi _ (fun _ => And.intro rfl rfl) ?_ | refine xi _ rfl ?_)
      (conv => whnf)
      intro g91 hg91
      repeat' ((conv => whnf); first | refine walk (Try.ok ..) ?_ | (refine Cnd.mk (fun h => ?_) (fun h => ?_) <;> (first | exact cndT h (by (try dsimp only); omega) | exact cndF h (by (try dsimp only); omega) | (exfalso; simp at h; omega) | simp at h | skip)) | refine kp ?_ ?_ | refine tw ?_ ?_ | refine appnil rfl ?_ | refine rawnil rfl ?_ | exact trivial | refine side2 ?_ | refine sideL2 ?_ | refine Or.inr ?_ | refine sat_drawH (Try.ok ..) (by kernel_rfl) ?_ | refine xi _ (And.intro rfl rfl) ?_ | refine xi _ (fun _ => And.intro rfl rfl) ?_ | refine xi _ rfl ?_)
      (conv => whnf)
      intro A92 c92
      repeat' ((conv => whnf); first | refine walk (Try.ok ..) ?_ | (refine Cnd.mk (fun h => ?_) (fun h => ?_) <;> (first | exact cndT h (by (try dsimp only); omega) | exact cndF h (by (try dsimp only); omega) | (exfalso; simp at h; omega) | simp at h | skip)) | refine kp ?_ ?_ | refine tw ?_ ?_ | refine appnil rfl ?_ | refine rawnil rfl ?_ | exact trivial | refine side2 ?_ | refine sideL2 ?_ | refine Or.inr ?_ | refine sat_drawH (Try.ok ..) (by kernel_rfl) ?_ | refine xi _ (And.intro rfl rfl) ?_ | refine xi _ (fun _ => And.intro rfl rfl) ?_ | refine xi _ rfl ?_)
      refine sat_fuse 77 [77, 87, 88] rfl fun w4 hw4 => ?_
      have hn1 := nest_fuseN (l := [(⟨#[]⟩ : ByteArray)]) [77, 87, 88] 87 rfl hw4 rfl rfl (got_strs (w := w4) [⟨#[]⟩] : Got Text w4 _ [Value.string ⟨#[]⟩] [⟨#[]⟩])
      have hn2 := nest_fuseN (l := [[(⟨#[]⟩ : ByteArray)]]) [77, 87, 88] 88 rfl hw4 rfl rfl (Got.nil.snoc (l := [[(⟨#[]⟩ : ByteArray)]]) rfl hn1)
      have hx3' := (hx3.fuse ns_stays [77, 87, 88] 77 hw4 rfl rfl).snoc (by rw [hl3]; exact hms) hn2
      refine sat_ops (Try.ok ..) ?_
      repeat' ((conv => whnf); first | refine walk (Try.ok ..) ?_ | (refine Cnd.mk (fun h => ?_) (fun h => ?_) <;> (first | exact cndT h (by (try dsimp only); omega) | exact cndF h (by (try dsimp only); omega) | (exfalso; simp at h; omega) | simp at h | skip)) | refine kp ?_ ?_ | refine tw ?_ ?_ | refine appnil rfl ?_ | refine rawnil rfl ?_ | exact trivial | refine side2 ?_ | refine sideL2 ?_ | refine Or.inr ?_ | refine sat_drawH (Try.ok ..) (by kernel_rfl) ?_ | refine xi _ (And.intro rfl rfl) ?_ | refine xi _ (fun _ => And.intro rfl rfl) ?_ | refine xi _ rfl ?_)
      refine ⟨(k0 + 1, A92, c92, _, w4, _), ⟨⟨hk01, by rw [List.length_append, hl3]; rfl, hx3'⟩, by show l.length - (k0 + 1) < l.length - k0; omega⟩, ?_, ?_, rfl⟩
      all_goals ((repeat' (first | exact trivial | exact rfl | refine And.intro ?_ ?_)) <;> (try (conv => whnf)) <;> (try simp only [SV.real, SV.r2, SV.r1]))
    · have hmade : madeS s = (s.take i).map madeE := by unfold madeS; rw [if_neg hs0, htk]
      have hil : i = ((s.take i).map madeE).length := by rw [List.length_map, List.length_take]; omega
      have hi0 : i ≠ 0 := by omega
      rw [hmade] at hms
      rw [← htk] at hx6
      repeat' ((conv => whnf); first | refine walk (Try.ok ..) ?_ | (refine Cnd.mk (fun h => ?_) (fun h => ?_) <;> (first | exact cndT h (by (try dsimp only); omega) | exact cndF h (by (try dsimp only); omega) | (exfalso; simp at h; omega) | simp at h | skip)) | refine kp ?_ ?_ | refine tw ?_ ?_ | refine appnil rfl ?_ | refine rawnil rfl ?_ | exact trivial | refine side2 ?_ | refine sideL2 ?_ | refine Or.inr ?_ | refine sat_drawH (Try.ok ..) (by kernel_rfl) ?_ | refine xi _ (And.intro rfl rfl) ?_ | refine xi _ (fun _ => And.intro rfl rfl) ?_ | refine xi _ rfl ?_)
      refine sat_ops (Try.ok ..) ?_
      repeat' ((conv => whnf); first | refine walk (Try.ok ..) ?_ | (refine Cnd.mk (fun h => ?_) (fun h => ?_) <;> (first | exact cndT h (by (try dsimp only); omega) | exact cndF h (by (try dsimp only); omega) | (exfalso; simp at h; omega) | simp at h | skip)) | refine kp ?_ ?_ | refine tw ?_ ?_ | refine appnil rfl ?_ | refine rawnil rfl ?_ | exact trivial | refine side2 ?_ | refine sideL2 ?_ | refine Or.inr ?_ | refine sat_drawH (Try.ok ..) (by kernel_rfl) ?_ | refine xi _ (And.intro rfl rfl) ?_ | refine xi _ (fun _ => And.intro rfl rfl) ?_ | refine xi _ rfl ?_)
      (conv => whnf)
      intro g91 hg91
      repeat' ((conv => whnf); first | refine walk (Try.ok ..) ?_ | (refine Cnd.mk (fun h => ?_) (fun h => ?_) <;> (first | exact cndT h (by (try dsimp only); omega) | exact cndF h (by (try dsimp only); omega) | (exfalso; simp at h; omega) | simp at h | skip)) | refine kp ?_ ?_ | refine tw ?_ ?_ | refine appnil rfl ?_ | refine rawnil rfl ?_ | exact trivial | refine side2 ?_ | refine sideL2 ?_ | refine Or.inr ?_ | refine sat_drawH (Try.ok ..) (by kernel_rfl) ?_ | refine xi _ (And.intro rfl rfl) ?_ | refine xi _ (fun _ => And.intro rfl rfl) ?_ | refine xi _ rfl ?_)
      (conv => whnf)
      intro A92 c92
      repeat' ((conv => whnf); first | refine walk (Try.ok ..) ?_ | (refine Cnd.mk (fun h => ?_) (fun h => ?_) <;> (first | exact cndT h (by (try dsimp only); omega) | exact cndF h (by (try dsimp only); omega) | (exfalso; simp at h; omega) | simp at h | skip)) | refine kp ?_ ?_ | refine tw ?_ ?_ | refine appnil rfl ?_ | refine rawnil rfl ?_ | exact trivial | refine side2 ?_ | refine sideL2 ?_ | refine Or.inr ?_ | refine sat_drawH (Try.ok ..) (by kernel_rfl) ?_ | refine xi _ (And.intro rfl rfl) ?_ | refine xi _ (fun _ => And.intro rfl rfl) ?_ | refine xi _ rfl ?_)
      refine sat_fuse 77 [77, 83] rfl fun w4 hw4 => ?_
      have hx3' := (hx3.fuse ns_stays [77, 83] 77 hw4 rfl rfl).snoc (by rw [hl3]; exact hms) (nest_fuseN [77, 83] 83 hil hw4 rfl rfl (hx6.fuse ne_stays [77, 83] 77 hw4 rfl rfl))
      refine sat_ops (Try.ok ..) ?_
      repeat' ((conv => whnf); first | refine walk (Try.ok ..) ?_ | (refine Cnd.mk (fun h => ?_) (fun h => ?_) <;> (first | exact cndT h (by (try dsimp only); omega) | exact cndF h (by (try dsimp only); omega) | (exfalso; simp at h; omega) | simp at h | skip)) | refine kp ?_ ?_ | refine tw ?_ ?_ | refine appnil rfl ?_ | refine rawnil rfl ?_ | exact trivial | refine side2 ?_ | refine sideL2 ?_ | refine Or.inr ?_ | refine sat_drawH (Try.ok ..) (by kernel_rfl) ?_ | refine xi _ (And.intro rfl rfl) ?_ | refine xi _ (fun _ => And.intro rfl rfl) ?_ | refine xi _ rfl ?_)
      refine ⟨(k0 + 1, A92, c92, _, w4, _), ⟨⟨hk01, by rw [List.length_append, hl3]; rfl, hx3'⟩, by show l.length - (k0 + 1) < l.length - k0; omega⟩, ?_, ?_, rfl⟩
      all_goals ((repeat' (first | exact trivial | exact rfl | refine And.intro ?_ ?_)) <;> (try (conv => whnf)) <;> (try simp only [SV.real, SV.r2, SV.r1]))
  obtain ⟨e, he⟩ : ∃ e, s[i]? = some e := ⟨_, List.getElem?_eq_getElem hi1.1⟩
  obtain ⟨x1, hx1, hne⟩ := nest_at hxA1 hrA1.1 he
  obtain ⟨A2', A2, cA2, rfl, aA2, hcA2, hrA2, -⟩ := nea_row hne
  obtain ⟨p1, rfl, rfl⟩ := some_of aA1 hrA1 (by omega)
  have hmax2 : e.length ≤ 9223372036854775807 := Nat.le_trans (Nat.le_trans hcA2.1 hcA2.2) (by decide)
  have hme := map_take_step madeE he hi1.2
  repeat' ((conv => whnf); first | refine walk (Try.ok ..) ?_ | (refine Cnd.mk (fun h => ?_) (fun h => ?_) <;> (first | exact cndT h (by (try dsimp only); omega) | exact cndF h (by (try dsimp only); omega) | (exfalso; simp at h; omega) | simp at h | skip)) | refine kp ?_ ?_ | refine tw ?_ ?_ | refine appnil rfl ?_ | refine rawnil rfl ?_ | exact trivial | refine side2 ?_ | refine sideL2 ?_ | refine Or.inr ?_ | refine sat_drawH (Try.ok ..) (by kernel_rfl) ?_ | refine xi _ (And.intro rfl rfl) ?_ | refine xi _ (fun _ => And.intro rfl rfl) ?_ | refine xi _ rfl ?_)
  refine sat_loop (Try.ok ..) (α := Nat × Option (Nat × Nat) × Nat) (fun u => ([(3, .yes, .o 92 A3 k0 c3), (5, .yes, .v (.slice (adr (some p1)) s.length cA1)), (6, .yes, .o 83 A6 i c6), (7, .yes, .v (.int .i64 i)), (8, .yes, .o 75 u.2.1 u.1 u.2.2), (9, .yes, .v (.int .i64 u.1)), (12, .yes, .v (.slice (adr (some p)) l.length cA)), (13, .yes, .v (.int .i64 l.length)), (14, .yes, .v (.int .i64 k0))], [(75, .row u.2.1 9 1 u.1 u.2.2 (((e.take u.1).map madeC).map Value.string)), (83, .row A6 43 1 i c6 xs6), (92, .row A3 31 1 k0 c3 xs3), (77, .own gs2 (Frz w2 gs2))]))
    (fun u => u.1 ≤ e.length ∧ u.1 ≤ 10) (fun u => e.length - u.1) (fun _ => rfl) ?_ ?_
  · refine ⟨(0, none, 0), ⟨Nat.zero_le _, Nat.zero_le _⟩, ?_, ?_, rfl⟩
    all_goals ((repeat' (first | exact trivial | exact rfl | refine And.intro ?_ ?_)) <;> (try (conv => whnf)) <;> (try simp only [SV.real, SV.r2, SV.r1]))
  rintro ⟨k, A8, c8⟩ ⟨hk, hk10⟩
  dsimp only at hk hk10 ⊢
  by_cases hk1 : k < e.length ∧ k < 10
  case neg =>
    have htk : e.take k = e.take 10 := by
      rcases Nat.lt_or_ge k 10 with h9 | h9
      · rw [List.take_of_length_le (by omega), List.take_of_length_le (by omega)]
      · rw [show k = 10 by omega]
    by_cases he0 : e.length = 0
    · have hmade : madeE e = [⟨#[]⟩] := by unfold madeE; rw [if_pos he0]
      rw [hmade] at hme
      repeat' ((conv => whnf); first | refine walk (Try.ok ..) ?_ | (refine Cnd.mk (fun h => ?_) (fun h => ?_) <;> (first | exact cndT h (by (try dsimp only); omega) | exact cndF h (by (try dsimp only); omega) | (exfalso; simp at h; omega) | simp at h | skip)) | refine kp ?_ ?_ | refine tw ?_ ?_ | refine appnil rfl ?_ | refine rawnil rfl ?_ | exact trivial | refine side2 ?_ | refine sideL2 ?_ | refine Or.inr ?_ | refine sat_drawH (Try.ok ..) (by kernel_rfl) ?_ | refine xi _ (And.intro rfl rfl) ?_ | refine xi _ (fun _ => And.intro rfl rfl) ?_ | refine xi _ rfl ?_ | refine xi _ (fun _ => (ro_at rfl rfl hrA1 hx1 rfl)) ?_ | refine xi _ (ro_at rfl rfl hrA1 hx1 rfl) ?_)
      (conv => whnf)
      intro g79 hg79
      repeat' ((conv => whnf); first | refine walk (Try.ok ..) ?_ | (refine Cnd.mk (fun h => ?_) (fun h => ?_) <;> (first | exact cndT h (by (try dsimp only); omega) | exact cndF h (by (try dsimp only); omega) | (exfalso; simp at h; omega) | simp at h | skip)) | refine kp ?_ ?_ | refine tw ?_ ?_ | refine appnil rfl ?_ | refine rawnil rfl ?_ | exact trivial | refine side2 ?_ | refine sideL2 ?_ | refine Or.inr ?_ | refine sat_drawH (Try.ok ..) (by kernel_rfl) ?_ | refine xi _ (And.intro rfl rfl) ?_ | refine xi _ (fun _ => And.intro rfl rfl) ?_ | refine xi _ rfl ?_)
      refine sat_own 79 (n := 1) (size := 1) rfl rfl rfl (by decide) ?_
      refine sat_ops (Try.ok ..) ?_
      repeat' ((conv => whnf); first | refine walk (Try.ok ..) ?_ | (refine Cnd.mk (fun h => ?_) (fun h => ?_) <;> (first | exact cndT h (by (try dsimp only); omega) | exact cndF h (by (try dsimp only); omega) | (exfalso; simp at h; omega) | simp at h | skip)) | refine kp ?_ ?_ | refine tw ?_ ?_ | refine appnil rfl ?_ | refine rawnil rfl ?_ | exact trivial | refine side2 ?_ | refine sideL2 ?_ | refine Or.inr ?_ | refine sat_drawH (Try.ok ..) (by kernel_rfl) ?_ | refine xi _ (And.intro rfl rfl) ?_ | refine xi _ (fun _ => And.intro rfl rfl) ?_ | refine xi _ rfl ?_)
      (conv => whnf)
      intro g82 hg82
      repeat' ((conv => whnf); first | refine walk (Try.ok ..) ?_ | (refine Cnd.mk (fun h => ?_) (fun h => ?_) <;> (first | exact cndT h (by (try dsimp only); omega) | exact cndF h (by (try dsimp only); omega) | (exfalso; simp at h; omega) | simp at h | skip)) | refine kp ?_ ?_ | refine tw ?_ ?_ | refine appnil rfl ?_ | refine rawnil rfl ?_ | exact trivial | refine side2 ?_ | refine sideL2 ?_ | refine Or.inr ?_ | refine sat_drawH (Try.ok ..) (by kernel_rfl) ?_ | refine xi _ (And.intro rfl rfl) ?_ | refine xi _ (fun _ => And.intro rfl rfl) ?_ | refine xi _ rfl ?_)
      (conv => whnf)
      intro A83 c83
      repeat' ((conv => whnf); first | refine walk (Try.ok ..) ?_ | (refine Cnd.mk (fun h => ?_) (fun h => ?_) <;> (first | exact cndT h (by (try dsimp only); omega) | exact cndF h (by (try dsimp only); omega) | (exfalso; simp at h; omega) | simp at h | skip)) | refine kp ?_ ?_ | refine tw ?_ ?_ | refine appnil rfl ?_ | refine rawnil rfl ?_ | exact trivial | refine side2 ?_ | refine sideL2 ?_ | refine Or.inr ?_ | refine sat_drawH (Try.ok ..) (by kernel_rfl) ?_ | refine xi _ (And.intro rfl rfl) ?_ | refine xi _ (fun _ => And.intro rfl rfl) ?_ | refine xi _ rfl ?_)
      refine sat_fuse 77 [77, 79] rfl fun w4 hw4 => ?_
      have hx3' := hx3.fuse ns_stays [77, 79] 77 hw4 rfl rfl
      have hx6' := (hx6.fuse ne_stays [77, 79] 77 hw4 rfl rfl).snoc (by rw [hl6]; exact hme) (nest_fuseN (l := [⟨#[]⟩]) [77, 79] 79 rfl hw4 rfl rfl (got_strs (w := w4) [⟨#[]⟩] : Got Text w4 _ [Value.string ⟨#[]⟩] [⟨#[]⟩]))
      refine sat_ops (Try.ok ..) ?_
      repeat' ((conv => whnf); first | refine walk (Try.ok ..) ?_ | (refine Cnd.mk (fun h => ?_) (fun h => ?_) <;> (first | exact cndT h (by (try dsimp only); omega) | exact cndF h (by (try dsimp only); omega) | (exfalso; simp at h; omega) | simp at h | skip)) | refine kp ?_ ?_ | refine tw ?_ ?_ | refine appnil rfl ?_ | refine rawnil rfl ?_ | exact trivial | refine side2 ?_ | refine sideL2 ?_ | refine Or.inr ?_ | refine sat_drawH (Try.ok ..) (by kernel_rfl) ?_ | refine xi _ (And.intro rfl rfl) ?_ | refine xi _ (fun _ => And.intro rfl rfl) ?_ | refine xi _ rfl ?_)
      refine ⟨(i + 1, A83, c83, _, w4, _), ⟨⟨⟨hi1.1, hi1.2⟩, by rw [List.length_append, hl6]; rfl, hx6', hx3'⟩, by show s.length - (i + 1) < s.length - i; omega⟩, ?_, ?_, rfl⟩
      all_goals ((repeat' (first | exact trivial | exact rfl | refine And.intro ?_ ?_)) <;> (try (conv => whnf)) <;> (try simp only [SV.real, SV.r2, SV.r1]))
    · have hmade : madeE e = (e.take k).map madeC := by unfold madeE; rw [if_neg he0, htk]
      have hkl : k = ((e.take k).map madeC).length := by rw [List.length_map, List.length_take]; omega
      have hk0 : k ≠ 0 := by omega
      rw [hmade] at hme
      repeat' ((conv => whnf); first | refine walk (Try.ok ..) ?_ | (refine Cnd.mk (fun h => ?_) (fun h => ?_) <;> (first | exact cndT h (by (try dsimp only); omega) | exact cndF h (by (try dsimp only); omega) | (exfalso; simp at h; omega) | simp at h | skip)) | refine kp ?_ ?_ | refine tw ?_ ?_ | refine appnil rfl ?_ | refine rawnil rfl ?_ | exact trivial | refine side2 ?_ | refine sideL2 ?_ | refine Or.inr ?_ | refine sat_drawH (Try.ok ..) (by kernel_rfl) ?_ | refine xi _ (And.intro rfl rfl) ?_ | refine xi _ (fun _ => And.intro rfl rfl) ?_ | refine xi _ rfl ?_ | refine xi _ (fun _ => (ro_at rfl rfl hrA1 hx1 rfl)) ?_ | refine xi _ (ro_at rfl rfl hrA1 hx1 rfl) ?_)
      refine sat_ops (Try.ok ..) ?_
      repeat' ((conv => whnf); first | refine walk (Try.ok ..) ?_ | (refine Cnd.mk (fun h => ?_) (fun h => ?_) <;> (first | exact cndT h (by (try dsimp only); omega) | exact cndF h (by (try dsimp only); omega) | (exfalso; simp at h; omega) | simp at h | skip)) | refine kp ?_ ?_ | refine tw ?_ ?_ | refine appnil rfl ?_ | refine rawnil rfl ?_ | exact trivial | refine side2 ?_ | refine sideL2 ?_ | refine Or.inr ?_ | refine sat_drawH (Try.ok ..) (by kernel_rfl) ?_ | refine xi _ (And.intro rfl rfl) ?_ | refine xi _ (fun _ => And.intro rfl rfl) ?_ | refine xi _ rfl ?_)
      (conv => whnf)
      intro g82 hg82
      repeat' ((conv => whnf); first | refine walk (Try.ok ..) ?_ | (refine Cnd.mk (fun h => ?_) (fun h => ?_) <;> (first | exact cndT h (by (try dsimp only); omega) | exact cndF h (by (try dsimp only); omega) | (exfalso; simp at h; omega) | simp at h | skip)) | refine kp ?_ ?_ | refine tw ?_ ?_ | refine appnil rfl ?_ | refine rawnil rfl ?_ | exact trivial | refine side2 ?_ | refine sideL2 ?_ | refine Or.inr ?_ | refine sat_drawH (Try.ok ..) (by kernel_rfl) ?_ | refine xi _ (And.intro rfl rfl) ?_ | refine xi _ (fun _ => And.intro rfl rfl) ?_ | refine xi _ rfl ?_)
      (conv => whnf)
      intro A83 c83
      repeat' ((conv => whnf); first | refine walk (Try.ok ..) ?_ | (refine Cnd.mk (fun h => ?_) (fun h => ?_) <;> (first | exact cndT h (by (try dsimp only); omega) | exact cndF h (by (try dsimp only); omega) | (exfalso; simp at h; omega) | simp at h | skip)) | refine kp ?_ ?_ | refine tw ?_ ?_ | refine appnil rfl ?_ | refine rawnil rfl ?_ | exact trivial | refine side2 ?_ | refine sideL2 ?_ | refine Or.inr ?_ | refine sat_drawH (Try.ok ..) (by kernel_rfl) ?_ | refine xi _ (And.intro rfl rfl) ?_ | refine xi _ (fun _ => And.intro rfl rfl) ?_ | refine xi _ rfl ?_)
      refine sat_fuse 77 [77, 75] rfl fun w4 hw4 => ?_
      have hx3' := hx3.fuse ns_stays [77, 75] 77 hw4 rfl rfl
      have hx6' := (hx6.fuse ne_stays [77, 75] 77 hw4 rfl rfl).snoc (by rw [hl6]; exact hme) (nest_fuseN (l := ((e.take k).map madeC)) [77, 75] 75 hkl hw4 rfl rfl (got_strs _))
      refine sat_ops (Try.ok ..) ?_
      repeat' ((conv => whnf); first | refine walk (Try.ok ..) ?_ | (refine Cnd.mk (fun h => ?_) (fun h => ?_) <;> (first | exact cndT h (by (try dsimp only); omega) | exact cndF h (by (try dsimp only); omega) | (exfalso; simp at h; omega) | simp at h | skip)) | refine kp ?_ ?_ | refine tw ?_ ?_ | refine appnil rfl ?_ | refine rawnil rfl ?_ | exact trivial | refine side2 ?_ | refine sideL2 ?_ | refine Or.inr ?_ | refine sat_drawH (Try.ok ..) (by kernel_rfl) ?_ | refine xi _ (And.intro rfl rfl) ?_ | refine xi _ (fun _ => And.intro rfl rfl) ?_ | refine xi _ rfl ?_)
      refine ⟨(i + 1, A83, c83, _, w4, _), ⟨⟨⟨hi1.1, hi1.2⟩, by rw [List.length_append, hl6]; rfl, hx6', hx3'⟩, by show s.length - (i + 1) < s.length - i; omega⟩, ?_, ?_, rfl⟩
      all_goals ((repeat' (first | exact trivial | exact rfl | refine And.intro ?_ ?_)) <;> (try (conv => whnf)) <;> (try simp only [SV.real, SV.r2, SV.r1]))
  obtain ⟨c, hc⟩ : ∃ c, e[k]? = some c := ⟨_, List.getElem?_eq_getElem hk1.1⟩
  obtain ⟨p2, rfl, rfl⟩ := some_of aA2 hrA2 (by omega)
  repeat' ((conv => whnf); first | refine walk (Try.ok ..) ?_ | (refine Cnd.mk (fun h => ?_) (fun h => ?_) <;> (first | exact cndT h (by (try dsimp only); omega) | exact cndF h (by (try dsimp only); omega) | (exfalso; simp at h; omega) | simp at h | skip)) | refine kp ?_ ?_ | refine tw ?_ ?_ | refine appnil rfl ?_ | refine rawnil rfl ?_ | exact trivial | refine side2 ?_ | refine sideL2 ?_ | refine Or.inr ?_ | refine sat_drawH (Try.ok ..) (by kernel_rfl) ?_ | refine xi _ (And.intro rfl rfl) ?_ | refine xi _ (fun _ => And.intro rfl rfl) ?_ | refine xi _ rfl ?_ | refine xi _ (fun _ => (ro_at rfl rfl hrA1 hx1 rfl)) ?_ | refine xi _ (ro_at rfl rfl hrA1 hx1 rfl) ?_)
  refine sat_loop (Try.ok ..) (α := Nat × Option (Nat × Nat) × Nat) (fun u => ([(3, .yes, .o 92 A3 k0 c3), (5, .yes, .v (.slice (adr (some p1)) s.length cA1)), (6, .yes, .o 83 A6 i c6), (7, .yes, .v (.int .i64 i)), (8, .yes, .o 75 A8 k c8), (9, .yes, .v (.int .i64 k)), (10, .yes, .o 70 u.2.1 u.1 u.2.2), (11, .yes, .v (.int .i64 u.1)), (12, .yes, .v (.slice (adr (some p)) l.length cA)), (13, .yes, .v (.int .i64 l.length)), (14, .yes, .v (.int .i64 k0))], [(70, .row u.2.1 5 1 u.1 u.2.2 (uB ((c.data.toList.take u.1).map madeB))), (75, .row A8 9 1 k c8 (((e.take k).map madeC).map Value.string)), (83, .row A6 43 1 i c6 xs6), (92, .row A3 31 1 k0 c3 xs3), (77, .own gs2 (Frz w2 gs2))]))
    (fun u => u.1 ≤ c.size ∧ u.1 ≤ 100) (fun u => c.size - u.1) (fun _ => rfl) ?_ ?_
  · refine ⟨(0, none, 0), ⟨Nat.zero_le _, Nat.zero_le _⟩, ?_, ?_, rfl⟩
    all_goals ((repeat' (first | exact trivial | exact rfl | refine And.intro ?_ ?_)) <;> (try (conv => whnf)) <;> (try simp only [SV.real, SV.r2, SV.r1]))
  rintro ⟨n, A10, c10⟩ ⟨hn, hn100⟩
  dsimp only at hn hn100 ⊢
  by_cases hn1 : n < c.size ∧ n < 100
  · obtain ⟨b, hb⟩ : ∃ b, c.data.toList[n]? = some b := ⟨_, List.getElem?_eq_getElem hn1.1⟩
    have hbt : bt c (n : Int).toNat = (b.toNat : Int) := bt_at hb
    have hbt2 : bt c n = (b.toNat : Int) := bt_at hb
    have hbb := UInt8.toNat_lt b
    repeat' ((conv => whnf); first | refine walk (Try.ok ..) ?_ | (refine Cnd.mk (fun h => ?_) (fun h => ?_) <;> (first | exact cndT h (by (try dsimp only); omega) | exact cndF h (by (try dsimp only); omega) | (exfalso; simp at h; omega) | simp at h | skip)) | refine kp ?_ ?_ | refine tw ?_ ?_ | refine appnil rfl ?_ | refine rawnil rfl ?_ | exact trivial | refine side2 ?_ | refine sideL2 ?_ | refine Or.inr ?_ | refine sat_drawH (Try.ok ..) (by kernel_rfl) ?_ | refine xi _ (And.intro rfl rfl) ?_ | refine xi _ (fun _ => And.intro rfl rfl) ?_ | refine xi _ rfl ?_ | refine xi _ (fun _ => (ro_at rfl rfl hrA1 hx1 rfl)) ?_ | refine xi _ (ro_at rfl rfl hrA1 hx1 rfl) ?_ | refine xi _ (fun _ => (ro_at rfl rfl hrA2 (str_cell hc) rfl)) ?_ | refine xi _ (ro_at rfl rfl hrA2 (str_cell hc) rfl) ?_)
    (conv => whnf)
    intro g69 hg69
    repeat' ((conv => whnf); first | refine walk (Try.ok ..) ?_ | (refine Cnd.mk (fun h => ?_) (fun h => ?_) <;> (first | exact cndT h (by (try dsimp only); omega) | exact cndF h (by (try dsimp only); omega) | (exfalso; simp at h; omega) | simp at h | skip)) | refine kp ?_ ?_ | refine tw ?_ ?_ | refine appnil rfl ?_ | refine rawnil rfl ?_ | exact trivial | refine side2 ?_ | refine sideL2 ?_ | refine Or.inr ?_ | refine sat_drawH (Try.ok ..) (by kernel_rfl) ?_ | refine xi _ (And.intro rfl rfl) ?_ | refine xi _ (fun _ => And.intro rfl rfl) ?_ | refine xi _ rfl ?_)
    (conv => whnf)
    intro A70 c70
    repeat' ((conv => whnf); first | refine walk (Try.ok ..) ?_ | (refine Cnd.mk (fun h => ?_) (fun h => ?_) <;> (first | exact cndT h (by (try dsimp only); omega) | exact cndF h (by (try dsimp only); omega) | (exfalso; simp at h; omega) | simp at h | skip)) | refine kp ?_ ?_ | refine tw ?_ ?_ | refine appnil rfl ?_ | refine rawnil rfl ?_ | exact trivial | refine side2 ?_ | refine sideL2 ?_ | refine Or.inr ?_ | refine sat_drawH (Try.ok ..) (by kernel_rfl) ?_ | refine xi _ (And.intro rfl rfl) ?_ | refine xi _ (fun _ => And.intro rfl rfl) ?_ | refine xi _ rfl ?_)
    refine ⟨(n + 1, A70, c70), ⟨⟨hn1.1, hn1.2⟩, by omega⟩, ?_, ?_, rfl⟩
    all_goals ((repeat' (first | exact trivial | exact rfl | refine And.intro ?_ ?_)) <;> (try (conv => whnf)) <;> (try simp only [SV.real, SV.r2, SV.r1]))
    all_goals (rw [made_step hb, ← hbt]; rfl)
  have htn : c.data.toList.take n = c.data.toList.take 100 := by
    rcases Nat.lt_or_ge n 100 with h9 | h9
    · have hn9 : n = c.size := by omega
      rw [List.take_of_length_le (by rw [hn9]; exact Nat.le_refl _), List.take_of_length_le (show c.data.toList.length ≤ 100 from (show c.size ≤ 100 by omega))]
    · rw [show n = 100 by omega]
  have hnl : n = (((c.data.toList.take n).map madeB).map fun b => (b.toNat : Int)).length := by
    rw [List.length_map, List.length_map, List.length_take]
    have : c.data.toList.length = c.size := rfl
    omega
  have hub := ub_back ((c.data.toList.take n).map madeB)
  have hstr : strOf (((c.data.toList.take n).map madeB).map fun b => (b.toNat : Int)) = madeC c := by rw [strOf_ba, htn]; rfl
  repeat' ((conv => whnf); first | refine walk (Try.ok ..) ?_ | (refine Cnd.mk (fun h => ?_) (fun h => ?_) <;> (first | exact cndT h (by (try dsimp only); omega) | exact cndF h (by (try dsimp only); omega) | (exfalso; simp at h; omega) | simp at h | skip)) | refine kp ?_ ?_ | refine tw ?_ ?_ | refine appnil rfl ?_ | refine rawnil rfl ?_ | exact trivial | refine side2 ?_ | refine sideL2 ?_ | refine Or.inr ?_ | refine sat_drawH (Try.ok ..) (by kernel_rfl) ?_ | refine xi _ (And.intro rfl rfl) ?_ | refine xi _ (fun _ => And.intro rfl rfl) ?_ | refine xi _ rfl ?_ | refine xi _ (fun _ => (ro_at rfl rfl hrA1 hx1 rfl)) ?_ | refine xi _ (ro_at rfl rfl hrA1 hx1 rfl) ?_ | refine xi _ (fun _ => (ro_at rfl rfl hrA2 (str_cell hc) rfl)) ?_ | refine xi _ (ro_at rfl rfl hrA2 (str_cell hc) rfl) ?_)
  refine ⟨_, ⟨hnl, hub⟩, ?_⟩
  rw [hstr]
  repeat' ((conv => whnf); first | refine walk (Try.ok ..) ?_ | (refine Cnd.mk (fun h => ?_) (fun h => ?_) <;> (first | exact cndT h (by (try dsimp only); omega) | exact cndF h (by (try dsimp only); omega) | (exfalso; simp at h; omega) | simp at h | skip)) | refine kp ?_ ?_ | refine tw ?_ ?_ | refine appnil rfl ?_ | refine rawnil rfl ?_ | exact trivial | refine side2 ?_ | refine sideL2 ?_ | refine Or.inr ?_ | refine sat_drawH (Try.ok ..) (by kernel_rfl) ?_ | refine xi _ (And.intro rfl rfl) ?_ | refine xi _ (fun _ => And.intro rfl rfl) ?_ | refine xi _ rfl ?_)
  (conv => whnf)
  intro g74 hg74
  repeat' ((conv => whnf); first | refine walk (Try.ok ..) ?_ | (refine Cnd.mk (fun h => ?_) (fun h => ?_) <;> (first | exact cndT h (by (try dsimp only); omega) | exact cndF h (by (try dsimp only); omega) | (exfalso; simp at h; omega) | simp at h | skip)) | refine kp ?_ ?_ | refine tw ?_ ?_ | refine appnil rfl ?_ | refine rawnil rfl ?_ | exact trivial | refine side2 ?_ | refine sideL2 ?_ | refine Or.inr ?_ | refine sat_drawH (Try.ok ..) (by kernel_rfl) ?_ | refine xi _ (And.intro rfl rfl) ?_ | refine xi _ (fun _ => And.intro rfl rfl) ?_ | refine xi _ rfl ?_)
  (conv => whnf)
  intro A75 c75
  repeat' ((conv => whnf); first | refine walk (Try.ok ..) ?_ | (refine Cnd.mk (fun h => ?_) (fun h => ?_) <;> (first | exact cndT h (by (try dsimp only); omega) | exact cndF h (by (try dsimp only); omega) | (exfalso; simp at h; omega) | simp at h | skip)) | refine kp ?_ ?_ | refine tw ?_ ?_ | refine appnil rfl ?_ | refine rawnil rfl ?_ | exact trivial | refine side2 ?_ | refine sideL2 ?_ | refine Or.inr ?_ | refine sat_drawH (Try.ok ..) (by kernel_rfl) ?_ | refine xi _ (And.intro rfl rfl) ?_ | refine xi _ (fun _ => And.intro rfl rfl) ?_ | refine xi _ rfl ?_)
  refine ⟨(k + 1, A75, c75), ⟨⟨hk1.1, hk1.2⟩, by omega⟩, ?_, ?_, rfl⟩
  all_goals ((repeat' (first | exact trivial | exact rfl | refine And.intro ?_ ?_)) <;> (try (conv => whnf)) <;> (try simp only [SV.real, SV.r2, SV.r1]))
  all_goals exact (strs_step hc).symm
end Go.Proofs.Ytdejcgmaphmjbaa
