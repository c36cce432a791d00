/-
  ClockSmall, walked.
-/
import Derived.Test.YtmhfkmnpeponiaaGreatDoorLB
import Derived.Test.YtmhfkmnpeponiaaGreatDoorLN
set_option linter.unusedSimpArgs false
set_option linter.unusedVariables false
namespace Go.Proofs.YtmhfkmnpeponiaaGreatDoor
open Go Sat Go.RowKit Go.PlainAid
def pts : List Nat := [0, 1, 5, 10079, 10080]
theorem pt_at {k : Nat} (h : k < 5) : ∃ n, pts[k]? = some n ∧ n ≤ 10080 := by
  match k, h with
  | 0, _ => exact ⟨_, rfl, by decide⟩
  | 1, _ => exact ⟨_, rfl, by decide⟩
  | 2, _ => exact ⟨_, rfl, by decide⟩
  | 3, _ => exact ⟨_, rfl, by decide⟩
  | 4, _ => exact ⟨_, rfl, by decide⟩
theorem pt_cell {k n : Nat} (h : pts[k]? = some n) : (pts.map fun (n : Nat) => SV.v (.int .i64 n))[0 + mulS (k : Int).toNat 1]? = some (.v (.int .i64 n)) ∧ (SV.v (.int .i64 (n : Nat))).scal = true := by
  rw [Nat.zero_add, mulS_eq, Int.toNat_natCast, Nat.mul_one, List.getElem?_map, h]
  exact ⟨rfl, rfl⟩
/-- the calendars that have been made so far -/
structure Som (w0 : World) (gs : List Nat) (xs : List Value) (l : List (List Sp)) (b : Nat) : Prop where
  len : xs.length = l.length
  few : l.length ≤ b
  two : ∀ s ∈ l, s.length ≤ 2
  got : Got Weeks w0 gs xs l
theorem Som.nil {w0 : World} {gs : List Nat} {b : Nat} : Som w0 gs [] [] b := ⟨rfl, Nat.zero_le _, fun s hs => (by cases hs), Got.nil⟩
theorem Som.mono {w0 : World} {gs : List Nat} {xs : List Value} {l : List (List Sp)} {b c : Nat} (h : Som w0 gs xs l b) (hb : b ≤ c) : Som w0 gs xs l c := ⟨h.len, Nat.le_trans h.few hb, h.two, h.got⟩
theorem Som.snoc_ {cx : Cx} {H : Heap} {w w0 : World} {gs : List Nat} {xs : List Value} {l : List (List Sp)} {b : Nat} (h : Som w0 gs xs l b) (hw : Holds cx H w) (L : List Nat) (d : Nat) (hf : hfind H d = some (.own gs (Frz w0 gs))) (hi : memN L d = true) {x : Value} {s : List Sp} (hx : Weeks w (fun g => g ∈ gsOf H L) x s) (h2 : s.length ≤ 2) : Som w (gsOf H L) (xs ++ [x]) (l ++ [s]) (b + 1) := by
  refine ⟨by rw [List.length_append, List.length_append, h.len]; rfl, by rw [List.length_append]; have := h.few; show l.length + 1 ≤ _; omega, fun t ht => ?_, (h.got.fuse weeks_stays L d hw hf hi).ext h.len hx⟩
  rcases List.mem_append.1 ht with ht | ht
  · exact h.two t ht
  · obtain rfl := List.mem_singleton.1 ht
    exact h2
theorem Som.at_ {w0 : World} {gs : List Nat} {xs : List Value} {l : List (List Sp)} {b : Nat} (h : Som w0 gs xs l b) {i : Nat} (hi : i < l.length) : ∃ (s : List Sp) (A : Option (Nat × Nat)) (c : Nat), s.length ≤ 2 ∧ s.length ≤ c ∧ xs[mulS (i : Int).toNat 1]? = some (.slice (adr A) s.length c) ∧ Ro w0 A s.length 2 (sps s) ∧ ∀ p, A = some p → 0 < s.length → p.1 ∈ gs := by
  have hx : i < xs.length := by rw [h.len]; exact hi
  obtain ⟨A, c, hv, hc, hro, hB⟩ := h.got.at_ i xs[i] l[i] (List.getElem?_eq_getElem hx) (List.getElem?_eq_getElem hi)
  refine ⟨l[i], A, c, h.two _ (List.getElem_mem hi), hc, ?_, hro, hB⟩
  rw [mulS_eq, Int.toNat_natCast, Nat.mul_one, List.getElem?_eq_getElem hx, hv]
theorem som_ro {cx : Cx} {H : Heap} {w w1 : World} {gs : List Nat} {d : Nat} {A : Option (Nat × Nat)} {s : List Sp} (hro : Ro w1 A s.length 2 (sps s)) (hB : ∀ p, A = some p → 0 < s.length → p.1 ∈ gs) (hf : hfind H d = some (.own gs (Frz w1 gs))) (hh : Holds cx H w) : Ro w A s.length 2 (sps s) :=
  hro.stays fun p hp hn _ => frz_of hf hh p.1 (hB p hp hn)
abbrev SomA := Option (Nat × Nat) × Nat × List Value × List (List Sp) × World × List Nat
def lims : List Int := [-1, 0, 1, 2, 10079, 10080, 10081, 99999999, 100000000, 100000001, -9223372036854775808, 9223372036854775807]
theorem lim_le {k : Nat} {n : Int} (h : lims[k]? = some n) : n ≤ 9223372036854775807 := by
  have hm := List.mem_of_getElem? h
  have : ∀ n ∈ lims, n ≤ 9223372036854775807 := by decide
  exact this n hm
theorem lim_cell {k : Nat} {n : Int} (h : lims[k]? = some n) : (lims.map fun n => SV.v (.int .i64 n))[0 + mulS (k : Int).toNat 1]? = some (.v (.int .i64 n)) ∧ (SV.v (.int .i64 n)).scal = true := by
  rw [Nat.zero_add, mulS_eq, Int.toNat_natCast, Nat.mul_one, List.getElem?_map, h]
  exact ⟨rfl, rfl⟩
set_option maxRecDepth 100000 in
set_option maxHeartbeats 32000000 in
theorem clockSmall_any (hS : SpansAny) (w : World) (hw : Wf w) : Calls Tryz.prog 3 #[] w fun e w' => e = .returned (.bool true) ∧ Below w.heap.size w w' := by
  refine calls_sat (cx := Tryz.cx 207 [15] [] [] w) (Tryz.ok ..) Tryz.func3 rfl [] rfl (by show 0 ≤ 207; omega) [] (holds_nil (Nat.le_refl _)) ?_
  repeat' ((conv => whnf); first | refine walk (Tryz.ok ..) ?_ | (refine Cnd.mk (fun h => ?_) (fun h => ?_) <;> (first | exact cndT h (by (try dsimp only); omega) | exact cndF h (by (try dsimp only); omega) | (exfalso; simp at h; omega) | simp at h | skip)) | refine kp ?_ ?_ | refine tw ?_ ?_ | exact trivial | refine side2 ?_ | refine sideL2 ?_ | refine Or.inr ?_ | refine sat_drawH (Tryz.ok ..) (by kernel_rfl) ?_ | refine xi _ (And.intro rfl rfl) ?_ | refine xi _ (fun _ => And.intro rfl rfl) ?_ | refine xi _ rfl ?_)
  (conv => whnf)
  intro g13 hg13
  repeat' ((conv => whnf); first | refine walk (Tryz.ok ..) ?_ | (refine Cnd.mk (fun h => ?_) (fun h => ?_) <;> (first | exact cndT h (by (try dsimp only); omega) | exact cndF h (by (try dsimp only); omega) | (exfalso; simp at h; omega) | simp at h | skip)) | refine kp ?_ ?_ | refine tw ?_ ?_ | exact trivial | refine side2 ?_ | refine sideL2 ?_ | refine Or.inr ?_ | refine sat_drawH (Tryz.ok ..) (by kernel_rfl) ?_ | refine xi _ (And.intro rfl rfl) ?_ | refine xi _ (fun _ => And.intro rfl rfl) ?_ | refine xi _ rfl ?_)
  refine sat_fuse 77 [] rfl fun w0 hw0 => ?_
  refine sat_loop (Tryz.ok ..) (α := Nat × SomA) (fun t => ([(0, .yes, .v (.bool false)), (1, .yes, .s 17 g13 0 0 5 5), (2, .yes, .o 300 t.2.1 t.2.2.2.2.1.length t.2.2.1), (18, .yes, .s 17 g13 0 0 5 5), (19, .yes, .v (.int .i64 5)), (20, .yes, .v (.int .i64 t.1))], [(17, .blk g13 3 (pts.map fun (n : Nat) => SV.v (.int .i64 n))), (300, .row t.2.1 26 1 t.2.2.2.2.1.length t.2.2.1 t.2.2.2.1), (77, .own t.2.2.2.2.2.2 (Frz t.2.2.2.2.2.1 t.2.2.2.2.2.2))]))
    (fun t => t.1 ≤ 5 ∧ Som t.2.2.2.2.2.1 t.2.2.2.2.2.2 t.2.2.2.1 t.2.2.2.2.1 (30 * t.1)) (fun t => 5 - t.1) (fun _ => rfl) ?_ ?_
  · refine ⟨(0, none, 0, [], [], w0, []), ⟨Nat.zero_le _, Som.nil⟩, ?_, ?_, rfl⟩
    all_goals ((repeat' (first | exact trivial | exact rfl | refine And.intro ?_ ?_)) <;> (try (conv => whnf)) <;> (try simp only [SV.real, SV.r2, SV.r1]))
  rintro ⟨i, A, cap, xs, l, w1, gs⟩ ⟨hi, hsom⟩
  dsimp only at hi hsom ⊢
  by_cases hi2 : i < 5
  · obtain ⟨a, ha, ha2⟩ := pt_at hi2
    have ca := pt_cell ha
    repeat' ((conv => whnf); first | refine walk (Tryz.ok ..) ?_ | (refine Cnd.mk (fun h => ?_) (fun h => ?_) <;> (first | exact cndT h (by (try dsimp only); omega) | exact cndF h (by (try dsimp only); omega) | (exfalso; simp at h; omega) | simp at h | skip)) | refine kp ?_ ?_ | refine tw ?_ ?_ | exact trivial | refine side2 ?_ | refine sideL2 ?_ | refine Or.inr ?_ | refine sat_drawH (Tryz.ok ..) (by kernel_rfl) ?_ | refine xi _ (And.intro rfl rfl) ?_ | refine xi _ (fun _ => And.intro rfl rfl) ?_ | refine xi _ rfl ?_ | refine xi _ (fun _ => ca) ?_ | refine xi _ ca ?_)
    refine sat_loop (Tryz.ok ..) (α := Nat × SomA) (fun t => ([(0, .yes, .v (.bool false)), (1, .yes, .s 17 g13 0 0 5 5), (2, .yes, .o 300 t.2.1 t.2.2.2.2.1.length t.2.2.1), (18, .yes, .s 17 g13 0 0 5 5), (19, .yes, .v (.int .i64 5)), (20, .yes, .v (.int .i64 i)), (3, .yes, .v (.int .i64 i)), (4, .yes, .v (.int .i64 a)), (25, .yes, .s 17 g13 0 0 5 5), (26, .yes, .v (.int .i64 5)), (27, .yes, .v (.int .i64 t.1))], [(17, .blk g13 3 (pts.map fun (n : Nat) => SV.v (.int .i64 n))), (300, .row t.2.1 26 1 t.2.2.2.2.1.length t.2.2.1 t.2.2.2.1), (77, .own t.2.2.2.2.2.2 (Frz t.2.2.2.2.2.1 t.2.2.2.2.2.2))]))
      (fun t => t.1 ≤ 5 ∧ Som t.2.2.2.2.2.1 t.2.2.2.2.2.2 t.2.2.2.1 t.2.2.2.2.1 (30 * i + 6 * t.1)) (fun t => 5 - t.1) (fun _ => rfl) ?_ ?_
    · refine ⟨(0, A, cap, xs, l, w1, gs), ⟨Nat.zero_le _, hsom⟩, ?_, ?_, rfl⟩
      all_goals ((repeat' (first | exact trivial | exact rfl | refine And.intro ?_ ?_)) <;> (try (conv => whnf)) <;> (try simp only [SV.real, SV.r2, SV.r1]))
    clear hsom
    clear gs w1 l xs cap A
    rintro ⟨k, A, cap, xs, l, w1, gs⟩ ⟨hk, hsom⟩
    dsimp only at hk hsom ⊢
    by_cases hk2 : k < 5
    · obtain ⟨b, hb, hb2⟩ := pt_at hk2
      have cb := pt_cell hb
      have hle : l.length ≤ 30 * i + 6 * k := hsom.few
      repeat' ((conv => whnf); first | refine walk (Tryz.ok ..) ?_ | (refine Cnd.mk (fun h => ?_) (fun h => ?_) <;> (first | exact cndT h (by (try dsimp only); omega) | exact cndF h (by (try dsimp only); omega) | (exfalso; simp at h; omega) | simp at h | skip)) | refine kp ?_ ?_ | refine tw ?_ ?_ | exact trivial | refine side2 ?_ | refine sideL2 ?_ | refine Or.inr ?_ | refine sat_drawH (Tryz.ok ..) (by kernel_rfl) ?_ | refine xi _ (And.intro rfl rfl) ?_ | refine xi _ (fun _ => And.intro rfl rfl) ?_ | refine xi _ rfl ?_ | refine xi _ (fun _ => cb) ?_ | refine xi _ cb ?_)
      (conv => whnf)
      intro g36 hg36
      repeat' ((conv => whnf); first | refine walk (Tryz.ok ..) ?_ | (refine Cnd.mk (fun h => ?_) (fun h => ?_) <;> (first | exact cndT h (by (try dsimp only); omega) | exact cndF h (by (try dsimp only); omega) | (exfalso; simp at h; omega) | simp at h | skip)) | refine kp ?_ ?_ | refine tw ?_ ?_ | exact trivial | refine side2 ?_ | refine sideL2 ?_ | refine Or.inr ?_ | refine sat_drawH (Tryz.ok ..) (by kernel_rfl) ?_ | refine xi _ (And.intro rfl rfl) ?_ | refine xi _ (fun _ => And.intro rfl rfl) ?_ | refine xi _ rfl ?_)
      (conv => whnf)
      intro g37 hg37
      repeat' ((conv => whnf); first | refine walk (Tryz.ok ..) ?_ | (refine Cnd.mk (fun h => ?_) (fun h => ?_) <;> (first | exact cndT h (by (try dsimp only); omega) | exact cndF h (by (try dsimp only); omega) | (exfalso; simp at h; omega) | simp at h | skip)) | refine kp ?_ ?_ | refine tw ?_ ?_ | exact trivial | refine side2 ?_ | refine sideL2 ?_ | refine Or.inr ?_ | refine sat_drawH (Tryz.ok ..) (by kernel_rfl) ?_ | refine xi _ (And.intro rfl rfl) ?_ | refine xi _ (fun _ => And.intro rfl rfl) ?_ | refine xi _ rfl ?_)
      (conv => whnf)
      intro A2 cap2
      repeat' ((conv => whnf); first | refine walk (Tryz.ok ..) ?_ | (refine Cnd.mk (fun h => ?_) (fun h => ?_) <;> (first | exact cndT h (by (try dsimp only); omega) | exact cndF h (by (try dsimp only); omega) | (exfalso; simp at h; omega) | simp at h | skip)) | refine kp ?_ ?_ | refine tw ?_ ?_ | exact trivial | refine side2 ?_ | refine sideL2 ?_ | refine Or.inr ?_ | refine sat_drawH (Tryz.ok ..) (by kernel_rfl) ?_ | refine xi _ (And.intro rfl rfl) ?_ | refine xi _ (fun _ => And.intro rfl rfl) ?_ | refine xi _ rfl ?_)
      refine sat_fuse 77 [77, 36] rfl fun w4 hw4 => ?_
      have h36 := weeks_blk hw4 (id := 36) (l := [⟨a, b⟩]) rfl rfl rfl rfl (by show 1 ≤ _; unfold maxLen; omega) rfl [77, 36] rfl
      have hsom2 := hsom.snoc_ hw4 [77, 36] 77 rfl rfl h36 (by show 1 ≤ 2; omega)
      refine sat_loop (Tryz.ok ..) (α := Nat × SomA) (fun t => ([(0, .yes, .v (.bool false)), (1, .yes, .s 17 g13 0 0 5 5), (2, .yes, .o 300 t.2.1 t.2.2.2.2.1.length t.2.2.1), (18, .yes, .s 17 g13 0 0 5 5), (19, .yes, .v (.int .i64 5)), (20, .yes, .v (.int .i64 i)), (3, .yes, .v (.int .i64 i)), (4, .yes, .v (.int .i64 a)), (25, .yes, .s 17 g13 0 0 5 5), (26, .yes, .v (.int .i64 5)), (27, .yes, .v (.int .i64 k)), (5, .yes, .v (.int .i64 k)), (6, .yes, .v (.int .i64 b)), (41, .yes, .s 17 g13 0 (0 + mulS (i : Int).toNat 1) ((5 : Int) - i).toNat (5 - (i : Int).toNat)), (42, .yes, .v (.int .i64 (((5 : Int) - i).toNat : Nat))), (43, .yes, .v (.int .i64 t.1))], [(17, .blk g13 3 (pts.map fun (n : Nat) => SV.v (.int .i64 n))), (300, .row t.2.1 26 1 t.2.2.2.2.1.length t.2.2.1 t.2.2.2.1), (77, .own t.2.2.2.2.2.2 (Frz t.2.2.2.2.2.1 t.2.2.2.2.2.2))]))
        (fun t => t.1 ≤ 5 - i ∧ Som t.2.2.2.2.2.1 t.2.2.2.2.2.2 t.2.2.2.1 t.2.2.2.2.1 (30 * i + 6 * k + 1 + t.1)) (fun t => 5 - i - t.1) (fun _ => rfl) ?_ ?_
      · refine ⟨(0, A2, cap2, xs ++ [.slice (some ⟨g36, 0, none⟩) 1 1], l ++ [[⟨a, b⟩]], w4, _), ⟨Nat.zero_le _, hsom2⟩, ?_, ?_, rfl⟩
        · dsimp only
          rw [List.length_append]
          ((repeat' (first | exact trivial | exact rfl | refine And.intro ?_ ?_)) <;> (try (conv => whnf)) <;> (try simp only [SV.real, SV.r2, SV.r1]))
        · dsimp only
          rw [List.length_append]
          ((repeat' (first | exact trivial | exact rfl | refine And.intro ?_ ?_)) <;> (try (conv => whnf)) <;> (try simp only [SV.real, SV.r2, SV.r1]))
      clear hsom2 hsom h36 hw4 hle
      clear gs w1 l xs cap A A2 cap2
      rintro ⟨j, A, cap, xs, l, w1, gs⟩ ⟨hj, hsom⟩
      dsimp only at hj hsom ⊢
      have hle : l.length ≤ 30 * i + 6 * k + 1 + j := hsom.few
      by_cases hj2 : j < 5 - i
      · obtain ⟨c, hc, hc2⟩ := pt_at (show i + j < 5 by omega)
        have cc : (pts.map fun (n : Nat) => SV.v (.int .i64 n))[0 + mulS (i : Int).toNat 1 + mulS (j : Int).toNat 1]? = some (.v (.int .i64 c)) ∧ (SV.v (.int .i64 (c : Nat))).scal = true := by
          have h := pt_cell hc
          have e : 0 + mulS (i : Int).toNat 1 + mulS (j : Int).toNat 1 = 0 + mulS ((i + j : Nat) : Int).toNat 1 := by
            simp only [mulS_eq, Int.toNat_natCast, Nat.mul_one]; omega
          rw [e]
          exact h
        by_cases hik : i ≤ k
        · repeat' ((conv => whnf); first | refine walk (Tryz.ok ..) ?_ | (refine Cnd.mk (fun h => ?_) (fun h => ?_) <;> (first | exact cndT h (by (try dsimp only); omega) | exact cndF h (by (try dsimp only); omega) | (exfalso; simp at h; omega) | simp at h | skip)) | refine kp ?_ ?_ | refine tw ?_ ?_ | exact trivial | refine side2 ?_ | refine sideL2 ?_ | refine Or.inr ?_ | refine sat_drawH (Tryz.ok ..) (by kernel_rfl) ?_ | refine xi _ (And.intro rfl rfl) ?_ | refine xi _ (fun _ => And.intro rfl rfl) ?_ | refine xi _ rfl ?_ | refine xi _ (fun _ => cc) ?_ | refine xi _ cc ?_)
          (conv => whnf)
          intro g58 hg58
          repeat' ((conv => whnf); first | refine walk (Tryz.ok ..) ?_ | (refine Cnd.mk (fun h => ?_) (fun h => ?_) <;> (first | exact cndT h (by (try dsimp only); omega) | exact cndF h (by (try dsimp only); omega) | (exfalso; simp at h; omega) | simp at h | skip)) | refine kp ?_ ?_ | refine tw ?_ ?_ | exact trivial | refine side2 ?_ | refine sideL2 ?_ | refine Or.inr ?_ | refine sat_drawH (Tryz.ok ..) (by kernel_rfl) ?_ | refine xi _ (And.intro rfl rfl) ?_ | refine xi _ (fun _ => And.intro rfl rfl) ?_ | refine xi _ rfl ?_)
          (conv => whnf)
          intro g59 hg59
          repeat' ((conv => whnf); first | refine walk (Tryz.ok ..) ?_ | (refine Cnd.mk (fun h => ?_) (fun h => ?_) <;> (first | exact cndT h (by (try dsimp only); omega) | exact cndF h (by (try dsimp only); omega) | (exfalso; simp at h; omega) | simp at h | skip)) | refine kp ?_ ?_ | refine tw ?_ ?_ | exact trivial | refine side2 ?_ | refine sideL2 ?_ | refine Or.inr ?_ | refine sat_drawH (Tryz.ok ..) (by kernel_rfl) ?_ | refine xi _ (And.intro rfl rfl) ?_ | refine xi _ (fun _ => And.intro rfl rfl) ?_ | refine xi _ rfl ?_)
          (conv => whnf)
          intro A2 cap2
          repeat' ((conv => whnf); first | refine walk (Tryz.ok ..) ?_ | (refine Cnd.mk (fun h => ?_) (fun h => ?_) <;> (first | exact cndT h (by (try dsimp only); omega) | exact cndF h (by (try dsimp only); omega) | (exfalso; simp at h; omega) | simp at h | skip)) | refine kp ?_ ?_ | refine tw ?_ ?_ | exact trivial | refine side2 ?_ | refine sideL2 ?_ | refine Or.inr ?_ | refine sat_drawH (Tryz.ok ..) (by kernel_rfl) ?_ | refine xi _ (And.intro rfl rfl) ?_ | refine xi _ (fun _ => And.intro rfl rfl) ?_ | refine xi _ rfl ?_)
          refine sat_fuse 77 [77, 58] rfl fun w4 hw4 => ?_
          have h58 := weeks_blk hw4 (id := 58) (l := [⟨a, b⟩, ⟨c, c + 3⟩]) rfl rfl rfl rfl (by show 2 ≤ _; unfold maxLen; omega) rfl [77, 58] rfl
          have hsom2 := hsom.snoc_ hw4 [77, 58] 77 rfl rfl h58 (by show 2 ≤ 2; omega)
          refine sat_ops (Tryz.ok ..) ?_
          repeat' ((conv => whnf); first | refine walk (Tryz.ok ..) ?_ | (refine Cnd.mk (fun h => ?_) (fun h => ?_) <;> (first | exact cndT h (by (try dsimp only); omega) | exact cndF h (by (try dsimp only); omega) | (exfalso; simp at h; omega) | simp at h | skip)) | refine kp ?_ ?_ | refine tw ?_ ?_ | exact trivial | refine side2 ?_ | refine sideL2 ?_ | refine Or.inr ?_ | refine sat_drawH (Tryz.ok ..) (by kernel_rfl) ?_ | refine xi _ (And.intro rfl rfl) ?_ | refine xi _ (fun _ => And.intro rfl rfl) ?_ | refine xi _ rfl ?_)
          refine ⟨(j + 1, A2, cap2, xs ++ [.slice (some ⟨g58, 0, none⟩) 2 2], l ++ [[⟨a, b⟩, ⟨c, c + 3⟩]], w4, _), ⟨⟨by omega, hsom2⟩, by omega⟩, ?_, ?_, rfl⟩
          · dsimp only
            rw [List.length_append]
            ((repeat' (first | exact trivial | exact rfl | refine And.intro ?_ ?_)) <;> (try (conv => whnf)) <;> (try simp only [SV.real, SV.r2, SV.r1]))
          · dsimp only
            rw [List.length_append]
            ((repeat' (first | exact trivial | exact rfl | refine And.intro ?_ ?_)) <;> (try (conv => whnf)) <;> (try simp only [SV.real, SV.r2, SV.r1]))
        repeat' ((conv => whnf); first | refine walk (Tryz.ok ..) ?_ | (refine Cnd.mk (fun h => ?_) (fun h => ?_) <;> (first | exact cndT h (by (try dsimp only); omega) | exact cndF h (by (try dsimp only); omega) | (exfalso; simp at h; omega) | simp at h | skip)) | refine kp ?_ ?_ | refine tw ?_ ?_ | exact trivial | refine side2 ?_ | refine sideL2 ?_ | refine Or.inr ?_ | refine sat_drawH (Tryz.ok ..) (by kernel_rfl) ?_ | refine xi _ (And.intro rfl rfl) ?_ | refine xi _ (fun _ => And.intro rfl rfl) ?_ | refine xi _ rfl ?_ | refine xi _ (fun _ => cc) ?_ | refine xi _ cc ?_)
        refine sat_ops (Tryz.ok ..) ?_
        repeat' ((conv => whnf); first | refine walk (Tryz.ok ..) ?_ | (refine Cnd.mk (fun h => ?_) (fun h => ?_) <;> (first | exact cndT h (by (try dsimp only); omega) | exact cndF h (by (try dsimp only); omega) | (exfalso; simp at h; omega) | simp at h | skip)) | refine kp ?_ ?_ | refine tw ?_ ?_ | exact trivial | refine side2 ?_ | refine sideL2 ?_ | refine Or.inr ?_ | refine sat_drawH (Tryz.ok ..) (by kernel_rfl) ?_ | refine xi _ (And.intro rfl rfl) ?_ | refine xi _ (fun _ => And.intro rfl rfl) ?_ | refine xi _ rfl ?_)
        refine ⟨(j + 1, A, cap, xs, l, w1, gs), ⟨⟨by omega, hsom.mono (by omega)⟩, by omega⟩, ?_, ?_, rfl⟩
        all_goals ((repeat' (first | exact trivial | exact rfl | refine And.intro ?_ ?_)) <;> (try (conv => whnf)) <;> (try simp only [SV.real, SV.r2, SV.r1]))
      repeat' ((conv => whnf); first | refine walk (Tryz.ok ..) ?_ | (refine Cnd.mk (fun h => ?_) (fun h => ?_) <;> (first | exact cndT h (by (try dsimp only); omega) | exact cndF h (by (try dsimp only); omega) | (exfalso; simp at h; omega) | simp at h | skip)) | refine kp ?_ ?_ | refine tw ?_ ?_ | exact trivial | refine side2 ?_ | refine sideL2 ?_ | refine Or.inr ?_ | refine sat_drawH (Tryz.ok ..) (by kernel_rfl) ?_ | refine xi _ (And.intro rfl rfl) ?_ | refine xi _ (fun _ => And.intro rfl rfl) ?_ | refine xi _ rfl ?_)
      refine ⟨(k + 1, A, cap, xs, l, w1, gs), ⟨⟨by omega, hsom.mono (by omega)⟩, by omega⟩, ?_, ?_, rfl⟩
      all_goals ((repeat' (first | exact trivial | exact rfl | refine And.intro ?_ ?_)) <;> (try (conv => whnf)) <;> (try simp only [SV.real, SV.r2, SV.r1]))
    obtain rfl : k = 5 := by omega
    repeat' ((conv => whnf); first | refine walk (Tryz.ok ..) ?_ | (refine Cnd.mk (fun h => ?_) (fun h => ?_) <;> (first | exact cndT h (by (try dsimp only); omega) | exact cndF h (by (try dsimp only); omega) | (exfalso; simp at h; omega) | simp at h | skip)) | refine kp ?_ ?_ | refine tw ?_ ?_ | exact trivial | refine side2 ?_ | refine sideL2 ?_ | refine Or.inr ?_ | refine sat_drawH (Tryz.ok ..) (by kernel_rfl) ?_ | refine xi _ (And.intro rfl rfl) ?_ | refine xi _ (fun _ => And.intro rfl rfl) ?_ | refine xi _ rfl ?_)
    refine ⟨(i + 1, A, cap, xs, l, w1, gs), ⟨⟨by omega, hsom.mono (by omega)⟩, by omega⟩, ?_, ?_, rfl⟩
    all_goals ((repeat' (first | exact trivial | exact rfl | refine And.intro ?_ ?_)) <;> (try (conv => whnf)) <;> (try simp only [SV.real, SV.r2, SV.r1]))
  obtain rfl : i = 5 := by omega
  repeat' ((conv => whnf); first | refine walk (Tryz.ok ..) ?_ | (refine Cnd.mk (fun h => ?_) (fun h => ?_) <;> (first | exact cndT h (by (try dsimp only); omega) | exact cndF h (by (try dsimp only); omega) | (exfalso; simp at h; omega) | simp at h | skip)) | refine kp ?_ ?_ | refine tw ?_ ?_ | exact trivial | refine side2 ?_ | refine sideL2 ?_ | refine Or.inr ?_ | refine sat_drawH (Tryz.ok ..) (by kernel_rfl) ?_ | refine xi _ (And.intro rfl rfl) ?_ | refine xi _ (fun _ => And.intro rfl rfl) ?_ | refine xi _ rfl ?_)
  have hle : l.length ≤ 150 := hsom.few
  refine sat_loop (Tryz.ok ..) (α := Nat) (fun t => ([(0, .yes, .v (.bool false)), (1, .yes, .s 17 g13 0 0 5 5), (2, .yes, .o 300 A l.length cap), (64, .yes, .o 300 A l.length cap), (65, .yes, .v (.int .i64 l.length)), (66, .yes, .v (.int .i64 t))], [(17, .blk g13 3 (pts.map fun (n : Nat) => SV.v (.int .i64 n))), (300, .row A 26 1 l.length cap xs), (77, .own gs (Frz w1 gs))]))
    (fun t => t ≤ l.length) (fun t => l.length - t) (fun _ => rfl) ?_ ?_
  · refine ⟨0, Nat.zero_le _, ?_, ?_, rfl⟩
    all_goals ((repeat' (first | exact trivial | exact rfl | refine And.intro ?_ ?_)) <;> (try (conv => whnf)) <;> (try simp only [SV.real, SV.r2, SV.r1]))
  intro i hi
  by_cases hi2 : i < l.length
  · obtain ⟨s1, A1, c1, hs1, hc1, hx1, hro1, hB1⟩ := hsom.at_ hi2
    repeat' ((conv => whnf); first | refine walk (Tryz.ok ..) ?_ | (refine Cnd.mk (fun h => ?_) (fun h => ?_) <;> (first | exact cndT h (by (try dsimp only); omega) | exact cndF h (by (try dsimp only); omega) | (exfalso; simp at h; omega) | simp at h | skip)) | refine kp ?_ ?_ | refine tw ?_ ?_ | exact trivial | refine side2 ?_ | refine sideL2 ?_ | refine Or.inr ?_ | refine sat_drawH (Tryz.ok ..) (by kernel_rfl) ?_ | refine xi _ (And.intro rfl rfl) ?_ | refine xi _ (fun _ => And.intro rfl rfl) ?_ | refine xi _ rfl ?_ | refine xi _ (fun _ => hx1) ?_ | refine xi _ hx1 ?_)
    refine sat_loop (Tryz.ok ..) (α := Int) (fun k => ([(0, .yes, .v (.bool false)), (1, .yes, .s 17 g13 0 0 5 5), (2, .yes, .o 300 A l.length cap), (64, .yes, .o 300 A l.length cap), (65, .yes, .v (.int .i64 l.length)), (66, .yes, .v (.int .i64 i)), (9, .yes, .v (.int .i64 i)), (10, .yes, .v (.slice (adr A1) s1.length c1)), (11, .yes, .v (.int .i64 k))], [(17, .blk g13 3 (pts.map fun (n : Nat) => SV.v (.int .i64 n))), (300, .row A 26 1 l.length cap xs), (77, .own gs (Frz w1 gs))]))
      (fun k => 0 ≤ k ∧ k ≤ l.length + 5) (fun k => (l.length + 5 - k).toNat) (fun _ => rfl) ?_ ?_
    · refine ⟨(i : Int) % 5, by omega, ?_, ?_, rfl⟩
      all_goals ((repeat' (first | exact trivial | exact rfl | refine And.intro ?_ ?_)) <;> (try (conv => whnf)) <;> (try simp only [SV.real, SV.r2, SV.r1]))
    intro k hk
    by_cases hk2 : k < l.length
    · obtain ⟨k, rfl⟩ := Int.eq_ofNat_of_zero_le hk.1
      obtain ⟨s2, A2, c2, hs2, hc2, hx2, hro2, hB2⟩ := hsom.at_ (show k < l.length by omega)
      obtain ⟨pv, hpv, hpv2⟩ := pt_at (show k % 5 < 5 by omega)
      have cp := pt_cell hpv
      repeat' ((conv => whnf); first | refine walk (Tryz.ok ..) ?_ | (refine Cnd.mk (fun h => ?_) (fun h => ?_) <;> (first | exact cndT h (by (try dsimp only); omega) | exact cndF h (by (try dsimp only); omega) | (exfalso; simp at h; omega) | simp at h | skip)) | refine kp ?_ ?_ | refine tw ?_ ?_ | exact trivial | refine side2 ?_ | refine sideL2 ?_ | refine Or.inr ?_ | refine sat_drawH (Tryz.ok ..) (by kernel_rfl) ?_ | refine xi _ (And.intro rfl rfl) ?_ | refine xi _ (fun _ => And.intro rfl rfl) ?_ | refine xi _ rfl ?_ | refine xi _ (fun _ => hx2) ?_ | refine xi _ hx2 ?_)
      (conv => whnf)
      repeat' ((conv => whnf); first | refine walk (Tryz.ok ..) ?_ | (refine Cnd.mk (fun h => ?_) (fun h => ?_) <;> (first | exact cndT h (by (try dsimp only); omega) | exact cndF h (by (try dsimp only); omega) | (exfalso; simp at h; omega) | simp at h | skip)) | refine kp ?_ ?_ | refine tw ?_ ?_ | exact trivial | refine side2 ?_ | refine sideL2 ?_ | refine Or.inr ?_ | refine sat_drawH (Tryz.ok ..) (by kernel_rfl) ?_ | refine xi _ (And.intro rfl rfl) ?_ | refine xi _ (fun _ => And.intro rfl rfl) ?_ | refine xi _ rfl ?_)
      (conv => whnf)
      refine calledQ_at (.v (.bool true)) rfl (fun _ w' hh => tells_any hS s1 A1 c1 s2 A2 c2 _ _ _ w' (som_ro hro1 hB1 (d := 77) rfl hh) (som_ro hro2 hB2 (d := 77) rfl hh)) ?_
      repeat' ((conv => whnf); first | refine walk (Tryz.ok ..) ?_ | (refine Cnd.mk (fun h => ?_) (fun h => ?_) <;> (first | exact cndT h (by (try dsimp only); omega) | exact cndF h (by (try dsimp only); omega) | (exfalso; simp at h; omega) | simp at h | skip)) | refine kp ?_ ?_ | refine tw ?_ ?_ | exact trivial | refine side2 ?_ | refine sideL2 ?_ | refine Or.inr ?_ | refine sat_drawH (Tryz.ok ..) (by kernel_rfl) ?_ | refine xi _ (And.intro rfl rfl) ?_ | refine xi _ (fun _ => And.intro rfl rfl) ?_ | refine xi _ rfl ?_ | refine xi _ (fun _ => hx2) ?_ | refine xi _ hx2 ?_ | refine xi _ (fun _ => cp) ?_ | refine xi _ cp ?_)
      (conv => whnf)
      refine calledQ_at (.v (.bool true)) rfl (fun _ w' hh => tells_any hS s1 A1 c1 s2 A2 c2 _ _ _ w' (som_ro hro1 hB1 (d := 77) rfl hh) (som_ro hro2 hB2 (d := 77) rfl hh)) ?_
      repeat' ((conv => whnf); first | refine walk (Tryz.ok ..) ?_ | (refine Cnd.mk (fun h => ?_) (fun h => ?_) <;> (first | exact cndT h (by (try dsimp only); omega) | exact cndF h (by (try dsimp only); omega) | (exfalso; simp at h; omega) | simp at h | skip)) | refine kp ?_ ?_ | refine tw ?_ ?_ | exact trivial | refine side2 ?_ | refine sideL2 ?_ | refine Or.inr ?_ | refine sat_drawH (Tryz.ok ..) (by kernel_rfl) ?_ | refine xi _ (And.intro rfl rfl) ?_ | refine xi _ (fun _ => And.intro rfl rfl) ?_ | refine xi _ rfl ?_ | refine xi _ (fun _ => hx2) ?_ | refine xi _ hx2 ?_)
      (conv => whnf)
      refine calledQ_at (.v (.bool true)) rfl (fun _ w' hh => lists_any s1 A1 c1 s2 A2 c2 _ _ _ w' (som_ro hro1 hB1 (d := 77) rfl hh) (som_ro hro2 hB2 (d := 77) rfl hh)) ?_
      repeat' ((conv => whnf); first | refine walk (Tryz.ok ..) ?_ | (refine Cnd.mk (fun h => ?_) (fun h => ?_) <;> (first | exact cndT h (by (try dsimp only); omega) | exact cndF h (by (try dsimp only); omega) | (exfalso; simp at h; omega) | simp at h | skip)) | refine kp ?_ ?_ | refine tw ?_ ?_ | exact trivial | refine side2 ?_ | refine sideL2 ?_ | refine Or.inr ?_ | refine sat_drawH (Tryz.ok ..) (by kernel_rfl) ?_ | refine xi _ (And.intro rfl rfl) ?_ | refine xi _ (fun _ => And.intro rfl rfl) ?_ | refine xi _ rfl ?_)
      (conv => whnf)
      repeat' ((conv => whnf); first | refine walk (Tryz.ok ..) ?_ | (refine Cnd.mk (fun h => ?_) (fun h => ?_) <;> (first | exact cndT h (by (try dsimp only); omega) | exact cndF h (by (try dsimp only); omega) | (exfalso; simp at h; omega) | simp at h | skip)) | refine kp ?_ ?_ | refine tw ?_ ?_ | exact trivial | refine side2 ?_ | refine sideL2 ?_ | refine Or.inr ?_ | refine sat_drawH (Tryz.ok ..) (by kernel_rfl) ?_ | refine xi _ (And.intro rfl rfl) ?_ | refine xi _ (fun _ => And.intro rfl rfl) ?_ | refine xi _ rfl ?_)
      refine ⟨(k : Int) + 5, ⟨by omega, by omega⟩, ?_, ?_, rfl⟩
      all_goals ((repeat' (first | exact trivial | exact rfl | refine And.intro ?_ ?_)) <;> (try (conv => whnf)) <;> (try simp only [SV.real, SV.r2, SV.r1]))
    repeat' ((conv => whnf); first | refine walk (Tryz.ok ..) ?_ | (refine Cnd.mk (fun h => ?_) (fun h => ?_) <;> (first | exact cndT h (by (try dsimp only); omega) | exact cndF h (by (try dsimp only); omega) | (exfalso; simp at h; omega) | simp at h | skip)) | refine kp ?_ ?_ | refine tw ?_ ?_ | exact trivial | refine side2 ?_ | refine sideL2 ?_ | refine Or.inr ?_ | refine sat_drawH (Tryz.ok ..) (by kernel_rfl) ?_ | refine xi _ (And.intro rfl rfl) ?_ | refine xi _ (fun _ => And.intro rfl rfl) ?_ | refine xi _ rfl ?_)
    refine ⟨i + 1, ⟨by omega, by omega⟩, ?_, ?_, rfl⟩
    all_goals ((repeat' (first | exact trivial | exact rfl | refine And.intro ?_ ?_)) <;> (try (conv => whnf)) <;> (try simp only [SV.real, SV.r2, SV.r1]))
  obtain rfl : i = l.length := by omega
  repeat' ((conv => whnf); first | refine walk (Tryz.ok ..) ?_ | (refine Cnd.mk (fun h => ?_) (fun h => ?_) <;> (first | exact cndT h (by (try dsimp only); omega) | exact cndF h (by (try dsimp only); omega) | (exfalso; simp at h; omega) | simp at h | skip)) | refine kp ?_ ?_ | refine tw ?_ ?_ | exact trivial | refine side2 ?_ | refine sideL2 ?_ | refine Or.inr ?_ | refine sat_drawH (Tryz.ok ..) (by kernel_rfl) ?_ | refine xi _ (And.intro rfl rfl) ?_ | refine xi _ (fun _ => And.intro rfl rfl) ?_ | refine xi _ rfl ?_)
  (conv => whnf)
  intro g124 hg124
  repeat' ((conv => whnf); first | refine walk (Tryz.ok ..) ?_ | (refine Cnd.mk (fun h => ?_) (fun h => ?_) <;> (first | exact cndT h (by (try dsimp only); omega) | exact cndF h (by (try dsimp only); omega) | (exfalso; simp at h; omega) | simp at h | skip)) | refine kp ?_ ?_ | refine tw ?_ ?_ | exact trivial | refine side2 ?_ | refine sideL2 ?_ | refine Or.inr ?_ | refine sat_drawH (Tryz.ok ..) (by kernel_rfl) ?_ | refine xi _ (And.intro rfl rfl) ?_ | refine xi _ (fun _ => And.intro rfl rfl) ?_ | refine xi _ rfl ?_)
  clear hsom hle hi2 hi
  refine sat_loop (Tryz.ok ..) (α := Nat) (fun i => ([(0, .yes, .v (.bool false)), (12, .yes, .s 124 g124 0 0 12 12), (125, .yes, .s 124 g124 0 0 12 12), (126, .yes, .v (.int .i64 12)), (127, .yes, .v (.int .i64 i))], [(124, .blk g124 3 (lims.map fun n => SV.v (.int .i64 n)))]))
    (fun i => i ≤ 12) (fun i => 12 - i) (fun _ => rfl) ?_ ?_
  · refine ⟨0, Nat.zero_le _, ?_, ?_, rfl⟩
    all_goals ((repeat' (first | exact trivial | exact rfl | refine And.intro ?_ ?_)) <;> (try (conv => whnf)) <;> (try simp only [SV.real, SV.r2, SV.r1]))
  intro i hi
  by_cases hi2 : i < 12
  · obtain ⟨a, ha⟩ : ∃ a, lims[i]? = some a := ⟨_, List.getElem?_eq_getElem hi2⟩
    have ca := lim_cell ha
    repeat' ((conv => whnf); first | refine walk (Tryz.ok ..) ?_ | (refine Cnd.mk (fun h => ?_) (fun h => ?_) <;> (first | exact cndT h (by (try dsimp only); omega) | exact cndF h (by (try dsimp only); omega) | (exfalso; simp at h; omega) | simp at h | skip)) | refine kp ?_ ?_ | refine tw ?_ ?_ | exact trivial | refine side2 ?_ | refine sideL2 ?_ | refine Or.inr ?_ | refine sat_drawH (Tryz.ok ..) (by kernel_rfl) ?_ | refine xi _ (And.intro rfl rfl) ?_ | refine xi _ (fun _ => And.intro rfl rfl) ?_ | refine xi _ rfl ?_ | refine xi _ (fun _ => ca) ?_ | refine xi _ ca ?_)
    refine sat_loop (Tryz.ok ..) (α := Nat) (fun j => ([(0, .yes, .v (.bool false)), (12, .yes, .s 124 g124 0 0 12 12), (125, .yes, .s 124 g124 0 0 12 12), (126, .yes, .v (.int .i64 12)), (127, .yes, .v (.int .i64 i)), (14, .yes, .v (.int .i64 a)), (131, .yes, .s 124 g124 0 0 12 12), (132, .yes, .v (.int .i64 12)), (133, .yes, .v (.int .i64 j))], [(124, .blk g124 3 (lims.map fun n => SV.v (.int .i64 n)))]))
      (fun j => j ≤ 12) (fun j => 12 - j) (fun _ => rfl) ?_ ?_
    · refine ⟨0, Nat.zero_le _, ?_, ?_, rfl⟩
      all_goals ((repeat' (first | exact trivial | exact rfl | refine And.intro ?_ ?_)) <;> (try (conv => whnf)) <;> (try simp only [SV.real, SV.r2, SV.r1]))
    intro j hj
    by_cases hj2 : j < 12
    · obtain ⟨b, hb⟩ : ∃ a, lims[j]? = some a := ⟨_, List.getElem?_eq_getElem hj2⟩
      have cb := lim_cell hb
      by_cases hb62 : b < 4611686018427387904
      · repeat' ((conv => whnf); first | ((with_reducible refine Or.inr (Cnd.mk (fun _ => ?_) (fun h => absurd hb62 (of_decide_eq_false h))))) | refine walk (Tryz.ok ..) ?_ | (refine Cnd.mk (fun h => ?_) (fun h => ?_) <;> (first | exact cndT h (by (try dsimp only); omega) | exact cndF h (by (try dsimp only); omega) | (exfalso; simp at h; omega) | simp at h | skip)) | refine kp ?_ ?_ | refine tw ?_ ?_ | exact trivial | refine side2 ?_ | (with_reducible refine Or.inr (Cnd.mk (fun _ => ?_) (fun h => absurd (of_decide_eq_false h) (by omega)))) | (with_reducible refine Or.inr (Cnd.mk (fun _ => ?_) (fun h => absurd h (by simp)))) | refine sideL2 ?_ | refine Or.inr ?_ | refine sat_drawH (Tryz.ok ..) (by kernel_rfl) ?_ | refine xi _ (And.intro rfl rfl) ?_ | refine xi _ (fun _ => And.intro rfl rfl) ?_ | refine xi _ rfl ?_ | refine xi _ (fun _ => cb) ?_ | refine xi _ cb ?_)
        (conv => whnf)
        refine called_row2 400 401 (m1 := 5) (m2 := 1) (xs1 := sps portW) (xs2 := sps portC) (fun v u => .agg #[v, u]) (fun A c A' c' => .a [.o 400 A 5 c, .o 401 A' 1 c']) (fun _ _ _ _ => rfl) (fun w' hh => port_any w') ?_
        intro A1 c1 A2 c2
        repeat' ((conv => whnf); first | refine walk (Tryz.ok ..) ?_ | (refine Cnd.mk (fun h => ?_) (fun h => ?_) <;> (first | exact cndT h (by (try dsimp only); omega) | exact cndF h (by (try dsimp only); omega) | (exfalso; simp at h; omega) | simp at h | skip)) | refine kp ?_ ?_ | refine tw ?_ ?_ | exact trivial | refine side2 ?_ | refine sideL2 ?_ | refine Or.inr ?_ | refine sat_drawH (Tryz.ok ..) (by kernel_rfl) ?_ | refine xi _ (And.intro rfl rfl) ?_ | refine xi _ (fun _ => And.intro rfl rfl) ?_ | refine xi _ rfl ?_)
        (conv => whnf)
        repeat' ((conv => whnf); first | refine walk (Tryz.ok ..) ?_ | (refine Cnd.mk (fun h => ?_) (fun h => ?_) <;> (first | exact cndT h (by (try dsimp only); omega) | exact cndF h (by (try dsimp only); omega) | (exfalso; simp at h; omega) | simp at h | skip)) | refine kp ?_ ?_ | refine tw ?_ ?_ | exact trivial | refine side2 ?_ | refine sideL2 ?_ | refine Or.inr ?_ | refine sat_drawH (Tryz.ok ..) (by kernel_rfl) ?_ | refine xi _ (And.intro rfl rfl) ?_ | refine xi _ (fun _ => And.intro rfl rfl) ?_ | refine xi _ rfl ?_)
        (conv => whnf)
        refine calledQ_at (.v (.bool true)) rfl (fun _ w' hh => tells_any hS portW A1 c1 portC A2 c2 _ _ _ w' (ro_of_row hh (id := 400) rfl) (ro_of_row hh (id := 401) rfl)) ?_
        repeat' ((conv => whnf); first | refine walk (Tryz.ok ..) ?_ | (refine Cnd.mk (fun h => ?_) (fun h => ?_) <;> (first | exact cndT h (by (try dsimp only); omega) | exact cndF h (by (try dsimp only); omega) | (exfalso; simp at h; omega) | simp at h | skip)) | refine kp ?_ ?_ | refine tw ?_ ?_ | exact trivial | refine side2 ?_ | (with_reducible refine Or.inr (Cnd.mk (fun _ => ?_) (fun h => absurd (of_decide_eq_false h) (by omega)))) | (with_reducible refine Or.inr (Cnd.mk (fun _ => ?_) (fun h => absurd h (by simp)))) | refine sideL2 ?_ | refine Or.inr ?_ | refine sat_drawH (Tryz.ok ..) (by kernel_rfl) ?_ | refine xi _ (And.intro rfl rfl) ?_ | refine xi _ (fun _ => And.intro rfl rfl) ?_ | refine xi _ rfl ?_)
        (conv => whnf)
        intro g152 hg152
        repeat' ((conv => whnf); first | refine walk (Tryz.ok ..) ?_ | (refine Cnd.mk (fun h => ?_) (fun h => ?_) <;> (first | exact cndT h (by (try dsimp only); omega) | exact cndF h (by (try dsimp only); omega) | (exfalso; simp at h; omega) | simp at h | skip)) | refine kp ?_ ?_ | refine tw ?_ ?_ | exact trivial | refine side2 ?_ | refine sideL2 ?_ | refine Or.inr ?_ | refine sat_drawH (Tryz.ok ..) (by kernel_rfl) ?_ | refine xi _ (And.intro rfl rfl) ?_ | refine xi _ (fun _ => And.intro rfl rfl) ?_ | refine xi _ rfl ?_)
        (conv => whnf)
        intro g156 hg156
        repeat' ((conv => whnf); first | refine walk (Tryz.ok ..) ?_ | (refine Cnd.mk (fun h => ?_) (fun h => ?_) <;> (first | exact cndT h (by (try dsimp only); omega) | exact cndF h (by (try dsimp only); omega) | (exfalso; simp at h; omega) | simp at h | skip)) | refine kp ?_ ?_ | refine tw ?_ ?_ | exact trivial | refine side2 ?_ | refine sideL2 ?_ | refine Or.inr ?_ | refine sat_drawH (Tryz.ok ..) (by kernel_rfl) ?_ | refine xi _ (And.intro rfl rfl) ?_ | refine xi _ (fun _ => And.intro rfl rfl) ?_ | refine xi _ rfl ?_)
        (conv => whnf)
        refine calledQ_at (.v (.bool true)) rfl (fun _ w' hh => lists_any [⟨0, 100000000⟩] (some (g152, 0)) 1 [⟨a, b⟩] (some (g156, 0)) 1 _ _ _ w' (ro_of_blk hh (id := 152) rfl 0 1 2 (by show 0 + 1 * 2 ≤ 2; omega)) (ro_of_blk hh (id := 156) rfl 0 1 2 (by show 0 + 1 * 2 ≤ 2; omega))) ?_
        repeat' ((conv => whnf); first | refine walk (Tryz.ok ..) ?_ | (refine Cnd.mk (fun h => ?_) (fun h => ?_) <;> (first | exact cndT h (by (try dsimp only); omega) | exact cndF h (by (try dsimp only); omega) | (exfalso; simp at h; omega) | simp at h | skip)) | refine kp ?_ ?_ | refine tw ?_ ?_ | exact trivial | refine side2 ?_ | (with_reducible refine Or.inr (Cnd.mk (fun _ => ?_) (fun h => absurd (of_decide_eq_false h) (by omega)))) | (with_reducible refine Or.inr (Cnd.mk (fun _ => ?_) (fun h => absurd h (by simp)))) | refine sideL2 ?_ | refine Or.inr ?_ | refine sat_drawH (Tryz.ok ..) (by kernel_rfl) ?_ | refine xi _ (And.intro rfl rfl) ?_ | refine xi _ (fun _ => And.intro rfl rfl) ?_ | refine xi _ rfl ?_)
        (conv => whnf)
        refine called_row2 402 403 (m1 := 5) (m2 := 1) (xs1 := sps portW) (xs2 := sps portC) (fun v u => .agg #[v, u]) (fun A c A' c' => .a [.o 402 A 5 c, .o 403 A' 1 c']) (fun _ _ _ _ => rfl) (fun w' hh => port_any w') ?_
        intro A3 c3 A4 c4
        repeat' ((conv => whnf); first | refine walk (Tryz.ok ..) ?_ | (refine Cnd.mk (fun h => ?_) (fun h => ?_) <;> (first | exact cndT h (by (try dsimp only); omega) | exact cndF h (by (try dsimp only); omega) | (exfalso; simp at h; omega) | simp at h | skip)) | refine kp ?_ ?_ | refine tw ?_ ?_ | exact trivial | refine side2 ?_ | refine sideL2 ?_ | refine Or.inr ?_ | refine sat_drawH (Tryz.ok ..) (by kernel_rfl) ?_ | refine xi _ (And.intro rfl rfl) ?_ | refine xi _ (fun _ => And.intro rfl rfl) ?_ | refine xi _ rfl ?_)
        (conv => whnf)
        refine calledQ_at (.v (.bool true)) rfl (fun _ w' hh => lists_any portW A3 c3 [] none 0 _ _ _ w' (ro_of_row hh (id := 402) rfl) (Ro.nil_ _ _ _)) ?_
        repeat' ((conv => whnf); first | refine walk (Tryz.ok ..) ?_ | (refine Cnd.mk (fun h => ?_) (fun h => ?_) <;> (first | exact cndT h (by (try dsimp only); omega) | exact cndF h (by (try dsimp only); omega) | (exfalso; simp at h; omega) | simp at h | skip)) | refine kp ?_ ?_ | refine tw ?_ ?_ | exact trivial | refine side2 ?_ | refine sideL2 ?_ | refine Or.inr ?_ | refine sat_drawH (Tryz.ok ..) (by kernel_rfl) ?_ | refine xi _ (And.intro rfl rfl) ?_ | refine xi _ (fun _ => And.intro rfl rfl) ?_ | refine xi _ rfl ?_)
        (conv => whnf)
        refine calledQ_at (.v (.bool true)) rfl (fun _ w' hh => texts_any _ _ w' (by decide) (hw.at_ rfl rfl hh)) ?_
        repeat' ((conv => whnf); first | refine walk (Tryz.ok ..) ?_ | (refine Cnd.mk (fun h => ?_) (fun h => ?_) <;> (first | exact cndT h (by (try dsimp only); omega) | exact cndF h (by (try dsimp only); omega) | (exfalso; simp at h; omega) | simp at h | skip)) | refine kp ?_ ?_ | refine tw ?_ ?_ | exact trivial | refine side2 ?_ | refine sideL2 ?_ | refine Or.inr ?_ | refine sat_drawH (Tryz.ok ..) (by kernel_rfl) ?_ | refine xi _ (And.intro rfl rfl) ?_ | refine xi _ (fun _ => And.intro rfl rfl) ?_ | refine xi _ rfl ?_)
        (conv => whnf)
        refine called_at (.v (.bool true)) rfl (fun w' hh => tides_any ⟨a, 20160, 1, 1, 0⟩ b 0 30000 w' (lim_le hb)) ?_
        repeat' ((conv => whnf); first | refine walk (Tryz.ok ..) ?_ | (refine Cnd.mk (fun h => ?_) (fun h => ?_) <;> (first | exact cndT h (by (try dsimp only); omega) | exact cndF h (by (try dsimp only); omega) | (exfalso; simp at h; omega) | simp at h | skip)) | refine kp ?_ ?_ | refine tw ?_ ?_ | exact trivial | refine side2 ?_ | refine sideL2 ?_ | refine Or.inr ?_ | refine sat_drawH (Tryz.ok ..) (by kernel_rfl) ?_ | refine xi _ (And.intro rfl rfl) ?_ | refine xi _ (fun _ => And.intro rfl rfl) ?_ | refine xi _ rfl ?_)
        (conv => whnf)
        refine calledQ_at (.v (.bool true)) rfl (fun _ w' hh => tides_any ⟨0, a, 3, 1, 2⟩ 7 0 90 w' (by decide)) ?_
        repeat' ((conv => whnf); first | refine walk (Tryz.ok ..) ?_ | (refine Cnd.mk (fun h => ?_) (fun h => ?_) <;> (first | exact cndT h (by (try dsimp only); omega) | exact cndF h (by (try dsimp only); omega) | (exfalso; simp at h; omega) | simp at h | skip)) | refine kp ?_ ?_ | refine tw ?_ ?_ | exact trivial | refine side2 ?_ | refine sideL2 ?_ | refine Or.inr ?_ | refine sat_drawH (Tryz.ok ..) (by kernel_rfl) ?_ | refine xi _ (And.intro rfl rfl) ?_ | refine xi _ (fun _ => And.intro rfl rfl) ?_ | refine xi _ rfl ?_)
        (conv => whnf)
        refine calledQ_at (.v (.bool true)) rfl (fun _ w' hh => tides_any ⟨0, 9999, 4, a, b⟩ 5 100 9000 w' (by decide)) ?_
        repeat' ((conv => whnf); first | refine walk (Tryz.ok ..) ?_ | (refine Cnd.mk (fun h => ?_) (fun h => ?_) <;> (first | exact cndT h (by (try dsimp only); omega) | exact cndF h (by (try dsimp only); omega) | (exfalso; simp at h; omega) | simp at h | skip)) | refine kp ?_ ?_ | refine tw ?_ ?_ | exact trivial | refine side2 ?_ | refine sideL2 ?_ | refine Or.inr ?_ | refine sat_drawH (Tryz.ok ..) (by kernel_rfl) ?_ | refine xi _ (And.intro rfl rfl) ?_ | refine xi _ (fun _ => And.intro rfl rfl) ?_ | refine xi _ rfl ?_)
        (conv => whnf)
        refine calledQ_at (.v (.bool true)) rfl (fun _ w' hh => tides_any ⟨0, 1000, a, 0, 1⟩ 999 50 60 w' (by decide)) ?_
        repeat' ((conv => whnf); first | refine walk (Tryz.ok ..) ?_ | (refine Cnd.mk (fun h => ?_) (fun h => ?_) <;> (first | exact cndT h (by (try dsimp only); omega) | exact cndF h (by (try dsimp only); omega) | (exfalso; simp at h; omega) | simp at h | skip)) | refine kp ?_ ?_ | refine tw ?_ ?_ | exact trivial | refine side2 ?_ | refine sideL2 ?_ | refine Or.inr ?_ | refine sat_drawH (Tryz.ok ..) (by kernel_rfl) ?_ | refine xi _ (And.intro rfl rfl) ?_ | refine xi _ (fun _ => And.intro rfl rfl) ?_ | refine xi _ rfl ?_)
        refine ⟨j + 1, ⟨by omega, by omega⟩, ?_, ?_, rfl⟩
        all_goals ((repeat' (first | exact trivial | exact rfl | refine And.intro ?_ ?_)) <;> (try (conv => whnf)) <;> (try simp only [SV.real, SV.r2, SV.r1]))
      · repeat' ((conv => whnf); first | refine walk (Tryz.ok ..) ?_ | (refine Cnd.mk (fun h => ?_) (fun h => ?_) <;> (first | exact cndT h (by (try dsimp only); omega) | exact cndF h (by (try dsimp only); omega) | (exfalso; simp at h; omega) | simp at h | skip)) | refine kp ?_ ?_ | refine tw ?_ ?_ | exact trivial | refine side2 ?_ | refine sideL2 ?_ | refine Or.inr ?_ | refine sat_drawH (Tryz.ok ..) (by kernel_rfl) ?_ | refine xi _ (And.intro rfl rfl) ?_ | refine xi _ (fun _ => And.intro rfl rfl) ?_ | refine xi _ rfl ?_ | refine xi _ (fun _ => cb) ?_ | refine xi _ cb ?_)
        simp only [show decide (b < 4611686018427387904) = false from decide_eq_false hb62]
        (conv => whnf)
        refine calledQ_at (.v (.bool true)) rfl (fun h _ _ => absurd h Bool.false_ne_true) ?_
        repeat' ((conv => whnf); first | refine walk (Tryz.ok ..) ?_ | (refine Cnd.mk (fun h => ?_) (fun h => ?_) <;> (first | exact cndT h (by (try dsimp only); omega) | exact cndF h (by (try dsimp only); omega) | (exfalso; simp at h; omega) | simp at h | skip)) | refine kp ?_ ?_ | refine tw ?_ ?_ | exact trivial | refine side2 ?_ | (with_reducible refine Or.inr (Cnd.mk (fun _ => ?_) (fun h => absurd (of_decide_eq_false h) (by omega)))) | (with_reducible refine Or.inr (Cnd.mk (fun _ => ?_) (fun h => absurd h (by simp)))) | refine sideL2 ?_ | refine Or.inr ?_ | refine sat_drawH (Tryz.ok ..) (by kernel_rfl) ?_ | refine xi _ (And.intro rfl rfl) ?_ | refine xi _ (fun _ => And.intro rfl rfl) ?_ | refine xi _ rfl ?_)
        (conv => whnf)
        intro g152 hg152
        repeat' ((conv => whnf); first | refine walk (Tryz.ok ..) ?_ | (refine Cnd.mk (fun h => ?_) (fun h => ?_) <;> (first | exact cndT h (by (try dsimp only); omega) | exact cndF h (by (try dsimp only); omega) | (exfalso; simp at h; omega) | simp at h | skip)) | refine kp ?_ ?_ | refine tw ?_ ?_ | exact trivial | refine side2 ?_ | refine sideL2 ?_ | refine Or.inr ?_ | refine sat_drawH (Tryz.ok ..) (by kernel_rfl) ?_ | refine xi _ (And.intro rfl rfl) ?_ | refine xi _ (fun _ => And.intro rfl rfl) ?_ | refine xi _ rfl ?_)
        (conv => whnf)
        intro g156 hg156
        repeat' ((conv => whnf); first | refine walk (Tryz.ok ..) ?_ | (refine Cnd.mk (fun h => ?_) (fun h => ?_) <;> (first | exact cndT h (by (try dsimp only); omega) | exact cndF h (by (try dsimp only); omega) | (exfalso; simp at h; omega) | simp at h | skip)) | refine kp ?_ ?_ | refine tw ?_ ?_ | exact trivial | refine side2 ?_ | refine sideL2 ?_ | refine Or.inr ?_ | refine sat_drawH (Tryz.ok ..) (by kernel_rfl) ?_ | refine xi _ (And.intro rfl rfl) ?_ | refine xi _ (fun _ => And.intro rfl rfl) ?_ | refine xi _ rfl ?_)
        (conv => whnf)
        refine calledQ_at (.v (.bool true)) rfl (fun _ w' hh => lists_any [⟨0, 100000000⟩] (some (g152, 0)) 1 [⟨a, b⟩] (some (g156, 0)) 1 _ _ _ w' (ro_of_blk hh (id := 152) rfl 0 1 2 (by show 0 + 1 * 2 ≤ 2; omega)) (ro_of_blk hh (id := 156) rfl 0 1 2 (by show 0 + 1 * 2 ≤ 2; omega))) ?_
        repeat' ((conv => whnf); first | refine walk (Tryz.ok ..) ?_ | (refine Cnd.mk (fun h => ?_) (fun h => ?_) <;> (first | exact cndT h (by (try dsimp only); omega) | exact cndF h (by (try dsimp only); omega) | (exfalso; simp at h; omega) | simp at h | skip)) | refine kp ?_ ?_ | refine tw ?_ ?_ | exact trivial | refine side2 ?_ | (with_reducible refine Or.inr (Cnd.mk (fun _ => ?_) (fun h => absurd (of_decide_eq_false h) (by omega)))) | (with_reducible refine Or.inr (Cnd.mk (fun _ => ?_) (fun h => absurd h (by simp)))) | refine sideL2 ?_ | refine Or.inr ?_ | refine sat_drawH (Tryz.ok ..) (by kernel_rfl) ?_ | refine xi _ (And.intro rfl rfl) ?_ | refine xi _ (fun _ => And.intro rfl rfl) ?_ | refine xi _ rfl ?_)
        (conv => whnf)
        refine called_row2 402 403 (m1 := 5) (m2 := 1) (xs1 := sps portW) (xs2 := sps portC) (fun v u => .agg #[v, u]) (fun A c A' c' => .a [.o 402 A 5 c, .o 403 A' 1 c']) (fun _ _ _ _ => rfl) (fun w' hh => port_any w') ?_
        intro A3 c3 A4 c4
        repeat' ((conv => whnf); first | refine walk (Tryz.ok ..) ?_ | (refine Cnd.mk (fun h => ?_) (fun h => ?_) <;> (first | exact cndT h (by (try dsimp only); omega) | exact cndF h (by (try dsimp only); omega) | (exfalso; simp at h; omega) | simp at h | skip)) | refine kp ?_ ?_ | refine tw ?_ ?_ | exact trivial | refine side2 ?_ | refine sideL2 ?_ | refine Or.inr ?_ | refine sat_drawH (Tryz.ok ..) (by kernel_rfl) ?_ | refine xi _ (And.intro rfl rfl) ?_ | refine xi _ (fun _ => And.intro rfl rfl) ?_ | refine xi _ rfl ?_)
        (conv => whnf)
        refine calledQ_at (.v (.bool true)) rfl (fun _ w' hh => lists_any portW A3 c3 [] none 0 _ _ _ w' (ro_of_row hh (id := 402) rfl) (Ro.nil_ _ _ _)) ?_
        repeat' ((conv => whnf); first | refine walk (Tryz.ok ..) ?_ | (refine Cnd.mk (fun h => ?_) (fun h => ?_) <;> (first | exact cndT h (by (try dsimp only); omega) | exact cndF h (by (try dsimp only); omega) | (exfalso; simp at h; omega) | simp at h | skip)) | refine kp ?_ ?_ | refine tw ?_ ?_ | exact trivial | refine side2 ?_ | refine sideL2 ?_ | refine Or.inr ?_ | refine sat_drawH (Tryz.ok ..) (by kernel_rfl) ?_ | refine xi _ (And.intro rfl rfl) ?_ | refine xi _ (fun _ => And.intro rfl rfl) ?_ | refine xi _ rfl ?_)
        (conv => whnf)
        refine calledQ_at (.v (.bool true)) rfl (fun _ w' hh => texts_any _ _ w' (by decide) (hw.at_ rfl rfl hh)) ?_
        repeat' ((conv => whnf); first | refine walk (Tryz.ok ..) ?_ | (refine Cnd.mk (fun h => ?_) (fun h => ?_) <;> (first | exact cndT h (by (try dsimp only); omega) | exact cndF h (by (try dsimp only); omega) | (exfalso; simp at h; omega) | simp at h | skip)) | refine kp ?_ ?_ | refine tw ?_ ?_ | exact trivial | refine side2 ?_ | refine sideL2 ?_ | refine Or.inr ?_ | refine sat_drawH (Tryz.ok ..) (by kernel_rfl) ?_ | refine xi _ (And.intro rfl rfl) ?_ | refine xi _ (fun _ => And.intro rfl rfl) ?_ | refine xi _ rfl ?_)
        (conv => whnf)
        refine called_at (.v (.bool true)) rfl (fun w' hh => tides_any ⟨a, 20160, 1, 1, 0⟩ b 0 30000 w' (lim_le hb)) ?_
        repeat' ((conv => whnf); first | refine walk (Tryz.ok ..) ?_ | (refine Cnd.mk (fun h => ?_) (fun h => ?_) <;> (first | exact cndT h (by (try dsimp only); omega) | exact cndF h (by (try dsimp only); omega) | (exfalso; simp at h; omega) | simp at h | skip)) | refine kp ?_ ?_ | refine tw ?_ ?_ | exact trivial | refine side2 ?_ | refine sideL2 ?_ | refine Or.inr ?_ | refine sat_drawH (Tryz.ok ..) (by kernel_rfl) ?_ | refine xi _ (And.intro rfl rfl) ?_ | refine xi _ (fun _ => And.intro rfl rfl) ?_ | refine xi _ rfl ?_)
        (conv => whnf)
        refine calledQ_at (.v (.bool true)) rfl (fun _ w' hh => tides_any ⟨0, a, 3, 1, 2⟩ 7 0 90 w' (by decide)) ?_
        repeat' ((conv => whnf); first | refine walk (Tryz.ok ..) ?_ | (refine Cnd.mk (fun h => ?_) (fun h => ?_) <;> (first | exact cndT h (by (try dsimp only); omega) | exact cndF h (by (try dsimp only); omega) | (exfalso; simp at h; omega) | simp at h | skip)) | refine kp ?_ ?_ | refine tw ?_ ?_ | exact trivial | refine side2 ?_ | refine sideL2 ?_ | refine Or.inr ?_ | refine sat_drawH (Tryz.ok ..) (by kernel_rfl) ?_ | refine xi _ (And.intro rfl rfl) ?_ | refine xi _ (fun _ => And.intro rfl rfl) ?_ | refine xi _ rfl ?_)
        (conv => whnf)
        refine calledQ_at (.v (.bool true)) rfl (fun _ w' hh => tides_any ⟨0, 9999, 4, a, b⟩ 5 100 9000 w' (by decide)) ?_
        repeat' ((conv => whnf); first | refine walk (Tryz.ok ..) ?_ | (refine Cnd.mk (fun h => ?_) (fun h => ?_) <;> (first | exact cndT h (by (try dsimp only); omega) | exact cndF h (by (try dsimp only); omega) | (exfalso; simp at h; omega) | simp at h | skip)) | refine kp ?_ ?_ | refine tw ?_ ?_ | exact trivial | refine side2 ?_ | refine sideL2 ?_ | refine Or.inr ?_ | refine sat_drawH (Tryz.ok ..) (by kernel_rfl) ?_ | refine xi _ (And.intro rfl rfl) ?_ | refine xi _ (fun _ => And.intro rfl rfl) ?_ | refine xi _ rfl ?_)
        (conv => whnf)
        refine calledQ_at (.v (.bool true)) rfl (fun _ w' hh => tides_any ⟨0, 1000, a, 0, 1⟩ 999 50 60 w' (by decide)) ?_
        repeat' ((conv => whnf); first | refine walk (Tryz.ok ..) ?_ | (refine Cnd.mk (fun h => ?_) (fun h => ?_) <;> (first | exact cndT h (by (try dsimp only); omega) | exact cndF h (by (try dsimp only); omega) | (exfalso; simp at h; omega) | simp at h | skip)) | refine kp ?_ ?_ | refine tw ?_ ?_ | exact trivial | refine side2 ?_ | refine sideL2 ?_ | refine Or.inr ?_ | refine sat_drawH (Tryz.ok ..) (by kernel_rfl) ?_ | refine xi _ (And.intro rfl rfl) ?_ | refine xi _ (fun _ => And.intro rfl rfl) ?_ | refine xi _ rfl ?_)
        refine ⟨j + 1, ⟨by omega, by omega⟩, ?_, ?_, rfl⟩
        all_goals ((repeat' (first | exact trivial | exact rfl | refine And.intro ?_ ?_)) <;> (try (conv => whnf)) <;> (try simp only [SV.real, SV.r2, SV.r1]))
    repeat' ((conv => whnf); first | refine walk (Tryz.ok ..) ?_ | (refine Cnd.mk (fun h => ?_) (fun h => ?_) <;> (first | exact cndT h (by (try dsimp only); omega) | exact cndF h (by (try dsimp only); omega) | (exfalso; simp at h; omega) | simp at h | skip)) | refine kp ?_ ?_ | refine tw ?_ ?_ | exact trivial | refine side2 ?_ | refine sideL2 ?_ | refine Or.inr ?_ | refine sat_drawH (Tryz.ok ..) (by kernel_rfl) ?_ | refine xi _ (And.intro rfl rfl) ?_ | refine xi _ (fun _ => And.intro rfl rfl) ?_ | refine xi _ rfl ?_)
    refine ⟨i + 1, ⟨by omega, by omega⟩, ?_, ?_, rfl⟩
    all_goals ((repeat' (first | exact trivial | exact rfl | refine And.intro ?_ ?_)) <;> (try (conv => whnf)) <;> (try simp only [SV.real, SV.r2, SV.r1]))
  obtain rfl : i = 12 := by omega
  repeat' ((conv => whnf); first | refine walk (Tryz.ok ..) ?_ | (refine Cnd.mk (fun h => ?_) (fun h => ?_) <;> (first | exact cndT h (by (try dsimp only); omega) | exact cndF h (by (try dsimp only); omega) | (exfalso; simp at h; omega) | simp at h | skip)) | refine kp ?_ ?_ | refine tw ?_ ?_ | exact trivial | refine side2 ?_ | refine sideL2 ?_ | refine Or.inr ?_ | refine sat_drawH (Tryz.ok ..) (by kernel_rfl) ?_ | refine xi _ (And.intro rfl rfl) ?_ | refine xi _ (fun _ => And.intro rfl rfl) ?_ | refine xi _ rfl ?_)
  (conv => whnf)
  refine called_at (.v (.bool true)) rfl (fun w' hh => spoilt_any w' (hw.at_ rfl rfl hh)) ?_
  repeat' ((conv => whnf); first | refine walk (Tryz.ok ..) ?_ | (refine Cnd.mk (fun h => ?_) (fun h => ?_) <;> (first | exact cndT h (by (try dsimp only); omega) | exact cndF h (by (try dsimp only); omega) | (exfalso; simp at h; omega) | simp at h | skip)) | refine kp ?_ ?_ | refine tw ?_ ?_ | exact trivial | refine side2 ?_ | refine sideL2 ?_ | refine Or.inr ?_ | refine sat_drawH (Tryz.ok ..) (by kernel_rfl) ?_ | refine xi _ (And.intro rfl rfl) ?_ | refine xi _ (fun _ => And.intro rfl rfl) ?_ | refine xi _ rfl ?_)
  (conv => whnf)
  refine called_at (.v (.bool true)) rfl (fun w' hh => ends_any hS w' (hw.at_ rfl rfl hh)) ?_
  repeat' ((conv => whnf); first | refine walk (Tryz.ok ..) ?_ | (refine Cnd.mk (fun h => ?_) (fun h => ?_) <;> (first | exact cndT h (by (try dsimp only); omega) | exact cndF h (by (try dsimp only); omega) | (exfalso; simp at h; omega) | simp at h | skip)) | refine kp ?_ ?_ | refine tw ?_ ?_ | exact trivial | refine side2 ?_ | refine sideL2 ?_ | refine Or.inr ?_ | refine sat_drawH (Tryz.ok ..) (by kernel_rfl) ?_ | refine xi _ (And.intro rfl rfl) ?_ | refine xi _ (fun _ => And.intro rfl rfl) ?_ | refine xi _ rfl ?_)
  exact done_pure rfl rfl (congrArg Value.bool (by simp))
end Go.Proofs.YtmhfkmnpeponiaaGreatDoor
