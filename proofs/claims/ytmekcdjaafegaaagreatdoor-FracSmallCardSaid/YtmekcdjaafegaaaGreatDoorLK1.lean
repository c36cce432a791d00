/-
  The law FracSmall but for its two parts, walked.
-/
import Derived.Test.YtmekcdjaafegaaaGreatDoorLS
import Derived.Test.YtmekcdjaafegaaaGreatDoorLE
namespace Go.Proofs.YtmekcdjaafegaaaGreatDoor
open Go Sat Go.RowKit Go.PlainAid
set_option linter.unusedSimpArgs false
set_option linter.unusedVariables false
theorem frL_app (l : List Fr) (f : Fr) : frL (l ++ [f]) = frL l ++ frW f := by
  unfold frL
  rw [List.flatMap_append]
  simp
theorem frL_app' (l : List Fr) (f : Fr) : frL (l ++ [f]) = frL l ++ (frC f).map SV.r1 := frL_app l f
theorem fr_cells2 {l : List Fr} {d k : Nat} {f : Fr} (h : l[d + k]? = some f) : (frW f).length = 17 ∧ ∀ j, j < 17 → (frL l)[mulS (d : Int).toNat 17 + mulS (k : Int).toNat 17 + j]? = (frW f)[j]? := by
  have := fr_cells h (i := ((d + k : Nat) : Int)) rfl
  rw [mulS_eq, mulS_eq] at *
  rw [Int.toNat_natCast] at *
  rw [Int.toNat_natCast, ← Nat.add_mul]
  exact this
theorem frL_cut (l : List Fr) (i m : Nat) : ((frL l).drop (i * 17)).take (m * 17) = frL ((l.drop i).take m) := by
  have e1 : ∀ (i : Nat) (l : List Fr), (frL l).drop (i * 17) = frL (l.drop i) := by
    intro i
    induction i with
    | zero => intro l; rw [Nat.zero_mul, List.drop_zero, List.drop_zero]
    | succ i ih =>
      intro l
      cases l with
      | nil => simp [frL]
      | cons a l =>
        rw [List.drop_succ_cons, ← ih l, show frL (a :: l) = frW a ++ frL l from rfl, Nat.add_mul, Nat.one_mul, Nat.add_comm, ← List.drop_drop, ← frW_len a, List.drop_left]
  have e2 : ∀ (m : Nat) (l : List Fr), (frL l).take (m * 17) = frL (l.take m) := by
    intro m
    induction m with
    | zero => intro l; simp [frL]
    | succ m ih =>
      intro l
      cases l with
      | nil => simp [frL]
      | cons a l =>
        rw [List.take_succ_cons, show frL (a :: l.take m) = frW a ++ frL (l.take m) from rfl, ← ih l, show frL (a :: l) = frW a ++ frL l from rfl, Nat.add_mul, Nat.one_mul, Nat.add_comm, ← frW_len a, List.take_length_add_append]
  rw [e1, e2]
def lits : List Int := [0, 1, -1, 2, 3, 65535, 65536, 4294967295, 4294967296, -9223372036854775808, 9223372036854775807, -9223372036854775807, 4611686018427387904]
def litc (l : List Int) : List SV := l.map fun x => .v (.int .i64 x)
theorem litc_at {l : List Int} {k : Nat} {a : Int} (h : l[k]? = some a) : (litc l)[0 + mulS (k : Int).toNat 1]? = some (.v (.int .i64 a)) ∧ (SV.v (.int .i64 a)).scal = true := by
  rw [mulS_eq, Int.toNat_natCast, Nat.mul_one, Nat.zero_add]
  exact ⟨by simp [litc, h], rfl⟩
theorem litc_len (l : List Int) : (litc l).length = l.length := by simp [litc]
theorem lits_in {k : Nat} {a : Int} (h : lits[k]? = some a) : I64 a := by
  have hm := List.mem_of_getElem? h
  have : ∀ a ∈ lits, I64 a := by
    intro a ha
    simp only [lits, List.mem_cons, List.not_mem_nil, or_false] at ha
    constructor <;> omega
  exact this a hm
def AllBig (l : List Fr) : Prop := ∀ f ∈ l, Big f
theorem AllBig.snoc {l : List Fr} {f : Fr} (h : AllBig l) (hf : Big f) : AllBig (l ++ [f]) := fun x hx => by
  rcases List.mem_append.1 hx with h1 | h1
  · exact h x h1
  · rw [List.mem_singleton.1 h1]; exact hf
theorem ratio_bg (a b : Int) : Big (ratioE a b).1 := by
  unfold ratioE
  split
  · exact ⟨by decide, by decide⟩
  · exact fit_big _ _ _
set_option maxRecDepth 100000 in
set_option maxHeartbeats 8000000 in
theorem fsmall_any (hG : ∀ w, Calls Tryz.prog 11 #[] w fun e w' => e = .returned (.bool true) ∧ Below w.heap.size w w')
    (hT : ∀ w, Wf w → Calls Tryz.prog 12 #[] w fun e w' => e = .returned (.bool true) ∧ Below w.heap.size w w') (w : World) (hw : Wf w) :
    Calls Tryz.prog 4 #[] w fun e w' => e = .returned (.bool true) ∧ Below w.heap.size w w' := by
  refine calls_sat (cx := Tryz.cx 90 [] [] [] w) (Tryz.ok ..) Tryz.func4 rfl [] rfl (by show 0 ≤ 90; omega) [] (holds_nil (Nat.le_refl _)) ?_
  repeat' ((conv => whnf); first | refine walk (Tryz.ok ..) ?_ | fail)
  refine sat_loop (Tryz.ok ..) (α := List Fr × Option (Nat × Nat) × Nat × Nat) (fun s => ([(1, .yes, .o 26 s.2.1 s.1.length s.2.2.1), (2, .yes, .v (.int .i64 ((s.2.2.2 : Int) + 1)))], [(26, .row s.2.1 28 17 s.1.length s.2.2.1 (frL s.1))]))
    (fun s => AllBig s.1 ∧ s.1.length ≤ 13 * s.2.2.2 ∧ s.2.2.2 ≤ 6) (fun s => 6 - s.2.2.2) (fun _ => rfl) ?_ ?_
  · refine ⟨([], none, 0, 0), ⟨fun f hf => (by cases hf), Nat.le_refl _, by decide⟩, ?_, ?_, rfl⟩
    all_goals ((repeat' (first | exact trivial | exact rfl | refine And.intro ?_ ?_)) <;> (try (conv => whnf)) <;> (try simp only [SV.real, SV.r2, SV.r1]))
  rintro ⟨l, A, cap, b⟩ ⟨hb, hl, hb6⟩
  dsimp only at hb hl hb6 ⊢
  by_cases hb7 : b < 6
  · repeat' ((conv => whnf); first | refine walk (Tryz.ok ..) ?_ | (refine Cnd.mk (fun h => ?_) (fun h => ?_) <;> (first | exact cndT h (by (try dsimp only); omega) | exact cndF h (by (try dsimp only); omega) | (exfalso; simp at h; omega) | simp at h | skip)) | fail)
    refine sat_loop (Tryz.ok ..) (α := List Fr × Option (Nat × Nat) × Nat × Nat) (fun s => ([(1, .yes, .o 26 s.2.1 s.1.length s.2.2.1), (2, .yes, .v (.int .i64 ((b : Int) + 1))), (3, .yes, .v (.int .i64 ((s.2.2.2 : Int) - 6)))], [(26, .row s.2.1 28 17 s.1.length s.2.2.1 (frL s.1))]))
      (fun s => AllBig s.1 ∧ s.1.length ≤ 13 * b + s.2.2.2 ∧ s.2.2.2 ≤ 13) (fun s => 13 - s.2.2.2) (fun _ => rfl) ?_ ?_
    · refine ⟨(l, A, cap, 0), ⟨hb, hl, Nat.zero_le _⟩, ?_, ?_, rfl⟩
      all_goals ((repeat' (first | exact trivial | exact rfl | refine And.intro ?_ ?_)) <;> (try (conv => whnf)) <;> (try simp only [SV.real, SV.r2, SV.r1]))
    clear hb hl
    clear l A cap
    rintro ⟨l, A, cap, k⟩ ⟨hb, hl, hk⟩
    dsimp only at hb hl hk ⊢
    by_cases hk13 : k < 13
    · have hbg := ratio_bg ((k : Int) - 6) ((b : Int) + 1)
      obtain ⟨r, er⟩ : ∃ r, r = (ratioE ((k : Int) - 6) ((b : Int) + 1)).1 := ⟨_, rfl⟩
      rw [← er] at hbg
      have l17 := frC_len r
      repeat' ((conv => whnf); first | refine walk (Tryz.ok ..) ?_ | (refine Cnd.mk (fun h => ?_) (fun h => ?_) <;> (first | exact cndT h (by (try dsimp only); omega) | exact cndF h (by (try dsimp only); omega) | (exfalso; simp at h; omega) | simp at h | skip)) | fail)
      refine called_pure (.a (frC r)) rfl (fun w' => by rw [er]; exact rat_any _ _ w' ⟨by omega, by omega⟩ ⟨by omega, by omega⟩) ?_
      repeat' ((conv => whnf); first | refine side2 ?_ | fail)
      (conv => whnf)
      intro g25 hg25
      repeat' ((conv => whnf); first | refine side2 ?_ | refine Or.inr ?_ | fail)
      intro A2 cap2
      repeat' ((conv => whnf); first | refine walk (Tryz.ok ..) ?_ | refine sideL2 ?_ | fail)
      refine ⟨(l ++ [r], A2, cap2, k + 1), ⟨⟨hb.snoc hbg, by rw [List.length_append]; show l.length + 1 ≤ 13 * b + (k + 1); omega, by show k + 1 ≤ 13; omega⟩, by show 13 - (k + 1) < 13 - k; omega⟩, ?_, ?_, rfl⟩
      · dsimp only
        rw [List.length_append]
        ((repeat' (first | exact trivial | exact rfl | refine And.intro ?_ ?_)) <;> (try (conv => whnf)) <;> (try simp only [SV.real, SV.r2, SV.r1]))
        all_goals exact congrArg (Value.int .i64) (by omega)
      · dsimp only
        rw [List.length_append, frL_app']
        ((repeat' (first | exact trivial | exact rfl | refine And.intro ?_ ?_)) <;> (try (conv => whnf)) <;> (try simp only [SV.real, SV.r2, SV.r1]))
    · obtain rfl : k = 13 := by omega
      repeat' ((conv => whnf); first | refine walk (Tryz.ok ..) ?_ | (refine Cnd.mk (fun h => ?_) (fun h => ?_) <;> (first | exact cndT h (by (try dsimp only); omega) | exact cndF h (by (try dsimp only); omega) | (exfalso; simp at h; omega) | simp at h | skip)) | refine sideL2 ?_ | fail)
      refine ⟨(l, A, cap, b + 1), ⟨⟨hb, by show l.length ≤ 13 * (b + 1); omega, by show b + 1 ≤ 6; omega⟩, by show 6 - (b + 1) < 6 - b; omega⟩, ?_, ?_, rfl⟩
      all_goals ((repeat' (first | exact trivial | exact rfl | refine And.intro ?_ ?_)) <;> (try (conv => whnf)) <;> (try simp only [SV.real, SV.r2, SV.r1]))
  obtain rfl : b = 6 := by omega
  repeat' ((conv => whnf); first | refine walk (Tryz.ok ..) ?_ | (refine Cnd.mk (fun h => ?_) (fun h => ?_) <;> (first | exact cndT h (by (try dsimp only); omega) | exact cndF h (by (try dsimp only); omega) | (exfalso; simp at h; omega) | simp at h | skip)) | fail)
  have hn : l.length ≤ 78 := by omega
  refine sat_row 26 rfl fun hcap hA => ?_
  refine sat_loop (Tryz.ok ..) (α := Nat) (fun i => ([(1, .yes, .o 26 A l.length cap), (27, .yes, .o 26 A l.length cap), (28, .yes, .v (.int .i64 l.length)), (29, .yes, .v (.int .i64 i))], [(26, .row A 28 17 l.length cap (frL l))]))
    (fun i => i ≤ l.length) (fun i => l.length - i) (fun _ => rfl) ?_ ?_
  · refine ⟨0, Nat.zero_le _, ?_, ?_, rfl⟩
    all_goals ((repeat' (first | exact trivial | exact rfl | refine And.intro ?_ ?_)) <;> (try (conv => whnf)) <;> (try simp only [SV.real, SV.r2, SV.r1]))
  intro i hi
  by_cases hi1 : i < l.length
  · obtain ⟨f, hf⟩ : ∃ a, l[i]? = some a := ⟨l[i], List.getElem?_eq_getElem hi1⟩
    have hbf := hb f (List.mem_of_getElem? hf)
    have l17 := frC_len f
    obtain ⟨p, rfl⟩ := hA (by omega)
    repeat' ((conv => whnf); first | refine walk (Tryz.ok ..) ?_ | (refine Cnd.mk (fun h => ?_) (fun h => ?_) <;> (first | exact cndT h (by (try dsimp only); omega) | exact cndF h (by (try dsimp only); omega) | (exfalso; simp at h; omega) | simp at h | skip)) | refine side2 ?_ | refine xi _ (fr_cells hf rfl) ?_ | fail)
    (conv => whnf)
    intro g5 hg5
    rw [frW_v]
    repeat' ((conv => whnf); first | refine walk (Tryz.ok ..) ?_ | refine side2 ?_ | refine sideL2 ?_ | refine Or.inr ?_ | fail)
    obtain ⟨d, hd⟩ : ∃ d : Nat, (i : Int) % 3 = d := ⟨((i : Int) % 3).toNat, by omega⟩
    have hd1 : d ≤ i ∧ d < 3 := by omega
    refine ⟨⟨by omega, by omega, by omega, rfl⟩, ?_⟩
    rw [if_neg (by omega), hd]
    repeat' ((conv => whnf); first | refine walk (Tryz.ok ..) ?_ | fail)
    refine sat_loop (Tryz.ok ..) (α := Nat) (fun k => ([(1, .yes, .o 26 (some p) l.length cap), (4, .yes, .v (.int .i64 i)), (5, .yes, .p 5 g5 0 0), (27, .yes, .o 26 (some p) l.length cap), (28, .yes, .v (.int .i64 l.length)), (29, .yes, .v (.int .i64 i)), (37, .yes, .s 26 p.1 p.2 (mulS ((d : Int)).toNat 17) ((l.length : Int) - d).toNat (cap - ((d : Int)).toNat)), (38, .yes, .v (.int .i64 ((l.length : Int) - d).toNat)), (39, .yes, .v (.int .i64 k))], [(5, .blk g5 28 (frC f)), (26, .row (some p) 28 17 l.length cap (frL l))]))
      (fun k => k ≤ l.length - d) (fun k => l.length - d - k) (fun _ => rfl) ?_ ?_
    · refine ⟨0, Nat.zero_le _, ?_, ?_, rfl⟩
      all_goals ((repeat' (first | exact trivial | exact rfl | refine And.intro ?_ ?_)) <;> (try (conv => whnf)) <;> (try simp only [SV.real, SV.r2, SV.r1]))
    intro k hk
    by_cases hk1 : k < l.length - d
    · obtain ⟨g, hg⟩ : ∃ a, l[d + k]? = some a := ⟨l[d + k], List.getElem?_eq_getElem (by omega)⟩
      have hbg := hb g (List.mem_of_getElem? hg)
      have l17' := frC_len g
      repeat' ((conv => whnf); first | refine walk (Tryz.ok ..) ?_ | (refine Cnd.mk (fun h => ?_) (fun h => ?_) <;> (first | exact cndT h (by (try dsimp only); omega) | exact cndF h (by (try dsimp only); omega) | (exfalso; simp at h; omega) | simp at h | skip)) | refine side2 ?_ | refine xi _ (fr_cells2 hg) ?_ | fail)
      (conv => whnf)
      intro g7 hg7
      rw [frW_v]
      repeat' ((conv => whnf); first | refine walk (Tryz.ok ..) ?_ | refine side2 ?_ | fail)
      refine called_pure (.v (.bool true)) rfl (fun w' => by exact tells_any f g w' hbf hbg) ?_
      repeat' ((conv => whnf); first | refine walk (Tryz.ok ..) ?_ | (refine Cnd.mk (fun h => ?_) (fun h => ?_) <;> (first | exact cndT h (by (try dsimp only); omega) | exact cndF h (by (try dsimp only); omega) | (exfalso; simp at h; omega) | simp at h | skip)) | refine sideL2 ?_ | fail)
      refine ⟨k + 1, ⟨by omega, by omega⟩, ?_, ?_, rfl⟩
      all_goals ((repeat' (first | exact trivial | exact rfl | refine And.intro ?_ ?_)) <;> (try (conv => whnf)) <;> (try simp only [SV.real, SV.r2, SV.r1]))
    obtain rfl : k = l.length - d := by omega
    repeat' ((conv => whnf); first | refine walk (Tryz.ok ..) ?_ | (refine Cnd.mk (fun h => ?_) (fun h => ?_) <;> (first | exact cndT h (by (try dsimp only); omega) | exact cndF h (by (try dsimp only); omega) | (exfalso; simp at h; omega) | simp at h | skip)) | refine sideL2 ?_ | refine Or.inr ?_ | fail)
    obtain ⟨m, hm⟩ : ∃ m : Nat, m = min (i + 9) l.length - i := ⟨_, rfl⟩
    have hm1 : m ≤ 9 ∧ i + m ≤ l.length := by omega
    rw [show min ((i : Int) + 9) (l.length : Int) = ((i + m : Nat) : Int) by omega]
    refine ⟨⟨by omega, by omega, by omega, rfl⟩, ?_⟩
    rw [if_neg (by omega)]
    refine called_args [.s 26 p.1 p.2 (mulS ((i : Int)).toNat 17) m (cap - ((i : Int)).toNat)] (congrArg (fun x => [Value.slice _ x _]) (by omega)) ?_
    refine called_at (.v (.bool true)) rfl (fun w' hh => by
      have h1 := (ro_of_row hh (id := 26) rfl).drop_ (i := i) (m := m) hm1.2
      rw [frL_cut] at h1
      have hlen : ((l.drop i).take m).length = m := by rw [List.length_take, List.length_drop]; omega
      have h2 := sums_any ((l.drop i).take m) (some (p.1, p.2 + i * 17)) (cap - ((i : Int)).toNat) w' (by rw [hlen]; exact h1) (by rw [hlen]; omega) (fun f hf => hb f (List.mem_of_mem_drop (List.mem_of_mem_take hf)))
      rw [hlen] at h2
      have e : (SV.s 26 p.1 p.2 (mulS ((i : Int)).toNat 17) m (cap - ((i : Int)).toNat)).real = Value.slice (adr (some (p.1, p.2 + i * 17))) m (cap - ((i : Int)).toNat) := by
        show Value.slice (some ⟨p.1, mulS ((i : Int)).toNat 17 + p.2, none⟩) _ _ = Value.slice (some ⟨p.1, p.2 + i * 17, none⟩) _ _
        rw [mulS_eq, Int.toNat_natCast, Nat.add_comm]
      show Calls _ _ #[(SV.s 26 p.1 p.2 (mulS ((i : Int)).toNat 17) m (cap - ((i : Int)).toNat)).real] _ _
      rw [e]
      exact h2) ?_
    repeat' ((conv => whnf); first | refine walk (Tryz.ok ..) ?_ | (refine Cnd.mk (fun h => ?_) (fun h => ?_) <;> (first | exact cndT h (by (try dsimp only); omega) | exact cndF h (by (try dsimp only); omega) | (exfalso; simp at h; omega) | simp at h | skip)) | refine sideL2 ?_ | fail)
    refine ⟨i + 1, ⟨by omega, by omega⟩, ?_, ?_, rfl⟩
    all_goals ((repeat' (first | exact trivial | exact rfl | refine And.intro ?_ ?_)) <;> (try (conv => whnf)) <;> (try simp only [SV.real, SV.r2, SV.r1]))
  obtain rfl : i = l.length := by omega
  repeat' ((conv => whnf); first | refine walk (Tryz.ok ..) ?_ | (refine Cnd.mk (fun h => ?_) (fun h => ?_) <;> (first | exact cndT h (by (try dsimp only); omega) | exact cndF h (by (try dsimp only); omega) | (exfalso; simp at h; omega) | simp at h | skip)) | fail)
  (conv => whnf)
  intro g59 hg59
  repeat' ((conv => whnf); first | refine walk (Tryz.ok ..) ?_ | fail)
  refine sat_loop (Tryz.ok ..) (α := Nat) (fun k => ([(8, .yes, .s 59 g59 0 0 13 13), (60, .yes, .s 59 g59 0 0 13 13), (61, .yes, .v (.int .i64 13)), (62, .yes, .v (.int .i64 k))], [(59, .blk g59 3 (litc lits))]))
    (fun k => k ≤ 13) (fun k => 13 - k) (fun _ => rfl) ?_ ?_
  · refine ⟨0, Nat.zero_le _, ?_, ?_, rfl⟩
    all_goals ((repeat' (first | exact trivial | exact rfl | refine And.intro ?_ ?_)) <;> (try (conv => whnf)) <;> (try simp only [SV.real, SV.r2, SV.r1]))
  clear hl hb hcap hA hi hi1 hn
  intro i hi
  have h13 := litc_len lits
  rw [show lits.length = 13 from rfl] at h13
  by_cases hi1 : i < 13
  · obtain ⟨a, ha⟩ : ∃ a, lits[i]? = some a := ⟨lits[i]'hi1, List.getElem?_eq_getElem _⟩
    have hai := lits_in ha
    repeat' ((conv => whnf); first | refine walk (Tryz.ok ..) ?_ | (refine Cnd.mk (fun h => ?_) (fun h => ?_) <;> (first | exact cndT h (by (try dsimp only); omega) | exact cndF h (by (try dsimp only); omega) | (exfalso; simp at h; omega) | simp at h | skip)) | refine side2 ?_ | refine xi _ (litc_at ha) ?_ | fail)
    refine sat_loop (Tryz.ok ..) (α := Nat) (fun k => ([(8, .yes, .s 59 g59 0 0 13 13), (10, .yes, .v (.int .i64 a)), (60, .yes, .s 59 g59 0 0 13 13), (61, .yes, .v (.int .i64 13)), (62, .yes, .v (.int .i64 i)), (66, .yes, .s 59 g59 0 0 13 13), (67, .yes, .v (.int .i64 13)), (68, .yes, .v (.int .i64 k))], [(59, .blk g59 3 (litc lits))]))
      (fun k => k ≤ 13) (fun k => 13 - k) (fun _ => rfl) ?_ ?_
    · refine ⟨0, Nat.zero_le _, ?_, ?_, rfl⟩
      all_goals ((repeat' (first | exact trivial | exact rfl | refine And.intro ?_ ?_)) <;> (try (conv => whnf)) <;> (try simp only [SV.real, SV.r2, SV.r1]))
    intro k hk
    by_cases hk1 : k < 13
    · obtain ⟨b, hb⟩ : ∃ a, lits[k]? = some a := ⟨lits[k]'hk1, List.getElem?_eq_getElem _⟩
      have hbi := lits_in hb
      have bg1 := ratio_bg a 7
      have bg2 := ratio_bg b 8589934592
      obtain ⟨r1, er1⟩ : ∃ r, r = (ratioE a 7).1 := ⟨_, rfl⟩
      obtain ⟨r2, er2⟩ : ∃ r, r = (ratioE b 8589934592).1 := ⟨_, rfl⟩
      rw [← er1] at bg1
      rw [← er2] at bg2
      have l1 := frC_len r1
      have l2 := frC_len r2
      repeat' ((conv => whnf); first | refine walk (Tryz.ok ..) ?_ | (refine Cnd.mk (fun h => ?_) (fun h => ?_) <;> (first | exact cndT h (by (try dsimp only); omega) | exact cndF h (by (try dsimp only); omega) | (exfalso; simp at h; omega) | simp at h | skip)) | refine side2 ?_ | refine xi _ (litc_at hb) ?_ | fail)
      refine called_pure (.v (.bool true)) rfl (fun w' => by exact ratios_any a b w' hai hbi) ?_
      repeat' ((conv => whnf); first | refine sideL2 ?_ | fail)
      refine calledQ_pure (.a (frC r1)) rfl (fun _ w' => by rw [er1]; exact rat_any _ _ w' hai ⟨by decide, by decide⟩) ?_
      repeat' ((conv => whnf); first | refine sideL2 ?_ | fail)
      refine calledQ_pure (.a (frC r2)) rfl (fun _ w' => by rw [er2]; exact rat_any _ _ w' hbi ⟨by decide, by decide⟩) ?_
      repeat' ((conv => whnf); first | refine side2 ?_ | refine sideL2 ?_ | fail)
      refine calledQ_pure (.v (.bool true)) rfl (fun _ w' => by exact tells_any r1 r2 w' bg1 bg2) ?_
      repeat' ((conv => whnf); first | refine walk (Tryz.ok ..) ?_ | (refine Cnd.mk (fun h => ?_) (fun h => ?_) <;> (first | exact cndT h (by (try dsimp only); omega) | exact cndF h (by (try dsimp only); omega) | (exfalso; simp at h; omega) | simp at h | skip)) | refine side2 ?_ | refine sideL2 ?_ | fail)
      refine ⟨k + 1, ⟨by omega, by omega⟩, ?_, ?_, rfl⟩
      all_goals ((repeat' (first | exact trivial | exact rfl | refine And.intro ?_ ?_)) <;> (try (conv => whnf)) <;> (try simp only [SV.real, SV.r2, SV.r1]))
    obtain rfl : k = 13 := by omega
    repeat' ((conv => whnf); first | refine walk (Tryz.ok ..) ?_ | (refine Cnd.mk (fun h => ?_) (fun h => ?_) <;> (first | exact cndT h (by (try dsimp only); omega) | exact cndF h (by (try dsimp only); omega) | (exfalso; simp at h; omega) | simp at h | skip)) | refine sideL2 ?_ | fail)
    refine ⟨i + 1, ⟨by omega, by omega⟩, ?_, ?_, rfl⟩
    all_goals ((repeat' (first | exact trivial | exact rfl | refine And.intro ?_ ?_)) <;> (try (conv => whnf)) <;> (try simp only [SV.real, SV.r2, SV.r1]))
  obtain rfl : i = 13 := by omega
  repeat' ((conv => whnf); first | refine walk (Tryz.ok ..) ?_ | (refine Cnd.mk (fun h => ?_) (fun h => ?_) <;> (first | exact cndT h (by (try dsimp only); omega) | exact cndF h (by (try dsimp only); omega) | (exfalso; simp at h; omega) | simp at h | skip)) | fail)
  refine called_pure (.v (.bool true)) rfl hG ?_
  repeat' ((conv => whnf); first | (refine Cnd.mk (fun h => ?_) (fun h => ?_) <;> (first | exact cndT h (by (try dsimp only); omega) | exact cndF h (by (try dsimp only); omega) | (exfalso; simp at h; omega) | simp at h | skip)) | refine Or.inr ?_ | fail)
  refine called_at (.v (.bool true)) rfl (fun w' hh => hT w' (hw.at_ rfl rfl hh)) ?_
  repeat' ((conv => whnf); first | refine walk (Tryz.ok ..) ?_ | fail)
  exact done_pure rfl rfl rfl
end Go.Proofs.YtmekcdjaafegaaaGreatDoor
