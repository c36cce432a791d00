/-
  The walk of the reference's Written.
-/
import Derived.Test.YtdejcgmaphmjbaaDoorV2
set_option linter.unusedSimpArgs false
set_option linter.unusedVariables false
namespace Go.Proofs.YtdejcgmaphmjbaaDoor
open Go Sat Go.RowKit Go.PlainAid
def blS (s : Segm) : List UInt8 := if blankS s = true then [63] else []
def W1 (s : Segm) (i : Nat) : List UInt8 := (if 0 < i then blS s else []) ++ joinW 43 wE (s.take i)
def W2 (s : Segm) (e : Elem) (i k : Nat) : List UInt8 := W1 s i ++ ((if 0 < i then [43] else []) ++ ((if i = 0 ∧ 0 < k then blS s else []) ++ joinW 58 wC (e.take k)))
theorem W2_step {s : Segm} {e : Elem} {i k : Nat} {c : ByteArray} (he : s[i]? = some e) (hc : e[k]? = some c) : W2 s e i (k + 1) = W2 s e i k ++ ((if 0 < k then [58] else []) ++ relC (decide (i = 0 ∧ k = 0)) c.data.toList) := by
  unfold W2
  rw [join_step 58 wC hc]
  by_cases hi : i = 0
  · subst hi
    by_cases hk : k = 0
    · subst hk
      obtain ⟨e1, s1, rfl⟩ : ∃ e1 s1, s = e1 :: s1 := by
        cases s with
        | nil => cases he
        | cons a b => exact ⟨a, b, rfl⟩
      obtain rfl : e1 = e := by simpa using he
      obtain ⟨c1, cs, rfl⟩ : ∃ c1 cs, e1 = c1 :: cs := by
        cases e1 with
        | nil => cases hc
        | cons a b => exact ⟨a, b, rfl⟩
      obtain rfl : c1 = c := by simpa using hc
      rw [show decide (0 = 0 ∧ 0 = 0) = true from rfl]
      unfold relC blS
      rw [Bool.true_and, show blankS ((c1 :: cs) :: s1) = Lib.hasPrefix c1.data.toList [32] from rfl]
      simp [W1, joinW, wC]
    · rw [show decide (0 = 0 ∧ k = 0) = false from decide_eq_false (fun h => hk h.2), if_pos (⟨rfl, by omega⟩ : 0 = 0 ∧ 0 < k + 1), if_pos (⟨rfl, by omega⟩ : 0 = 0 ∧ 0 < k)]
      simp [relC, wC]
  · rw [show decide (i = 0 ∧ k = 0) = false from decide_eq_false (fun h => hi h.1), if_neg (fun h : i = 0 ∧ 0 < k + 1 => hi h.1), if_neg (fun h : i = 0 ∧ 0 < k => hi h.1)]
    simp [relC, wC]
theorem W2_zero (s : Segm) (e : Elem) (i : Nat) : W2 s e i 0 = W1 s i ++ (if 0 < i then [43] else []) := by
  unfold W2
  rw [if_neg (by omega : ¬ (i = 0 ∧ 0 < 0))]
  simp [joinW]
theorem W2_end {s : Segm} {e : Elem} {i : Nat} (he : s[i]? = some e) (h : 1 ≤ e.length) : W2 s e i e.length = W1 s (i + 1) := by
  unfold W2 W1
  rw [join_step 43 wE he, List.take_length, if_pos (by omega : 0 < i + 1)]
  by_cases hi : i = 0
  · subst hi
    rw [if_pos (⟨rfl, by omega⟩ : 0 = 0 ∧ 0 < e.length)]
    simp [joinW, wE]
  · rw [if_neg (fun h : i = 0 ∧ 0 < e.length => hi h.1), if_pos (by omega : 0 < i)]
    simp [wE]
theorem W1_end {s : Segm} (h : 1 ≤ s.length) : W1 s s.length ++ [39] = wS s := by
  unfold W1 wS blS
  rw [List.take_length, if_pos (by omega)]
theorem join_len {α : Type} (c : UInt8) (f : α → List UInt8) (m : Nat) : ∀ (l : List α), (∀ x ∈ l, (f x).length ≤ m) → (joinW c f l).length ≤ l.length * (m + 1)
  | [], _ => by simp [joinW]
  | x :: l, h => by
    have h1 := h x List.mem_cons_self
    have h2 : ∀ l : List α, (∀ x ∈ l, (f x).length ≤ m) → (l.flatMap fun y => c :: f y).length ≤ l.length * (m + 1) := by
      intro l
      induction l with
      | nil => intro _; simp
      | cons y l ih =>
        intro h
        have := h y List.mem_cons_self
        have := ih fun z hz => h z (List.mem_cons_of_mem _ hz)
        rw [List.flatMap_cons, List.length_append, List.length_cons, List.length_cons, Nat.succ_mul]
        omega
    have h3 := h2 l fun z hz => h z (List.mem_cons_of_mem _ hz)
    unfold joinW
    rw [List.length_append, List.length_cons, Nat.succ_mul]
    omega
theorem wC_len (c : ByteArray) : (wC c).length ≤ 2 * c.size := by
  unfold wC
  rw [size_len]
  generalize c.data.toList = l
  induction l with
  | nil => simp
  | cons b l ih =>
    have := relB_len b
    rw [List.flatMap_cons, List.length_append, List.length_cons]
    omega
theorem wE_len {e : Elem} (h : (1 ≤ e.length ∧ e.length ≤ 10) ∧ ∀ c ∈ e, c.size ≤ 100 ∧ c.data.toList.any badB = false) : (wE e).length ≤ 2010 := by
  have := join_len 58 wC 200 e fun c hc => by
    have := wC_len c
    have := (h.2 c hc).1
    omega
  have := h.1
  unfold wE
  omega
theorem blS_len (s : Segm) : (blS s).length ≤ 1 := by unfold blS; split <;> simp
theorem W1_len {s : Segm} (h : rightS s = true) (i : Nat) : (W1 s i).length ≤ 60331 := by
  obtain ⟨h1, h2⟩ := rightS_at h
  have h3 := join_len 43 wE 2010 (s.take i) fun e he => wE_len (h2 e (List.mem_of_mem_take he))
  have h4 : (s.take i).length ≤ 30 := by rw [List.length_take]; omega
  have h5 : (s.take i).length * (2010 + 1) ≤ 30 * (2010 + 1) := Nat.mul_le_mul_right _ h4
  have h6 := blS_len s
  unfold W1
  rw [List.length_append]
  split <;> (try simp only [List.length_nil]) <;> omega
theorem W2_len {s : Segm} {e : Elem} {i : Nat} (h : rightS s = true) (he : s[i]? = some e) (k : Nat) : (W2 s e i k).length ≤ 63000 := by
  obtain ⟨h1, h2⟩ := rightS_at h
  obtain ⟨h3, h4⟩ := h2 e (List.mem_of_getElem? he)
  have h5 := join_len 58 wC 200 (e.take k) fun c hc => by
    have := wC_len c
    have := (h4 c (List.mem_of_mem_take hc)).1
    omega
  have h6 : (e.take k).length ≤ 10 := by rw [List.length_take]; omega
  have h7 := W1_len h i
  have h8 := blS_len s
  unfold W2
  rw [List.length_append, List.length_append, List.length_append]
  have h9 : (if 0 < i then ([43] : List UInt8) else []).length ≤ 1 := by split <;> simp
  have h10 : (if i = 0 ∧ 0 < k then blS s else []).length ≤ 1 := by split <;> (try simp only [List.length_nil]) <;> omega
  omega
theorem lit_list (l : List UInt8) : (⟨⟨l⟩⟩ : ByteArray).data.toList = l := rfl
set_option maxRecDepth 100000 in
set_option maxHeartbeats 8000000 in
theorem written_any (s : Segm) (hS : rightS s = true) (va : Value) (w : World) (hA : NSA w (fun _ => True) va s) :
    Calls Tryd.prog 41 #[va] w fun e w' => e = .returned (.string (ba (wS s))) ∧ Below w.heap.size w w' := by
  obtain ⟨A', A, cA, xs, rfl, aA, hcA, hrA, -, hxA⟩ := hA
  obtain ⟨⟨hs1, hs30⟩, hsE⟩ := rightS_at hS
  have hq1 : (⟨#[43]⟩ : ByteArray).size = 1 := rfl
  have hq2 : (⟨#[58]⟩ : ByteArray).size = 1 := rfl
  have hq3 : (⟨#[39]⟩ : ByteArray).size = 1 := rfl
  refine calls_sat (cx := Tryd.cx 47 [] [] [] w) (Tryd.ok ..) Tryd.func41 rfl [.v (.slice A' s.length cA)] rfl (by show 1 ≤ 47; omega) [] (holds_nil (Nat.le_refl _)) ?_
  repeat' ((conv => whnf); first | refine walk (Tryd.ok ..) ?_ | (refine Cnd.mk (fun h => ?_) (fun h => ?_) <;> (first | exact cndT h (by (try dsimp only); omega) | exact cndF h (by (try dsimp only); omega) | (exfalso; simp at h; omega) | simp at h | skip)) | refine kp ?_ ?_ | refine tw ?_ ?_ | refine appnil rfl ?_ | refine rawnil rfl ?_ | exact trivial | refine side2 ?_ | refine sideL2 ?_ | refine Or.inr ?_ | refine sat_drawH (Tryd.ok ..) (by kernel_rfl) ?_ | refine xi _ (And.intro rfl rfl) ?_ | refine xi _ (fun _ => And.intro rfl rfl) ?_ | refine xi _ rfl ?_)
  refine sat_loop (Tryd.ok ..) (α := Nat × ByteArray) (fun t => ([(0, .yes, .v (.slice A' s.length cA)), (3, .yes, .v (.string t.2)), (4, .yes, .v (.int .i64 t.1))], []))
    (fun t => t.1 ≤ s.length ∧ t.2.data.toList = W1 s t.1) (fun t => s.length - t.1) (fun _ => rfl) ?_ ?_
  · refine ⟨(0, ⟨#[]⟩), ⟨Nat.zero_le _, rfl⟩, ?_, ?_, rfl⟩
    all_goals ((repeat' (first | exact trivial | exact rfl | refine And.intro ?_ ?_)) <;> (try (conv => whnf)) <;> (try simp only [SV.real, SV.r2, SV.r1]))
  rintro ⟨i, o⟩ ⟨hi, ho⟩
  dsimp only at hi ho ⊢
  have hb := W1_len hS i
  rw [← ho, ← size_len] at hb
  by_cases hi1 : i < s.length
  case neg =>
    obtain rfl : i = s.length := by omega
    have e1 : o ++ ⟨#[39]⟩ = ba (wS s) := ba_ext (by rw [appL, ho, lit_list, W1_end hs1]; rfl)
    repeat' ((conv => whnf); first | refine walk (Tryd.ok ..) ?_ | (refine Cnd.mk (fun h => ?_) (fun h => ?_) <;> (first | exact cndT h (by (try dsimp only); omega) | exact cndF h (by (try dsimp only); omega) | (exfalso; simp at h; omega) | simp at h | skip)) | refine kp ?_ ?_ | refine tw ?_ ?_ | refine appnil rfl ?_ | refine rawnil rfl ?_ | exact trivial | refine side2 ?_ | refine sideL2 ?_ | refine Or.inr ?_ | refine sat_drawH (Tryd.ok ..) (by kernel_rfl) ?_ | refine xi _ (And.intro rfl rfl) ?_ | refine xi _ (fun _ => And.intro rfl rfl) ?_ | refine xi _ rfl ?_)
    rw [← e1]
    exact done_pure rfl rfl rfl
  obtain ⟨e, hs⟩ : ∃ e, s[i]? = some e := ⟨_, List.getElem?_eq_getElem hi1⟩
  obtain ⟨⟨he1, he10⟩, hcE⟩ := hsE e (List.mem_of_getElem? hs)
  obtain ⟨x, hx, hne⟩ := nest_at hxA hrA.1 hs
  obtain ⟨A1', A1, cA1, rfl, aA1, hcA1, hrA1, -⟩ := nea_row hne
  obtain ⟨p, rfl, rfl⟩ := some_of aA hrA (by omega)
  by_cases hi0 : 0 < i
  · repeat' ((conv => whnf); first | refine walk (Tryd.ok ..) ?_ | (refine Cnd.mk (fun h => ?_) (fun h => ?_) <;> (first | exact cndT h (by (try dsimp only); omega) | exact cndF h (by (try dsimp only); omega) | (exfalso; simp at h; omega) | simp at h | skip)) | refine kp ?_ ?_ | refine tw ?_ ?_ | refine appnil rfl ?_ | refine rawnil rfl ?_ | exact trivial | refine side2 ?_ | refine sideL2 ?_ | refine Or.inr ?_ | refine sat_drawH (Tryd.ok ..) (by kernel_rfl) ?_ | refine xi _ (And.intro rfl rfl) ?_ | refine xi _ (fun _ => And.intro rfl rfl) ?_ | refine xi _ rfl ?_)
    refine sat_loop (Tryd.ok ..) (α := Nat × ByteArray) (fun t => ([(0, .yes, .v (.slice (adr (some p)) s.length cA)), (3, .yes, .v (.string t.2)), (4, .yes, .v (.int .i64 i)), (5, .yes, .v (.int .i64 t.1))], []))
      (fun t => t.1 ≤ e.length ∧ t.2.data.toList = W2 s e i t.1) (fun t => e.length - t.1) (fun _ => rfl) ?_ ?_
    · refine ⟨(0, o ++ ⟨#[43]⟩), ⟨Nat.zero_le _, ?_⟩, ?_, ?_, rfl⟩
      rotate_left 1
      · ((repeat' (first | exact trivial | exact rfl | refine And.intro ?_ ?_)) <;> (try (conv => whnf)) <;> (try simp only [SV.real, SV.r2, SV.r1]))
      · ((repeat' (first | exact trivial | exact rfl | refine And.intro ?_ ?_)) <;> (try (conv => whnf)) <;> (try simp only [SV.real, SV.r2, SV.r1]))
      · show (ByteArray.data (o ++ ⟨#[43]⟩)).toList = W2 s e i 0
        rw [W2_zero]
        rw [appL, ho, if_pos hi0] <;> rfl
    rintro ⟨k, o2⟩ ⟨hk, ho2⟩
    dsimp only at hk ho2 ⊢
    have hb2 := W2_len hS hs k
    rw [← ho2, ← size_len] at hb2
    by_cases hk1 : k < e.length
    case neg =>
      obtain rfl : k = e.length := by omega
      repeat' ((conv => whnf); first | refine walk (Tryd.ok ..) ?_ | (refine Cnd.mk (fun h => ?_) (fun h => ?_) <;> (first | exact cndT h (by (try dsimp only); omega) | exact cndF h (by (try dsimp only); omega) | (exfalso; simp at h; omega) | simp at h | skip)) | refine kp ?_ ?_ | refine tw ?_ ?_ | refine appnil rfl ?_ | refine rawnil rfl ?_ | exact trivial | refine side2 ?_ | refine sideL2 ?_ | refine Or.inr ?_ | refine sat_drawH (Tryd.ok ..) (by kernel_rfl) ?_ | refine xi _ (And.intro rfl rfl) ?_ | refine xi _ (fun _ => And.intro rfl rfl) ?_ | refine xi _ rfl ?_ | refine xi _ (fun _ => (ro_at rfl rfl hrA hx rfl)) ?_ | refine xi _ (ro_at rfl rfl hrA hx rfl) ?_)
      refine ⟨(i + 1, o2), ⟨⟨hi1, by rw [← W2_end hs he1]; exact ho2⟩, by omega⟩, ?_, ?_, rfl⟩
      all_goals ((repeat' (first | exact trivial | exact rfl | refine And.intro ?_ ?_)) <;> (try (conv => whnf)) <;> (try simp only [SV.real, SV.r2, SV.r1]))
    obtain ⟨c, hc⟩ : ∃ c, e[k]? = some c := ⟨_, List.getElem?_eq_getElem hk1⟩
    have hcs := (hcE c (List.mem_of_getElem? hc)).1
    obtain ⟨q, rfl, rfl⟩ := some_of aA1 hrA1 (by omega)
    have hstep := W2_step hs hc
    have hb3 := W2_len hS hs (k + 1)
    rw [hstep, ← ho2, List.length_append, List.length_append] at hb3
    by_cases hk0 : 0 < k
    · have hbv : ((i : Int) == 0 && (k : Int) == 0) = decide (i = 0 ∧ k = 0) := by
        rw [decide_eq_false (fun h => by omega), show ((k : Int) == 0) = false from beq_false_of_ne (by omega), Bool.and_false]
      rw [if_pos hk0, ← hbv] at hstep
      rw [← hbv] at hb3
      have hrz : (ba (relC ((i : Int) == 0 && (k : Int) == 0) c.data.toList)).size = (relC ((i : Int) == 0 && (k : Int) == 0) c.data.toList).length := rfl
      repeat' ((conv => whnf); first | refine walk (Tryd.ok ..) ?_ | (refine Cnd.mk (fun h => ?_) (fun h => ?_) <;> (first | exact cndT h (by (try dsimp only); omega) | exact cndF h (by (try dsimp only); omega) | (exfalso; simp at h; omega) | simp at h | skip)) | refine kp ?_ ?_ | refine tw ?_ ?_ | refine appnil rfl ?_ | refine rawnil rfl ?_ | exact trivial | refine side2 ?_ | refine sideL2 ?_ | refine Or.inr ?_ | refine sat_drawH (Tryd.ok ..) (by kernel_rfl) ?_ | refine xi _ (And.intro rfl rfl) ?_ | refine xi _ (fun _ => And.intro rfl rfl) ?_ | refine xi _ rfl ?_ | refine xi _ (fun _ => (ro_at rfl rfl hrA hx rfl)) ?_ | refine xi _ (ro_at rfl rfl hrA hx rfl) ?_ | refine xi _ (fun _ => (ro_at rfl rfl hrA1 (str_cell hc) rfl)) ?_ | refine xi _ (ro_at rfl rfl hrA1 (str_cell hc) rfl) ?_)
      (conv => whnf)
      refine called_pure (.v (.string (ba (relC ((i : Int) == 0 && (k : Int) == 0) c.data.toList)))) rfl (fun w' => released_any c ((i : Int) == 0 && (k : Int) == 0) (by omega) w') ?_
      repeat' ((conv => whnf); first | refine walk (Tryd.ok ..) ?_ | (refine Cnd.mk (fun h => ?_) (fun h => ?_) <;> (first | exact cndT h (by (try dsimp only); omega) | exact cndF h (by (try dsimp only); omega) | (exfalso; simp at h; omega) | simp at h | skip)) | refine kp ?_ ?_ | refine tw ?_ ?_ | refine appnil rfl ?_ | refine rawnil rfl ?_ | exact trivial | refine side2 ?_ | refine sideL2 ?_ | refine Or.inr ?_ | refine sat_drawH (Tryd.ok ..) (by kernel_rfl) ?_ | refine xi _ (And.intro rfl rfl) ?_ | refine xi _ (fun _ => And.intro rfl rfl) ?_ | refine xi _ rfl ?_)
      refine ⟨(k + 1, o2 ++ ⟨#[58]⟩ ++ ba (relC ((i : Int) == 0 && (k : Int) == 0) c.data.toList)), ⟨⟨hk1, ?_⟩, by omega⟩, ?_, ?_, rfl⟩
      rotate_left 1
      · ((repeat' (first | exact trivial | exact rfl | refine And.intro ?_ ?_)) <;> (try (conv => whnf)) <;> (try simp only [SV.real, SV.r2, SV.r1]))
      · ((repeat' (first | exact trivial | exact rfl | refine And.intro ?_ ?_)) <;> (try (conv => whnf)) <;> (try simp only [SV.real, SV.r2, SV.r1]))
      · show (ByteArray.data _).toList = W2 s e i (k + 1)
        rw [hstep, appL, appL, ho2, List.append_assoc]
        rfl
    · obtain rfl : k = 0 := by omega
      have hbv : ((i : Int) == 0 && ((0 : Nat) : Int) == 0) = decide (i = 0 ∧ 0 = 0) := by
        rw [Bool.eq_iff_iff]
        simp
      rw [if_neg hk0, List.nil_append, ← hbv] at hstep
      rw [← hbv] at hb3
      have hrz : (ba (relC ((i : Int) == 0 && ((0 : Nat) : Int) == 0) c.data.toList)).size = (relC ((i : Int) == 0 && ((0 : Nat) : Int) == 0) c.data.toList).length := rfl
      repeat' ((conv => whnf); first | refine walk (Tryd.ok ..) ?_ | (refine Cnd.mk (fun h => ?_) (fun h => ?_) <;> (first | exact cndT h (by (try dsimp only); omega) | exact cndF h (by (try dsimp only); omega) | (exfalso; simp at h; omega) | simp at h | skip)) | refine kp ?_ ?_ | refine tw ?_ ?_ | refine appnil rfl ?_ | refine rawnil rfl ?_ | exact trivial | refine side2 ?_ | refine sideL2 ?_ | refine Or.inr ?_ | refine sat_drawH (Tryd.ok ..) (by kernel_rfl) ?_ | refine xi _ (And.intro rfl rfl) ?_ | refine xi _ (fun _ => And.intro rfl rfl) ?_ | refine xi _ rfl ?_ | refine xi _ (fun _ => (ro_at rfl rfl hrA hx rfl)) ?_ | refine xi _ (ro_at rfl rfl hrA hx rfl) ?_ | refine xi _ (fun _ => (ro_at rfl rfl hrA1 (str_cell hc) rfl)) ?_ | refine xi _ (ro_at rfl rfl hrA1 (str_cell hc) rfl) ?_)
      (conv => whnf)
      refine called_pure (.v (.string (ba (relC ((i : Int) == 0 && ((0 : Nat) : Int) == 0) c.data.toList)))) rfl (fun w' => released_any c ((i : Int) == 0 && ((0 : Nat) : Int) == 0) (by omega) w') ?_
      repeat' ((conv => whnf); first | refine walk (Tryd.ok ..) ?_ | (refine Cnd.mk (fun h => ?_) (fun h => ?_) <;> (first | exact cndT h (by (try dsimp only); omega) | exact cndF h (by (try dsimp only); omega) | (exfalso; simp at h; omega) | simp at h | skip)) | refine kp ?_ ?_ | refine tw ?_ ?_ | refine appnil rfl ?_ | refine rawnil rfl ?_ | exact trivial | refine side2 ?_ | refine sideL2 ?_ | refine Or.inr ?_ | refine sat_drawH (Tryd.ok ..) (by kernel_rfl) ?_ | refine xi _ (And.intro rfl rfl) ?_ | refine xi _ (fun _ => And.intro rfl rfl) ?_ | refine xi _ rfl ?_)
      refine ⟨(0 + 1, o2 ++ ba (relC ((i : Int) == 0 && ((0 : Nat) : Int) == 0) c.data.toList)), ⟨⟨hk1, ?_⟩, by omega⟩, ?_, ?_, rfl⟩
      rotate_left 1
      · ((repeat' (first | exact trivial | exact rfl | refine And.intro ?_ ?_)) <;> (try (conv => whnf)) <;> (try simp only [SV.real, SV.r2, SV.r1]))
      · ((repeat' (first | exact trivial | exact rfl | refine And.intro ?_ ?_)) <;> (try (conv => whnf)) <;> (try simp only [SV.real, SV.r2, SV.r1]))
      · show (ByteArray.data _).toList = W2 s e i (0 + 1)
        rw [hstep, appL, ho2]
        rfl
  have hi00 : i = 0 := by omega
  repeat' ((conv => whnf); first | refine walk (Tryd.ok ..) ?_ | (refine Cnd.mk (fun h => ?_) (fun h => ?_) <;> (first | exact cndT h (by (try dsimp only); omega) | exact cndF h (by (try dsimp only); omega) | (exfalso; simp at h; omega) | simp at h | skip)) | refine kp ?_ ?_ | refine tw ?_ ?_ | refine appnil rfl ?_ | refine rawnil rfl ?_ | exact trivial | refine side2 ?_ | refine sideL2 ?_ | refine Or.inr ?_ | refine sat_drawH (Tryd.ok ..) (by kernel_rfl) ?_ | refine xi _ (And.intro rfl rfl) ?_ | refine xi _ (fun _ => And.intro rfl rfl) ?_ | refine xi _ rfl ?_)
  refine sat_loop (Tryd.ok ..) (α := Nat × ByteArray) (fun t => ([(0, .yes, .v (.slice (adr (some p)) s.length cA)), (3, .yes, .v (.string t.2)), (4, .yes, .v (.int .i64 i)), (5, .yes, .v (.int .i64 t.1))], []))
    (fun t => t.1 ≤ e.length ∧ t.2.data.toList = W2 s e i t.1) (fun t => e.length - t.1) (fun _ => rfl) ?_ ?_
  · refine ⟨(0, o), ⟨Nat.zero_le _, ?_⟩, ?_, ?_, rfl⟩
    rotate_left 1
    · ((repeat' (first | exact trivial | exact rfl | refine And.intro ?_ ?_)) <;> (try (conv => whnf)) <;> (try simp only [SV.real, SV.r2, SV.r1]))
    · ((repeat' (first | exact trivial | exact rfl | refine And.intro ?_ ?_)) <;> (try (conv => whnf)) <;> (try simp only [SV.real, SV.r2, SV.r1]))
    · show (ByteArray.data (o)).toList = W2 s e i 0
      rw [W2_zero]
      rw [ho, if_neg hi0, List.append_nil]
  rintro ⟨k, o2⟩ ⟨hk, ho2⟩
  dsimp only at hk ho2 ⊢
  have hb2 := W2_len hS hs k
  rw [← ho2, ← size_len] at hb2
  by_cases hk1 : k < e.length
  case neg =>
    obtain rfl : k = e.length := by omega
    repeat' ((conv => whnf); first | refine walk (Tryd.ok ..) ?_ | (refine Cnd.mk (fun h => ?_) (fun h => ?_) <;> (first | exact cndT h (by (try dsimp only); omega) | exact cndF h (by (try dsimp only); omega) | (exfalso; simp at h; omega) | simp at h | skip)) | refine kp ?_ ?_ | refine tw ?_ ?_ | refine appnil rfl ?_ | refine rawnil rfl ?_ | exact trivial | refine side2 ?_ | refine sideL2 ?_ | refine Or.inr ?_ | refine sat_drawH (Tryd.ok ..) (by kernel_rfl) ?_ | refine xi _ (And.intro rfl rfl) ?_ | refine xi _ (fun _ => And.intro rfl rfl) ?_ | refine xi _ rfl ?_ | refine xi _ (fun _ => (ro_at rfl rfl hrA hx rfl)) ?_ | refine xi _ (ro_at rfl rfl hrA hx rfl) ?_)
    refine ⟨(i + 1, o2), ⟨⟨hi1, by rw [← W2_end hs he1]; exact ho2⟩, by omega⟩, ?_, ?_, rfl⟩
    all_goals ((repeat' (first | exact trivial | exact rfl | refine And.intro ?_ ?_)) <;> (try (conv => whnf)) <;> (try simp only [SV.real, SV.r2, SV.r1]))
  obtain ⟨c, hc⟩ : ∃ c, e[k]? = some c := ⟨_, List.getElem?_eq_getElem hk1⟩
  have hcs := (hcE c (List.mem_of_getElem? hc)).1
  obtain ⟨q, rfl, rfl⟩ := some_of aA1 hrA1 (by omega)
  have hstep := W2_step hs hc
  have hb3 := W2_len hS hs (k + 1)
  rw [hstep, ← ho2, List.length_append, List.length_append] at hb3
  by_cases hk0 : 0 < k
  · have hbv : ((i : Int) == 0 && (k : Int) == 0) = decide (i = 0 ∧ k = 0) := by
      rw [decide_eq_false (fun h => by omega), show ((k : Int) == 0) = false from beq_false_of_ne (by omega), Bool.and_false]
    rw [if_pos hk0, ← hbv] at hstep
    rw [← hbv] at hb3
    have hrz : (ba (relC ((i : Int) == 0 && (k : Int) == 0) c.data.toList)).size = (relC ((i : Int) == 0 && (k : Int) == 0) c.data.toList).length := rfl
    repeat' ((conv => whnf); first | refine walk (Tryd.ok ..) ?_ | (refine Cnd.mk (fun h => ?_) (fun h => ?_) <;> (first | exact cndT h (by (try dsimp only); omega) | exact cndF h (by (try dsimp only); omega) | (exfalso; simp at h; omega) | simp at h | skip)) | refine kp ?_ ?_ | refine tw ?_ ?_ | refine appnil rfl ?_ | refine rawnil rfl ?_ | exact trivial | refine side2 ?_ | refine sideL2 ?_ | refine Or.inr ?_ | refine sat_drawH (Tryd.ok ..) (by kernel_rfl) ?_ | refine xi _ (And.intro rfl rfl) ?_ | refine xi _ (fun _ => And.intro rfl rfl) ?_ | refine xi _ rfl ?_ | refine xi _ (fun _ => (ro_at rfl rfl hrA hx rfl)) ?_ | refine xi _ (ro_at rfl rfl hrA hx rfl) ?_ | refine xi _ (fun _ => (ro_at rfl rfl hrA1 (str_cell hc) rfl)) ?_ | refine xi _ (ro_at rfl rfl hrA1 (str_cell hc) rfl) ?_)
    (conv => whnf)
    refine called_pure (.v (.string (ba (relC ((i : Int) == 0 && (k : Int) == 0) c.data.toList)))) rfl (fun w' => released_any c ((i : Int) == 0 && (k : Int) == 0) (by omega) w') ?_
    repeat' ((conv => whnf); first | refine walk (Tryd.ok ..) ?_ | (refine Cnd.mk (fun h => ?_) (fun h => ?_) <;> (first | exact cndT h (by (try dsimp only); omega) | exact cndF h (by (try dsimp only); omega) | (exfalso; simp at h; omega) | simp at h | skip)) | refine kp ?_ ?_ | refine tw ?_ ?_ | refine appnil rfl ?_ | refine rawnil rfl ?_ | exact trivial | refine side2 ?_ | refine sideL2 ?_ | refine Or.inr ?_ | refine sat_drawH (Tryd.ok ..) (by kernel_rfl) ?_ | refine xi _ (And.intro rfl rfl) ?_ | refine xi _ (fun _ => And.intro rfl rfl) ?_ | refine xi _ rfl ?_)
    refine ⟨(k + 1, o2 ++ ⟨#[58]⟩ ++ ba (relC ((i : Int) == 0 && (k : Int) == 0) c.data.toList)), ⟨⟨hk1, ?_⟩, by omega⟩, ?_, ?_, rfl⟩
    rotate_left 1
    · ((repeat' (first | exact trivial | exact rfl | refine And.intro ?_ ?_)) <;> (try (conv => whnf)) <;> (try simp only [SV.real, SV.r2, SV.r1]))
    · ((repeat' (first | exact trivial | exact rfl | refine And.intro ?_ ?_)) <;> (try (conv => whnf)) <;> (try simp only [SV.real, SV.r2, SV.r1]))
    · show (ByteArray.data _).toList = W2 s e i (k + 1)
      rw [hstep, appL, appL, ho2, List.append_assoc]
      rfl
  · obtain rfl : k = 0 := by omega
    have hbv : ((i : Int) == 0 && ((0 : Nat) : Int) == 0) = decide (i = 0 ∧ 0 = 0) := by
      rw [Bool.eq_iff_iff]
      simp
    rw [if_neg hk0, List.nil_append, ← hbv] at hstep
    rw [← hbv] at hb3
    have hrz : (ba (relC ((i : Int) == 0 && ((0 : Nat) : Int) == 0) c.data.toList)).size = (relC ((i : Int) == 0 && ((0 : Nat) : Int) == 0) c.data.toList).length := rfl
    repeat' ((conv => whnf); first | refine walk (Tryd.ok ..) ?_ | (refine Cnd.mk (fun h => ?_) (fun h => ?_) <;> (first | exact cndT h (by (try dsimp only); omega) | exact cndF h (by (try dsimp only); omega) | (exfalso; simp at h; omega) | simp at h | skip)) | refine kp ?_ ?_ | refine tw ?_ ?_ | refine appnil rfl ?_ | refine rawnil rfl ?_ | exact trivial | refine side2 ?_ | refine sideL2 ?_ | refine Or.inr ?_ | refine sat_drawH (Tryd.ok ..) (by kernel_rfl) ?_ | refine xi _ (And.intro rfl rfl) ?_ | refine xi _ (fun _ => And.intro rfl rfl) ?_ | refine xi _ rfl ?_ | refine xi _ (fun _ => (ro_at rfl rfl hrA hx rfl)) ?_ | refine xi _ (ro_at rfl rfl hrA hx rfl) ?_ | refine xi _ (fun _ => (ro_at rfl rfl hrA1 (str_cell hc) rfl)) ?_ | refine xi _ (ro_at rfl rfl hrA1 (str_cell hc) rfl) ?_)
    (conv => whnf)
    refine called_pure (.v (.string (ba (relC ((i : Int) == 0 && ((0 : Nat) : Int) == 0) c.data.toList)))) rfl (fun w' => released_any c ((i : Int) == 0 && ((0 : Nat) : Int) == 0) (by omega) w') ?_
    repeat' ((conv => whnf); first | refine walk (Tryd.ok ..) ?_ | (refine Cnd.mk (fun h => ?_) (fun h => ?_) <;> (first | exact cndT h (by (try dsimp only); omega) | exact cndF h (by (try dsimp only); omega) | (exfalso; simp at h; omega) | simp at h | skip)) | refine kp ?_ ?_ | refine tw ?_ ?_ | refine appnil rfl ?_ | refine rawnil rfl ?_ | exact trivial | refine side2 ?_ | refine sideL2 ?_ | refine Or.inr ?_ | refine sat_drawH (Tryd.ok ..) (by kernel_rfl) ?_ | refine xi _ (And.intro rfl rfl) ?_ | refine xi _ (fun _ => And.intro rfl rfl) ?_ | refine xi _ rfl ?_)
    refine ⟨(0 + 1, o2 ++ ba (relC ((i : Int) == 0 && ((0 : Nat) : Int) == 0) c.data.toList)), ⟨⟨hk1, ?_⟩, by omega⟩, ?_, ?_, rfl⟩
    rotate_left 1
    · ((repeat' (first | exact trivial | exact rfl | refine And.intro ?_ ?_)) <;> (try (conv => whnf)) <;> (try simp only [SV.real, SV.r2, SV.r1]))
    · ((repeat' (first | exact trivial | exact rfl | refine And.intro ?_ ?_)) <;> (try (conv => whnf)) <;> (try simp only [SV.real, SV.r2, SV.r1]))
    · show (ByteArray.data _).toList = W2 s e i (0 + 1)
      rw [hstep, appL, ho2]
      rfl
end Go.Proofs.YtdejcgmaphmjbaaDoor
