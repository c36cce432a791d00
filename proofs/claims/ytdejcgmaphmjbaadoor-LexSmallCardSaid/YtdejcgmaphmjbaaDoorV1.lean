/-
  The walks of the reference's writer: bytes and components.
-/
import Derived.Test.YtdejcgmaphmjbaaDoorAS
import Derived.Test.YtdejcgmaphmjbaaDoorWA
import Derived.Test.YtdejcgmaphmjbaaDoorRC
set_option linter.unusedSimpArgs false
set_option linter.unusedVariables false
namespace Go.Proofs.YtdejcgmaphmjbaaDoor
open Go Sat Go.RowKit Go.PlainAid
set_option maxRecDepth 100000 in
set_option maxHeartbeats 8000000 in
theorem service_any (c : Int) (w : World) : Calls Tryd.prog 67 #[.int .u8 c] w fun e w' => e = .returned (.bool (decide (svc c))) ∧ Below w.heap.size w w' := by
  refine calls_sat (cx := Tryd.cx 17 [] [] [] w) (Tryd.ok ..) Tryd.func67 rfl [.v (.int .u8 c)] rfl (by show 1 ≤ 17; omega) [] (holds_nil (Nat.le_refl _)) ?_
  repeat' ((conv => whnf); first | refine walk (Tryd.ok ..) ?_ | (refine Cnd.mk (fun h => ?_) (fun h => ?_) <;> (first | exact cndT h (by (try dsimp only); omega) | exact cndF h (by (try dsimp only); omega) | (exfalso; simp at h; omega) | simp at h | skip)) | refine kp ?_ ?_ | refine tw ?_ ?_ | refine appnil rfl ?_ | refine rawnil rfl ?_ | exact trivial | refine side2 ?_ | refine sideL2 ?_ | refine Or.inr ?_ | refine sat_drawH (Tryd.ok ..) (by kernel_rfl) ?_ | refine xi _ (And.intro rfl rfl) ?_ | refine xi _ (fun _ => And.intro rfl rfl) ?_ | refine xi _ rfl ?_)
  refine done_pure rfl rfl (congrArg Value.bool ?_)
  rw [Bool.eq_iff_iff]
  rw [decide_eq_true_iff]
  unfold svc
  simp only [Bool.or_eq_true, beq_iff_eq, or_assoc]
/-- a component as the reference writes it -/
def relC (first : Bool) (l : List UInt8) : List UInt8 := (if (first && Lib.hasPrefix l [32]) = true then [63] else []) ++ l.flatMap relB
theorem relC_step {l : List UInt8} {k : Nat} {c : UInt8} (first : Bool) (hc : l[k]? = some c) : relC first (l.take (k + 1)) = (if k = 0 then [] else relC first (l.take k)) ++ (if svc (c.toNat : Int) ∨ (first = true ∧ k = 0 ∧ c = 32) then [63, c] else [c]) := by
  cases l with
  | nil => cases hc
  | cons d l =>
    cases k with
    | zero =>
      obtain rfl : d = c := by simpa using hc
      have h32 : ¬ svc (((32 : UInt8).toNat : Nat) : Int) := by decide
      have hp : Lib.hasPrefix [d] [32] = decide (d = 32) := by
        show ([32].isPrefixOf [d]) = _
        rw [List.isPrefixOf, List.isPrefixOf, Bool.and_true, Bool.eq_iff_iff, beq_iff_eq, decide_eq_true_iff]
        exact eq_comm
      have e1 : relC first ((d :: l).take (0 + 1)) = (if (first && decide (d = 32)) = true then [63] else []) ++ relB d := by
        rw [Nat.zero_add, List.take_succ_cons, List.take_zero]
        unfold relC
        rw [hp, List.flatMap_cons, List.flatMap_nil, List.append_nil]
      rw [e1, if_pos rfl, List.nil_append]
      unfold relB
      by_cases hs : svc (d.toNat : Int)
      · have hd : d ≠ 32 := fun e => h32 (by rw [← e]; exact hs)
        have e2 : (svc (d.toNat : Int) ∨ first = true ∧ 0 = 0 ∧ d = 32) := Or.inl hs
        rw [if_pos hs, if_pos e2, decide_eq_false hd, Bool.and_false]
        rfl
      · by_cases hd : d = 32
        · subst hd
          cases first
          · have e2 : ¬ (svc (((32 : UInt8).toNat : Nat) : Int) ∨ false = true ∧ 0 = 0 ∧ (32 : UInt8) = 32) := by rintro (h | ⟨h, _⟩); exact h32 h; cases h
            rw [if_neg e2, if_neg h32]; rfl
          · have e2 : (svc (((32 : UInt8).toNat : Nat) : Int) ∨ true = true ∧ 0 = 0 ∧ (32 : UInt8) = 32) := Or.inr ⟨rfl, rfl, rfl⟩
            rw [if_pos e2, if_neg h32]; rfl
        · have e2 : ¬ (svc (d.toNat : Int) ∨ first = true ∧ 0 = 0 ∧ d = 32) := by rintro (h | ⟨_, _, h⟩); exact hs h; exact hd h
          rw [if_neg hs, if_neg e2, decide_eq_false hd, Bool.and_false]
          rfl
    | succ k =>
      have hc' : l[k]? = some c := by simpa using hc
      rw [if_neg (by omega : ¬ k + 1 = 0)]
      have hp : ∀ n, Lib.hasPrefix ((d :: l).take (n + 1)) [32] = decide (d = 32) := fun n => by
        show ([32].isPrefixOf (d :: l.take n)) = _
        rw [List.isPrefixOf, List.isPrefixOf, Bool.and_true, Bool.eq_iff_iff, beq_iff_eq, decide_eq_true_iff]
        exact eq_comm
      unfold relC
      rw [hp, hp, List.append_assoc]
      congr 1
      rw [wC_step hc]
      congr 1
      unfold relB
      by_cases hs : svc (c.toNat : Int)
      · have e2 : (svc (c.toNat : Int) ∨ first = true ∧ k + 1 = 0 ∧ c = 32) := Or.inl hs
        rw [if_pos hs, if_pos e2]
      · have e2 : ¬ (svc (c.toNat : Int) ∨ first = true ∧ k + 1 = 0 ∧ c = 32) := by rintro (h | ⟨_, h, _⟩); exact hs h; omega
        rw [if_neg hs, if_neg e2]
theorem ext_one {s : ByteArray} {k : Nat} {c : UInt8} (hc : s.data.toList[k]? = some c) : (s.extract k (k + 1)).data.toList = [c] := by
  rw [ByteArray.data_extract, Array.toList_extract]
  have hk : k < s.data.toList.length := (List.getElem?_eq_some_iff.1 hc).1
  have hd := drop_at hc
  rw [List.extract_eq_take_drop, hd]
  simp
theorem appL (s t : ByteArray) : (s ++ t).data.toList = s.data.toList ++ t.data.toList := by
  rw [ByteArray.data_append, Array.toList_append]
theorem size_len (s : ByteArray) : s.size = s.data.toList.length := rfl
set_option maxRecDepth 100000 in
set_option maxHeartbeats 8000000 in
theorem released_any (s : ByteArray) (first : Bool) (hs : s.size ≤ 100000) (w : World) : Calls Tryd.prog 56 #[.string s, .bool first] w fun e w' => e = .returned (.string (ba (relC first s.data.toList))) ∧ Below w.heap.size w w' := by
  refine calls_sat (cx := Tryd.cx 40 [] [] [] w) (Tryd.ok ..) Tryd.func56 rfl [.v (.string s), .v (.bool first)] rfl (by show 2 ≤ 40; omega) [] (holds_nil (Nat.le_refl _)) ?_
  repeat' ((conv => whnf); first | refine walk (Tryd.ok ..) ?_ | (refine Cnd.mk (fun h => ?_) (fun h => ?_) <;> (first | exact cndT h (by (try dsimp only); omega) | exact cndF h (by (try dsimp only); omega) | (exfalso; simp at h; omega) | simp at h | skip)) | refine kp ?_ ?_ | refine tw ?_ ?_ | refine appnil rfl ?_ | refine rawnil rfl ?_ | exact trivial | refine side2 ?_ | refine sideL2 ?_ | refine Or.inr ?_ | refine sat_drawH (Tryd.ok ..) (by kernel_rfl) ?_ | refine xi _ (And.intro rfl rfl) ?_ | refine xi _ (fun _ => And.intro rfl rfl) ?_ | refine xi _ rfl ?_)
  refine sat_loop (Tryd.ok ..) (α := Nat × ByteArray) (fun s1 => ([(0, .yes, .v (.string s)), (1, .yes, .v (.bool first)), (5, .yes, .v (.string s1.2)), (6, .yes, .v (.int .i64 s1.1))], []))
    (fun s1 => s1.1 ≤ s.size ∧ s1.2.size ≤ 3 * s1.1 ∧ s1.2.data.toList = if s1.1 = 0 then [] else relC first (s.data.toList.take s1.1)) (fun s1 => s.size - s1.1) (fun _ => rfl) ?_ ?_
  · refine ⟨(0, ⟨#[]⟩), ⟨Nat.zero_le _, by decide, rfl⟩, ?_, ?_, rfl⟩
    all_goals ((repeat' (first | exact trivial | exact rfl | refine And.intro ?_ ?_)) <;> (try (conv => whnf)) <;> (try simp only [SV.real, SV.r2, SV.r1]))
  rintro ⟨k, o⟩ ⟨hk, hos, ho⟩
  dsimp only at hk hos ho ⊢
  by_cases hk1 : k < s.size
  · obtain ⟨c, hc⟩ : ∃ c, s.data.toList[k]? = some c := ⟨_, List.getElem?_eq_getElem hk1⟩
    have hq : (⟨#[63]⟩ : ByteArray).size = 1 := rfl
    have hbt2 : bt s k = (c.toNat : Int) := bt_at hc
    have hbt : bt s (k : Int).toNat = (c.toNat : Int) := bt_at hc
    repeat' ((conv => whnf); first | refine walk (Tryd.ok ..) ?_ | (refine Cnd.mk (fun h => ?_) (fun h => ?_) <;> (first | exact cndT h (by (try dsimp only); omega) | exact cndF h (by (try dsimp only); omega) | (exfalso; simp at h; omega) | simp at h | skip)) | refine kp ?_ ?_ | refine tw ?_ ?_ | refine appnil rfl ?_ | refine rawnil rfl ?_ | exact trivial | refine side2 ?_ | refine sideL2 ?_ | refine Or.inr ?_ | refine sat_drawH (Tryd.ok ..) (by kernel_rfl) ?_ | refine xi _ (And.intro rfl rfl) ?_ | refine xi _ (fun _ => And.intro rfl rfl) ?_ | refine xi _ rfl ?_)
    (conv => whnf)
    refine called_pure (.v (.bool (decide (svc (c.toNat : Int))))) rfl (fun w' => by rw [hbt]; exact service_any (c.toNat : Int) w') ?_
    by_cases hsv : svc (c.toNat : Int)
    · rw [decide_eq_true hsv]
      repeat' ((conv => whnf); first | refine walk (Tryd.ok ..) ?_ | (refine Cnd.mk (fun h => ?_) (fun h => ?_) <;> (first | exact cndT h (by (try dsimp only); omega) | exact cndF h (by (try dsimp only); omega) | (exfalso; simp at h; omega) | simp at h | skip)) | refine kp ?_ ?_ | refine tw ?_ ?_ | refine appnil rfl ?_ | refine rawnil rfl ?_ | exact trivial | refine side2 ?_ | refine sideL2 ?_ | refine Or.inr ?_ | refine sat_drawH (Tryd.ok ..) (by kernel_rfl) ?_ | refine xi _ (And.intro rfl rfl) ?_ | refine xi _ (fun _ => And.intro rfl rfl) ?_ | refine xi _ rfl ?_)
      have hsz1 : (s.extract (k : Int).toNat ((k : Int) + 1).toNat).data.toList = [c] := by
        rw [show (k : Int).toNat = k from rfl, show ((k : Int) + 1).toNat = k + 1 from by omega]
        exact ext_one hc
      have hsz2 : (s.extract (k : Int).toNat ((k : Int) + 1).toNat).size = 1 := by rw [size_len, hsz1]; rfl
      refine ⟨(k + 1, (o ++ ⟨#[63]⟩) ++ s.extract (k : Int).toNat ((k : Int) + 1).toNat), ⟨⟨hk1, ?_, ?_⟩, by omega⟩, ?_, ?_, rfl⟩
      rotate_left 2
      · ((repeat' (first | exact trivial | exact rfl | refine And.intro ?_ ?_)) <;> (try (conv => whnf)) <;> (try simp only [SV.real, SV.r2, SV.r1]))
      · ((repeat' (first | exact trivial | exact rfl | refine And.intro ?_ ?_)) <;> (try (conv => whnf)) <;> (try simp only [SV.real, SV.r2, SV.r1]))
      · simp only [ByteArray.size_append, hsz2]
        have : (⟨#[63]⟩ : ByteArray).size = 1 := rfl
        omega
      · show (ByteArray.data _).toList = (if k + 1 = 0 then [] else relC _ (s.data.toList.take (k + 1)))
        rw [if_neg (by omega), relC_step _ hc, appL, hsz1]
        have hl :  (svc (c.toNat : Int) ∨ (first = true ∧ k = 0 ∧ c = 32)) := (.inl hsv)
        first
          | (rw [if_pos hl, appL, ho, List.append_assoc]; rfl)
          | rw [if_neg hl, ho]
    rw [decide_eq_false hsv]
    cases first
    · repeat' ((conv => whnf); first | refine walk (Tryd.ok ..) ?_ | (refine Cnd.mk (fun h => ?_) (fun h => ?_) <;> (first | exact cndT h (by (try dsimp only); omega) | exact cndF h (by (try dsimp only); omega) | (exfalso; simp at h; omega) | simp at h | skip)) | refine kp ?_ ?_ | refine tw ?_ ?_ | refine appnil rfl ?_ | refine rawnil rfl ?_ | exact trivial | refine side2 ?_ | refine sideL2 ?_ | refine Or.inr ?_ | refine sat_drawH (Tryd.ok ..) (by kernel_rfl) ?_ | refine xi _ (And.intro rfl rfl) ?_ | refine xi _ (fun _ => And.intro rfl rfl) ?_ | refine xi _ rfl ?_)
      have hsz1 : (s.extract (k : Int).toNat ((k : Int) + 1).toNat).data.toList = [c] := by
        rw [show (k : Int).toNat = k from rfl, show ((k : Int) + 1).toNat = k + 1 from by omega]
        exact ext_one hc
      have hsz2 : (s.extract (k : Int).toNat ((k : Int) + 1).toNat).size = 1 := by rw [size_len, hsz1]; rfl
      refine ⟨(k + 1, o ++ s.extract (k : Int).toNat ((k : Int) + 1).toNat), ⟨⟨hk1, ?_, ?_⟩, by omega⟩, ?_, ?_, rfl⟩
      rotate_left 2
      · ((repeat' (first | exact trivial | exact rfl | refine And.intro ?_ ?_)) <;> (try (conv => whnf)) <;> (try simp only [SV.real, SV.r2, SV.r1]))
      · ((repeat' (first | exact trivial | exact rfl | refine And.intro ?_ ?_)) <;> (try (conv => whnf)) <;> (try simp only [SV.real, SV.r2, SV.r1]))
      · simp only [ByteArray.size_append, hsz2]
        have : (⟨#[63]⟩ : ByteArray).size = 1 := rfl
        omega
      · show (ByteArray.data _).toList = (if k + 1 = 0 then [] else relC _ (s.data.toList.take (k + 1)))
        rw [if_neg (by omega), relC_step _ hc, appL, hsz1]
        have hl : ¬ (svc (c.toNat : Int) ∨ (false = true ∧ k = 0 ∧ c = 32)) := (by rintro (h9 | ⟨h9, _⟩) <;> first | exact hsv h9 | cases h9)
        first
          | (rw [if_pos hl, appL, ho, List.append_assoc]; rfl)
          | rw [if_neg hl, ho]
    by_cases hk0 : k = 0
    case neg =>
      repeat' ((conv => whnf); first | refine walk (Tryd.ok ..) ?_ | (refine Cnd.mk (fun h => ?_) (fun h => ?_) <;> (first | exact cndT h (by (try dsimp only); omega) | exact cndF h (by (try dsimp only); omega) | (exfalso; simp at h; omega) | simp at h | skip)) | refine kp ?_ ?_ | refine tw ?_ ?_ | refine appnil rfl ?_ | refine rawnil rfl ?_ | exact trivial | refine side2 ?_ | refine sideL2 ?_ | refine Or.inr ?_ | refine sat_drawH (Tryd.ok ..) (by kernel_rfl) ?_ | refine xi _ (And.intro rfl rfl) ?_ | refine xi _ (fun _ => And.intro rfl rfl) ?_ | refine xi _ rfl ?_)
      have hsz1 : (s.extract (k : Int).toNat ((k : Int) + 1).toNat).data.toList = [c] := by
        rw [show (k : Int).toNat = k from rfl, show ((k : Int) + 1).toNat = k + 1 from by omega]
        exact ext_one hc
      have hsz2 : (s.extract (k : Int).toNat ((k : Int) + 1).toNat).size = 1 := by rw [size_len, hsz1]; rfl
      refine ⟨(k + 1, o ++ s.extract (k : Int).toNat ((k : Int) + 1).toNat), ⟨⟨hk1, ?_, ?_⟩, by omega⟩, ?_, ?_, rfl⟩
      rotate_left 2
      · ((repeat' (first | exact trivial | exact rfl | refine And.intro ?_ ?_)) <;> (try (conv => whnf)) <;> (try simp only [SV.real, SV.r2, SV.r1]))
      · ((repeat' (first | exact trivial | exact rfl | refine And.intro ?_ ?_)) <;> (try (conv => whnf)) <;> (try simp only [SV.real, SV.r2, SV.r1]))
      · simp only [ByteArray.size_append, hsz2]
        have : (⟨#[63]⟩ : ByteArray).size = 1 := rfl
        omega
      · show (ByteArray.data _).toList = (if k + 1 = 0 then [] else relC _ (s.data.toList.take (k + 1)))
        rw [if_neg (by omega), relC_step _ hc, appL, hsz1]
        have hl : ¬ (svc (c.toNat : Int) ∨ (true = true ∧ k = 0 ∧ c = 32)) := (by rintro (h9 | ⟨_, h9, _⟩) <;> first | exact hsv h9 | exact hk0 h9)
        first
          | (rw [if_pos hl, appL, ho, List.append_assoc]; rfl)
          | rw [if_neg hl, ho]
    by_cases hc32 : c = 32
    case neg =>
      have hcn : ¬ (c.toNat : Int) = 32 := fun e => hc32 (UInt8.toNat_inj.1 (by rw [show (32 : UInt8).toNat = 32 from rfl]; omega))
      repeat' ((conv => whnf); first | refine walk (Tryd.ok ..) ?_ | (refine Cnd.mk (fun h => ?_) (fun h => ?_) <;> (first | exact cndT h (by (try dsimp only); omega) | exact cndF h (by (try dsimp only); omega) | (exfalso; simp at h; omega) | simp at h | skip)) | refine kp ?_ ?_ | refine tw ?_ ?_ | refine appnil rfl ?_ | refine rawnil rfl ?_ | exact trivial | refine side2 ?_ | refine sideL2 ?_ | refine Or.inr ?_ | refine sat_drawH (Tryd.ok ..) (by kernel_rfl) ?_ | refine xi _ (And.intro rfl rfl) ?_ | refine xi _ (fun _ => And.intro rfl rfl) ?_ | refine xi _ rfl ?_)
      have hsz1 : (s.extract (k : Int).toNat ((k : Int) + 1).toNat).data.toList = [c] := by
        rw [show (k : Int).toNat = k from rfl, show ((k : Int) + 1).toNat = k + 1 from by omega]
        exact ext_one hc
      have hsz2 : (s.extract (k : Int).toNat ((k : Int) + 1).toNat).size = 1 := by rw [size_len, hsz1]; rfl
      refine ⟨(k + 1, o ++ s.extract (k : Int).toNat ((k : Int) + 1).toNat), ⟨⟨hk1, ?_, ?_⟩, by omega⟩, ?_, ?_, rfl⟩
      rotate_left 2
      · ((repeat' (first | exact trivial | exact rfl | refine And.intro ?_ ?_)) <;> (try (conv => whnf)) <;> (try simp only [SV.real, SV.r2, SV.r1]))
      · ((repeat' (first | exact trivial | exact rfl | refine And.intro ?_ ?_)) <;> (try (conv => whnf)) <;> (try simp only [SV.real, SV.r2, SV.r1]))
      · simp only [ByteArray.size_append, hsz2]
        have : (⟨#[63]⟩ : ByteArray).size = 1 := rfl
        omega
      · show (ByteArray.data _).toList = (if k + 1 = 0 then [] else relC _ (s.data.toList.take (k + 1)))
        rw [if_neg (by omega), relC_step _ hc, appL, hsz1]
        have hl : ¬ (svc (c.toNat : Int) ∨ (true = true ∧ k = 0 ∧ c = 32)) := (by rintro (h9 | ⟨_, _, h9⟩) <;> first | exact hsv h9 | exact hc32 h9)
        first
          | (rw [if_pos hl, appL, ho, List.append_assoc]; rfl)
          | rw [if_neg hl, ho]
    · have hcn : (c.toNat : Int) = 32 := by rw [hc32]; rfl
      repeat' ((conv => whnf); first | refine walk (Tryd.ok ..) ?_ | (refine Cnd.mk (fun h => ?_) (fun h => ?_) <;> (first | exact cndT h (by (try dsimp only); omega) | exact cndF h (by (try dsimp only); omega) | (exfalso; simp at h; omega) | simp at h | skip)) | refine kp ?_ ?_ | refine tw ?_ ?_ | refine appnil rfl ?_ | refine rawnil rfl ?_ | exact trivial | refine side2 ?_ | refine sideL2 ?_ | refine Or.inr ?_ | refine sat_drawH (Tryd.ok ..) (by kernel_rfl) ?_ | refine xi _ (And.intro rfl rfl) ?_ | refine xi _ (fun _ => And.intro rfl rfl) ?_ | refine xi _ rfl ?_)
      have hsz1 : (s.extract (k : Int).toNat ((k : Int) + 1).toNat).data.toList = [c] := by
        rw [show (k : Int).toNat = k from rfl, show ((k : Int) + 1).toNat = k + 1 from by omega]
        exact ext_one hc
      have hsz2 : (s.extract (k : Int).toNat ((k : Int) + 1).toNat).size = 1 := by rw [size_len, hsz1]; rfl
      refine ⟨(k + 1, (o ++ ⟨#[63]⟩) ++ s.extract (k : Int).toNat ((k : Int) + 1).toNat), ⟨⟨hk1, ?_, ?_⟩, by omega⟩, ?_, ?_, rfl⟩
      rotate_left 2
      · ((repeat' (first | exact trivial | exact rfl | refine And.intro ?_ ?_)) <;> (try (conv => whnf)) <;> (try simp only [SV.real, SV.r2, SV.r1]))
      · ((repeat' (first | exact trivial | exact rfl | refine And.intro ?_ ?_)) <;> (try (conv => whnf)) <;> (try simp only [SV.real, SV.r2, SV.r1]))
      · simp only [ByteArray.size_append, hsz2]
        have : (⟨#[63]⟩ : ByteArray).size = 1 := rfl
        omega
      · show (ByteArray.data _).toList = (if k + 1 = 0 then [] else relC _ (s.data.toList.take (k + 1)))
        rw [if_neg (by omega), relC_step _ hc, appL, hsz1]
        have hl :  (svc (c.toNat : Int) ∨ (true = true ∧ k = 0 ∧ c = 32)) := (.inr ⟨rfl, hk0, hc32⟩)
        first
          | (rw [if_pos hl, appL, ho, List.append_assoc]; rfl)
          | rw [if_neg hl, ho]
  obtain rfl : k = s.size := by omega
  have e1 : o.data.toList = if s.size = 0 then [] else relC first s.data.toList := by rw [ho, size_len, List.take_length]
  have e2 : o = ba (relC first s.data.toList) := by
    refine ba_ext ?_
    rw [e1]
    split
    · rename_i h0
      have : s.data.toList = [] := List.eq_nil_of_length_eq_zero h0
      rw [this]
      cases first <;> rfl
    · rfl
  repeat' ((conv => whnf); first | refine walk (Tryd.ok ..) ?_ | (refine Cnd.mk (fun h => ?_) (fun h => ?_) <;> (first | exact cndT h (by (try dsimp only); omega) | exact cndF h (by (try dsimp only); omega) | (exfalso; simp at h; omega) | simp at h | skip)) | refine kp ?_ ?_ | refine tw ?_ ?_ | refine appnil rfl ?_ | refine rawnil rfl ?_ | exact trivial | refine side2 ?_ | refine sideL2 ?_ | refine Or.inr ?_ | refine sat_drawH (Tryd.ok ..) (by kernel_rfl) ?_ | refine xi _ (And.intro rfl rfl) ?_ | refine xi _ (fun _ => And.intro rfl rfl) ?_ | refine xi _ rfl ?_)
  rw [← e2]
  exact done_pure rfl rfl rfl
end Go.Proofs.YtdejcgmaphmjbaaDoor
