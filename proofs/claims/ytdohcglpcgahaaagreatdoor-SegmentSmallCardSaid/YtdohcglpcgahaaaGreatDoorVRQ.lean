/-
  The walks of the reference's writer: bytes and components. The walk of the reference's Right. The walk of the reference's Written. The walks of the reference's Write, and of the law's bare.
-/
import Derived.Test.YtdohcglpcgahaaaGreatDoorAS
import Derived.Test.YtdohcglpcgahaaaGreatDoorW7
import Derived.Test.YtdohcglpcgahaaaGreatDoorW6
import Derived.Test.YtdohcglpcgahaaaGreatDoorW1
import Derived.Test.YtdohcglpcgahaaaGreatDoorSTX
import Derived.Test.YtdohcglpcgahaaaGreatDoorRC
import Derived.Test.YtdohcglpcgahaaaGreatDoorNX
import Derived.Test.YtdohcglpcgahaaaGreatDoorW2
set_option linter.unusedSimpArgs false
set_option linter.unusedVariables false
namespace Go.Proofs.YtdohcglpcgahaaaGreatDoor
section
open Go Sat Go.RowKit Go.PlainAid
set_option maxRecDepth 100000 in
set_option maxHeartbeats 8000000 in
theorem service_any (c : Int) (w : World) : Calls Tryz.prog 98 #[.int .u8 c] w fun e w' => e = .returned (.bool (decide (svc c))) ∧ Below w.heap.size w w' := by
  refine calls_sat (cx := Tryz.cx 17 [] [] [] w) (Tryz.ok ..) Tryz.func98 rfl [.v (.int .u8 c)] rfl (by show 1 ≤ 17; omega) [] (holds_nil (Nat.le_refl _)) ?_
  repeat' ((conv => whnf); first | refine walk (Tryz.ok ..) ?_ | refine side2 ?_ | fail)
  refine done_pure rfl rfl (congrArg Value.bool ?_)
  rw [Bool.eq_iff_iff]
  rw [decide_eq_true_iff]
  unfold svc
  simp only [Bool.or_eq_true, beq_iff_eq, or_assoc]
/-- a component as the reference writes it -/
def relC (first : Bool) (l : List UInt8) : List UInt8 := (if (first && Lib.hasPrefix l [32]) = true then [63] else []) ++ l.flatMap relB
theorem relC_step {l : List UInt8} {k : Nat} {c : UInt8} (first : Bool) (hc : l[k]? = some c) : relC first (l.take (k + 1)) = (if k = 0 then [] else relC first (l.take k)) ++ (if svc (c.toNat : Int) ∨ (first = true ∧ k = 0 ∧ c = 32) then [63, c] else [c]) := by
  cases l with
  | nil => cases hc
  | cons d l =>
    cases k with
    | zero =>
      obtain rfl : d = c := by simpa using hc
      have h32 : ¬ svc (((32 : UInt8).toNat : Nat) : Int) := by decide
      have hp : Lib.hasPrefix [d] [32] = decide (d = 32) := by
        show ([32].isPrefixOf [d]) = _
        rw [List.isPrefixOf, List.isPrefixOf, Bool.and_true, Bool.eq_iff_iff, beq_iff_eq, decide_eq_true_iff]
        exact eq_comm
      have e1 : relC first ((d :: l).take (0 + 1)) = (if (first && decide (d = 32)) = true then [63] else []) ++ relB d := by
        rw [Nat.zero_add, List.take_succ_cons, List.take_zero]
        unfold relC
        rw [hp, List.flatMap_cons, List.flatMap_nil, List.append_nil]
      rw [e1, if_pos rfl, List.nil_append]
      unfold relB
      by_cases hs : svc (d.toNat : Int)
      · have hd : d ≠ 32 := fun e => h32 (by rw [← e]; exact hs)
        have e2 : (svc (d.toNat : Int) ∨ first = true ∧ 0 = 0 ∧ d = 32) := Or.inl hs
        rw [if_pos hs, if_pos e2, decide_eq_false hd, Bool.and_false]
        rfl
      · by_cases hd : d = 32
        · subst hd
          cases first
          · have e2 : ¬ (svc (((32 : UInt8).toNat : Nat) : Int) ∨ false = true ∧ 0 = 0 ∧ (32 : UInt8) = 32) := by rintro (h | ⟨h, _⟩); exact h32 h; cases h
            rw [if_neg e2, if_neg h32]; rfl
          · have e2 : (svc (((32 : UInt8).toNat : Nat) : Int) ∨ true = true ∧ 0 = 0 ∧ (32 : UInt8) = 32) := Or.inr ⟨rfl, rfl, rfl⟩
            rw [if_pos e2, if_neg h32]; rfl
        · have e2 : ¬ (svc (d.toNat : Int) ∨ first = true ∧ 0 = 0 ∧ d = 32) := by rintro (h | ⟨_, _, h⟩); exact hs h; exact hd h
          rw [if_neg hs, if_neg e2, decide_eq_false hd, Bool.and_false]
          rfl
    | succ k =>
      have hc' : l[k]? = some c := by simpa using hc
      rw [if_neg (by omega : ¬ k + 1 = 0)]
      have hp : ∀ n, Lib.hasPrefix ((d :: l).take (n + 1)) [32] = decide (d = 32) := fun n => by
        show ([32].isPrefixOf (d :: l.take n)) = _
        rw [List.isPrefixOf, List.isPrefixOf, Bool.and_true, Bool.eq_iff_iff, beq_iff_eq, decide_eq_true_iff]
        exact eq_comm
      unfold relC
      rw [hp, hp, List.append_assoc]
      congr 1
      rw [wC_step hc]
      congr 1
      unfold relB
      by_cases hs : svc (c.toNat : Int)
      · have e2 : (svc (c.toNat : Int) ∨ first = true ∧ k + 1 = 0 ∧ c = 32) := Or.inl hs
        rw [if_pos hs, if_pos e2]
      · have e2 : ¬ (svc (c.toNat : Int) ∨ first = true ∧ k + 1 = 0 ∧ c = 32) := by rintro (h | ⟨_, h, _⟩); exact hs h; omega
        rw [if_neg hs, if_neg e2]
theorem ext_one {s : ByteArray} {k : Nat} {c : UInt8} (hc : s.data.toList[k]? = some c) : (s.extract k (k + 1)).data.toList = [c] := by
  rw [ByteArray.data_extract, Array.toList_extract]
  have hk : k < s.data.toList.length := (List.getElem?_eq_some_iff.1 hc).1
  have hd := drop_at hc
  rw [List.extract_eq_take_drop, hd]
  simp
theorem appL (s t : ByteArray) : (s ++ t).data.toList = s.data.toList ++ t.data.toList := by
  rw [ByteArray.data_append, Array.toList_append]
theorem size_len (s : ByteArray) : s.size = s.data.toList.length := rfl
set_option maxRecDepth 100000 in
set_option maxHeartbeats 8000000 in
theorem released_any (s : ByteArray) (first : Bool) (hs : s.size ≤ 100000) (w : World) : Calls Tryz.prog 85 #[.string s, .bool first] w fun e w' => e = .returned (.string (ba (relC first s.data.toList))) ∧ Below w.heap.size w w' := by
  refine calls_sat (cx := Tryz.cx 40 [] [] [] w) (Tryz.ok ..) Tryz.func85 rfl [.v (.string s), .v (.bool first)] rfl (by show 2 ≤ 40; omega) [] (holds_nil (Nat.le_refl _)) ?_
  repeat' ((conv => whnf); first | refine walk (Tryz.ok ..) ?_ | fail)
  refine sat_loop (Tryz.ok ..) (α := Nat × ByteArray) (fun s1 => ([(0, .yes, .v (.string s)), (1, .yes, .v (.bool first)), (5, .yes, .v (.string s1.2)), (6, .yes, .v (.int .i64 s1.1))], []))
    (fun s1 => s1.1 ≤ s.size ∧ s1.2.size ≤ 3 * s1.1 ∧ s1.2.data.toList = if s1.1 = 0 then [] else relC first (s.data.toList.take s1.1)) (fun s1 => s.size - s1.1) (fun _ => rfl) ?_ ?_
  · refine ⟨(0, ⟨#[]⟩), ⟨Nat.zero_le _, by decide, rfl⟩, ?_, ?_, rfl⟩
    all_goals ((repeat' (first | exact trivial | exact rfl | refine And.intro ?_ ?_)) <;> (try (conv => whnf)) <;> (try simp only [SV.real, SV.r2, SV.r1]))
  rintro ⟨k, o⟩ ⟨hk, hos, ho⟩
  dsimp only at hk hos ho ⊢
  by_cases hk1 : k < s.size
  · obtain ⟨c, hc⟩ : ∃ c, s.data.toList[k]? = some c := ⟨_, List.getElem?_eq_getElem hk1⟩
    have hq : (⟨#[63]⟩ : ByteArray).size = 1 := rfl
    have hbt2 : bt s k = (c.toNat : Int) := bt_at hc
    have hbt : bt s (k : Int).toNat = (c.toNat : Int) := bt_at hc
    repeat' ((conv => whnf); first | refine walk (Tryz.ok ..) ?_ | (refine Cnd.mk (fun h => ?_) (fun h => ?_) <;> (first | exact cndT h (by (try dsimp only); omega) | exact cndF h (by (try dsimp only); omega) | (exfalso; simp at h; omega) | simp at h | skip)) | refine side2 ?_ | fail)
    (conv => whnf)
    refine called_pure (.v (.bool (decide (svc (c.toNat : Int))))) rfl (fun w' => by rw [hbt]; exact service_any (c.toNat : Int) w') ?_
    by_cases hsv : svc (c.toNat : Int)
    · rw [decide_eq_true hsv]
      repeat' ((conv => whnf); first | refine walk (Tryz.ok ..) ?_ | (refine Cnd.mk (fun h => ?_) (fun h => ?_) <;> (first | exact cndT h (by (try dsimp only); omega) | exact cndF h (by (try dsimp only); omega) | (exfalso; simp at h; omega) | simp at h | skip)) | refine side2 ?_ | refine sideL2 ?_ | fail)
      have hsz1 : (s.extract (k : Int).toNat ((k : Int) + 1).toNat).data.toList = [c] := by
        rw [show (k : Int).toNat = k from rfl, show ((k : Int) + 1).toNat = k + 1 from by omega]
        exact ext_one hc
      have hsz2 : (s.extract (k : Int).toNat ((k : Int) + 1).toNat).size = 1 := by rw [size_len, hsz1]; rfl
      refine ⟨(k + 1, (o ++ ⟨#[63]⟩) ++ s.extract (k : Int).toNat ((k : Int) + 1).toNat), ⟨⟨hk1, ?_, ?_⟩, by omega⟩, ?_, ?_, rfl⟩
      rotate_left 2
      · ((repeat' (first | exact trivial | exact rfl | refine And.intro ?_ ?_)) <;> (try (conv => whnf)) <;> (try simp only [SV.real, SV.r2, SV.r1]))
      · ((repeat' (first | exact trivial | exact rfl | refine And.intro ?_ ?_)) <;> (try (conv => whnf)) <;> (try simp only [SV.real, SV.r2, SV.r1]))
      · simp only [ByteArray.size_append, hsz2]
        have : (⟨#[63]⟩ : ByteArray).size = 1 := rfl
        omega
      · show (ByteArray.data _).toList = (if k + 1 = 0 then [] else relC _ (s.data.toList.take (k + 1)))
        rw [if_neg (by omega), relC_step _ hc, appL, hsz1]
        have hl :  (svc (c.toNat : Int) ∨ (first = true ∧ k = 0 ∧ c = 32)) := (.inl hsv)
        first
          | (rw [if_pos hl, appL, ho, List.append_assoc]; rfl)
          | rw [if_neg hl, ho]
    rw [decide_eq_false hsv]
    cases first
    · repeat' ((conv => whnf); first | refine walk (Tryz.ok ..) ?_ | (refine Cnd.mk (fun h => ?_) (fun h => ?_) <;> (first | exact cndT h (by (try dsimp only); omega) | exact cndF h (by (try dsimp only); omega) | (exfalso; simp at h; omega) | simp at h | skip)) | refine side2 ?_ | refine sideL2 ?_ | fail)
      have hsz1 : (s.extract (k : Int).toNat ((k : Int) + 1).toNat).data.toList = [c] := by
        rw [show (k : Int).toNat = k from rfl, show ((k : Int) + 1).toNat = k + 1 from by omega]
        exact ext_one hc
      have hsz2 : (s.extract (k : Int).toNat ((k : Int) + 1).toNat).size = 1 := by rw [size_len, hsz1]; rfl
      refine ⟨(k + 1, o ++ s.extract (k : Int).toNat ((k : Int) + 1).toNat), ⟨⟨hk1, ?_, ?_⟩, by omega⟩, ?_, ?_, rfl⟩
      rotate_left 2
      · ((repeat' (first | exact trivial | exact rfl | refine And.intro ?_ ?_)) <;> (try (conv => whnf)) <;> (try simp only [SV.real, SV.r2, SV.r1]))
      · ((repeat' (first | exact trivial | exact rfl | refine And.intro ?_ ?_)) <;> (try (conv => whnf)) <;> (try simp only [SV.real, SV.r2, SV.r1]))
      · simp only [ByteArray.size_append, hsz2]
        have : (⟨#[63]⟩ : ByteArray).size = 1 := rfl
        omega
      · show (ByteArray.data _).toList = (if k + 1 = 0 then [] else relC _ (s.data.toList.take (k + 1)))
        rw [if_neg (by omega), relC_step _ hc, appL, hsz1]
        have hl : ¬ (svc (c.toNat : Int) ∨ (false = true ∧ k = 0 ∧ c = 32)) := (by rintro (h9 | ⟨h9, _⟩) <;> first | exact hsv h9 | cases h9)
        first
          | (rw [if_pos hl, appL, ho, List.append_assoc]; rfl)
          | rw [if_neg hl, ho]
    by_cases hk0 : k = 0
    case neg =>
      repeat' ((conv => whnf); first | refine walk (Tryz.ok ..) ?_ | (refine Cnd.mk (fun h => ?_) (fun h => ?_) <;> (first | exact cndT h (by (try dsimp only); omega) | exact cndF h (by (try dsimp only); omega) | (exfalso; simp at h; omega) | simp at h | skip)) | refine side2 ?_ | refine sideL2 ?_ | fail)
      have hsz1 : (s.extract (k : Int).toNat ((k : Int) + 1).toNat).data.toList = [c] := by
        rw [show (k : Int).toNat = k from rfl, show ((k : Int) + 1).toNat = k + 1 from by omega]
        exact ext_one hc
      have hsz2 : (s.extract (k : Int).toNat ((k : Int) + 1).toNat).size = 1 := by rw [size_len, hsz1]; rfl
      refine ⟨(k + 1, o ++ s.extract (k : Int).toNat ((k : Int) + 1).toNat), ⟨⟨hk1, ?_, ?_⟩, by omega⟩, ?_, ?_, rfl⟩
      rotate_left 2
      · ((repeat' (first | exact trivial | exact rfl | refine And.intro ?_ ?_)) <;> (try (conv => whnf)) <;> (try simp only [SV.real, SV.r2, SV.r1]))
      · ((repeat' (first | exact trivial | exact rfl | refine And.intro ?_ ?_)) <;> (try (conv => whnf)) <;> (try simp only [SV.real, SV.r2, SV.r1]))
      · simp only [ByteArray.size_append, hsz2]
        have : (⟨#[63]⟩ : ByteArray).size = 1 := rfl
        omega
      · show (ByteArray.data _).toList = (if k + 1 = 0 then [] else relC _ (s.data.toList.take (k + 1)))
        rw [if_neg (by omega), relC_step _ hc, appL, hsz1]
        have hl : ¬ (svc (c.toNat : Int) ∨ (true = true ∧ k = 0 ∧ c = 32)) := (by rintro (h9 | ⟨_, h9, _⟩) <;> first | exact hsv h9 | exact hk0 h9)
        first
          | (rw [if_pos hl, appL, ho, List.append_assoc]; rfl)
          | rw [if_neg hl, ho]
    by_cases hc32 : c = 32
    case neg =>
      have hcn : ¬ (c.toNat : Int) = 32 := fun e => hc32 (UInt8.toNat_inj.1 (by rw [show (32 : UInt8).toNat = 32 from rfl]; omega))
      repeat' ((conv => whnf); first | refine walk (Tryz.ok ..) ?_ | (refine Cnd.mk (fun h => ?_) (fun h => ?_) <;> (first | exact cndT h (by (try dsimp only); omega) | exact cndF h (by (try dsimp only); omega) | (exfalso; simp at h; omega) | simp at h | skip)) | refine side2 ?_ | refine sideL2 ?_ | fail)
      have hsz1 : (s.extract (k : Int).toNat ((k : Int) + 1).toNat).data.toList = [c] := by
        rw [show (k : Int).toNat = k from rfl, show ((k : Int) + 1).toNat = k + 1 from by omega]
        exact ext_one hc
      have hsz2 : (s.extract (k : Int).toNat ((k : Int) + 1).toNat).size = 1 := by rw [size_len, hsz1]; rfl
      refine ⟨(k + 1, o ++ s.extract (k : Int).toNat ((k : Int) + 1).toNat), ⟨⟨hk1, ?_, ?_⟩, by omega⟩, ?_, ?_, rfl⟩
      rotate_left 2
      · ((repeat' (first | exact trivial | exact rfl | refine And.intro ?_ ?_)) <;> (try (conv => whnf)) <;> (try simp only [SV.real, SV.r2, SV.r1]))
      · ((repeat' (first | exact trivial | exact rfl | refine And.intro ?_ ?_)) <;> (try (conv => whnf)) <;> (try simp only [SV.real, SV.r2, SV.r1]))
      · simp only [ByteArray.size_append, hsz2]
        have : (⟨#[63]⟩ : ByteArray).size = 1 := rfl
        omega
      · show (ByteArray.data _).toList = (if k + 1 = 0 then [] else relC _ (s.data.toList.take (k + 1)))
        rw [if_neg (by omega), relC_step _ hc, appL, hsz1]
        have hl : ¬ (svc (c.toNat : Int) ∨ (true = true ∧ k = 0 ∧ c = 32)) := (by rintro (h9 | ⟨_, _, h9⟩) <;> first | exact hsv h9 | exact hc32 h9)
        first
          | (rw [if_pos hl, appL, ho, List.append_assoc]; rfl)
          | rw [if_neg hl, ho]
    · have hcn : (c.toNat : Int) = 32 := by rw [hc32]; rfl
      repeat' ((conv => whnf); first | refine walk (Tryz.ok ..) ?_ | (refine Cnd.mk (fun h => ?_) (fun h => ?_) <;> (first | exact cndT h (by (try dsimp only); omega) | exact cndF h (by (try dsimp only); omega) | (exfalso; simp at h; omega) | simp at h | skip)) | refine side2 ?_ | refine sideL2 ?_ | fail)
      have hsz1 : (s.extract (k : Int).toNat ((k : Int) + 1).toNat).data.toList = [c] := by
        rw [show (k : Int).toNat = k from rfl, show ((k : Int) + 1).toNat = k + 1 from by omega]
        exact ext_one hc
      have hsz2 : (s.extract (k : Int).toNat ((k : Int) + 1).toNat).size = 1 := by rw [size_len, hsz1]; rfl
      refine ⟨(k + 1, (o ++ ⟨#[63]⟩) ++ s.extract (k : Int).toNat ((k : Int) + 1).toNat), ⟨⟨hk1, ?_, ?_⟩, by omega⟩, ?_, ?_, rfl⟩
      rotate_left 2
      · ((repeat' (first | exact trivial | exact rfl | refine And.intro ?_ ?_)) <;> (try (conv => whnf)) <;> (try simp only [SV.real, SV.r2, SV.r1]))
      · ((repeat' (first | exact trivial | exact rfl | refine And.intro ?_ ?_)) <;> (try (conv => whnf)) <;> (try simp only [SV.real, SV.r2, SV.r1]))
      · simp only [ByteArray.size_append, hsz2]
        have : (⟨#[63]⟩ : ByteArray).size = 1 := rfl
        omega
      · show (ByteArray.data _).toList = (if k + 1 = 0 then [] else relC _ (s.data.toList.take (k + 1)))
        rw [if_neg (by omega), relC_step _ hc, appL, hsz1]
        have hl :  (svc (c.toNat : Int) ∨ (true = true ∧ k = 0 ∧ c = 32)) := (.inr ⟨rfl, hk0, hc32⟩)
        first
          | (rw [if_pos hl, appL, ho, List.append_assoc]; rfl)
          | rw [if_neg hl, ho]
  obtain rfl : k = s.size := by omega
  have e1 : o.data.toList = if s.size = 0 then [] else relC first s.data.toList := by rw [ho, size_len, List.take_length]
  have e2 : o = ba (relC first s.data.toList) := by
    refine ba_ext ?_
    rw [e1]
    split
    · rename_i h0
      have : s.data.toList = [] := List.eq_nil_of_length_eq_zero h0
      rw [this]
      cases first <;> rfl
    · rfl
  repeat' ((conv => whnf); first | refine walk (Tryz.ok ..) ?_ | (refine Cnd.mk (fun h => ?_) (fun h => ?_) <;> (first | exact cndT h (by (try dsimp only); omega) | exact cndF h (by (try dsimp only); omega) | (exfalso; simp at h; omega) | simp at h | skip)) | fail)
  rw [← e2]
  exact done_pure rfl rfl rfl
end
section
open Go Sat Go.RowKit Go.PlainAid
set_option maxRecDepth 100000 in
set_option maxHeartbeats 8000000 in
theorem rRight_any (a : Segm) (va : Value) (w : World) (hA : NSA w (fun _ => True) va a) :
    Calls Tryz.prog 44 #[va] w fun e w' => e = .returned (.bool (rightS a)) ∧ Below w.heap.size w w' := by
  obtain ⟨A', A, cA, xs, rfl, aA, hcA, hrA, -, hxA⟩ := hA
  refine calls_sat (cx := Tryz.cx 86 [] [] [] w) (Tryz.ok ..) Tryz.func44 rfl [.v (.slice A' a.length cA)] rfl (by show 1 ≤ 86; omega) [] (holds_nil (Nat.le_refl _)) ?_
  by_cases hl : 1 ≤ a.length ∧ a.length ≤ 30
  case neg =>
    rw [show rightS a = false from by unfold rightS; rw [decide_eq_false hl]; rfl]
    repeat' ((conv => whnf); first | refine walk (Tryz.ok ..) ?_ | (refine Cnd.mk (fun h => ?_) (fun h => ?_) <;> (first | exact cndT h (by (try dsimp only); omega) | exact cndF h (by (try dsimp only); omega) | (exfalso; simp at h; omega) | simp at h | skip)) | refine side2 ?_ | fail)
    · exact done_pure rfl rfl rfl
    · exfalso
      obtain ⟨h9, h8⟩ := h
      have := List.length_pos_iff.2 h9
      omega
  rw [show rightS a = a.all rightE from by unfold rightS; rw [decide_eq_true hl]; rfl]
  repeat' ((conv => whnf); first | refine walk (Tryz.ok ..) ?_ | (refine Cnd.mk (fun h => ?_) (fun h => ?_) <;> (first | exact cndT h (by (try dsimp only); omega) | exact cndF h (by (try dsimp only); omega) | (exfalso; simp at h; omega) | simp at h | skip)) | refine side2 ?_ | fail)
  · exfalso
    rcases h with h9 | h9
    · rw [h9] at hl
      simp at hl
    · omega
  refine sat_loop (Tryz.ok ..) (α := Nat) (fun i => ([(0, .yes, .v (.slice A' a.length cA)), (3, .yes, .v (.int .i64 i))], []))
    (fun k => k ≤ a.length ∧ (a.take k).all rightE = true) (fun k => a.length - k) (fun _ => rfl) ?_ ?_
  · refine ⟨0, ⟨Nat.zero_le _, by simp⟩, ?_, ?_, rfl⟩
    all_goals ((repeat' (first | exact trivial | exact rfl | refine And.intro ?_ ?_)) <;> (try (conv => whnf)) <;> (try simp only [SV.real, SV.r2, SV.r1]))
  rintro i ⟨hi, he⟩
  by_cases hi1 : i < a.length
  case neg =>
    obtain rfl : i = a.length := by omega
    rw [List.take_length] at he
    rw [he]
    repeat' ((conv => whnf); first | refine walk (Tryz.ok ..) ?_ | (refine Cnd.mk (fun h => ?_) (fun h => ?_) <;> (first | exact cndT h (by (try dsimp only); omega) | exact cndF h (by (try dsimp only); omega) | (exfalso; simp at h; omega) | simp at h | skip)) | fail)
    exact done_pure rfl rfl rfl
  obtain ⟨s, hs⟩ : ∃ s, a[i]? = some s := ⟨_, List.getElem?_eq_getElem hi1⟩
  obtain ⟨x, hx, hne⟩ := nest_at hxA hrA.1 hs
  obtain ⟨A1', A1, cA1, rfl, aA1, hcA1, hrA1, -⟩ := nea_row hne
  obtain ⟨p, rfl, rfl⟩ := some_of aA hrA (by omega)
  by_cases hl1 : 1 ≤ s.length ∧ s.length ≤ 10
  case neg =>
    rw [all_no hs (show rightE s = false from by unfold rightE; rw [decide_eq_false hl1]; rfl)]
    repeat' ((conv => whnf); first | refine walk (Tryz.ok ..) ?_ | (refine Cnd.mk (fun h => ?_) (fun h => ?_) <;> (first | exact cndT h (by (try dsimp only); omega) | exact cndF h (by (try dsimp only); omega) | (exfalso; simp at h; omega) | simp at h | skip)) | refine side2 ?_ | refine xi _ (fun _ => (ro_at rfl rfl hrA hx rfl)) ?_ | refine xi _ (ro_at rfl rfl hrA hx rfl) ?_ | fail)
    · exact done_pure rfl rfl rfl
    · exfalso
      obtain ⟨h9, h8⟩ := h
      have := List.length_pos_iff.2 h9
      omega
  have eS : rightE s = s.all rightC := by unfold rightE; rw [decide_eq_true hl1]; rfl
  repeat' ((conv => whnf); first | refine walk (Tryz.ok ..) ?_ | (refine Cnd.mk (fun h => ?_) (fun h => ?_) <;> (first | exact cndT h (by (try dsimp only); omega) | exact cndF h (by (try dsimp only); omega) | (exfalso; simp at h; omega) | simp at h | skip)) | refine side2 ?_ | refine xi _ (fun _ => (ro_at rfl rfl hrA hx rfl)) ?_ | refine xi _ (ro_at rfl rfl hrA hx rfl) ?_ | fail)
  · exfalso
    rcases h with h9 | h9
    · rw [h9] at hl1
      simp at hl1
    · omega
  refine sat_loop (Tryz.ok ..) (α := Nat) (fun k => ([(0, .yes, .v (.slice (adr (some p)) a.length cA)), (3, .yes, .v (.int .i64 i)), (4, .yes, .v (.int .i64 k))], []))
    (fun k => k ≤ s.length ∧ (s.take k).all rightC = true) (fun k => s.length - k) (fun _ => rfl) ?_ ?_
  · refine ⟨0, ⟨Nat.zero_le _, by simp⟩, ?_, ?_, rfl⟩
    all_goals ((repeat' (first | exact trivial | exact rfl | refine And.intro ?_ ?_)) <;> (try (conv => whnf)) <;> (try simp only [SV.real, SV.r2, SV.r1]))
  rintro k ⟨hk, he1⟩
  by_cases hk1 : k < s.length
  case neg =>
    obtain rfl : k = s.length := by omega
    rw [List.take_length] at he1
    repeat' ((conv => whnf); first | refine walk (Tryz.ok ..) ?_ | (refine Cnd.mk (fun h => ?_) (fun h => ?_) <;> (first | exact cndT h (by (try dsimp only); omega) | exact cndF h (by (try dsimp only); omega) | (exfalso; simp at h; omega) | simp at h | skip)) | refine side2 ?_ | refine sideL2 ?_ | refine xi _ (ro_at rfl rfl hrA hx rfl) ?_ | fail)
    refine ⟨i + 1, ⟨⟨hi1, all_step he hs (eS.trans he1)⟩, by omega⟩, ?_, ?_, rfl⟩
    all_goals ((repeat' (first | exact trivial | exact rfl | refine And.intro ?_ ?_)) <;> (try (conv => whnf)) <;> (try simp only [SV.real, SV.r2, SV.r1]))
  obtain ⟨c, hc⟩ : ∃ c, s[k]? = some c := ⟨_, List.getElem?_eq_getElem hk1⟩
  obtain ⟨q, rfl, rfl⟩ := some_of aA1 hrA1 (by omega)
  by_cases hsz : c.size ≤ 100
  case neg =>
    rw [all_no hs (eS.trans (all_no hc (show rightC c = false from by unfold rightC; rw [decide_eq_false hsz]; rfl)))]
    repeat' ((conv => whnf); first | refine walk (Tryz.ok ..) ?_ | (refine Cnd.mk (fun h => ?_) (fun h => ?_) <;> (first | exact cndT h (by (try dsimp only); omega) | exact cndF h (by (try dsimp only); omega) | (exfalso; simp at h; omega) | simp at h | skip)) | refine side2 ?_ | refine xi _ (ro_at rfl rfl hrA hx rfl) ?_ | refine xi _ (ro_at rfl rfl hrA1 (str_cell hc) rfl) ?_ | fail)
    all_goals exact done_pure rfl rfl rfl
  repeat' ((conv => whnf); first | refine walk (Tryz.ok ..) ?_ | (refine Cnd.mk (fun h => ?_) (fun h => ?_) <;> (first | exact cndT h (by (try dsimp only); omega) | exact cndF h (by (try dsimp only); omega) | (exfalso; simp at h; omega) | simp at h | skip)) | refine side2 ?_ | refine xi _ (ro_at rfl rfl hrA hx rfl) ?_ | refine xi _ (ro_at rfl rfl hrA1 (str_cell hc) rfl) ?_ | fail)
  refine sat_loop (Tryz.ok ..) (α := Nat) (fun j => ([(0, .yes, .v (.slice (adr (some p)) a.length cA)), (3, .yes, .v (.int .i64 i)), (4, .yes, .v (.int .i64 k)), (5, .yes, .v (.int .i64 j))], []))
    (fun j => j ≤ c.size ∧ (c.data.toList.take j).any badB = false) (fun j => c.size - j) (fun _ => rfl) ?_ ?_
  · refine ⟨0, ⟨Nat.zero_le _, by simp⟩, ?_, ?_, rfl⟩
    all_goals ((repeat' (first | exact trivial | exact rfl | refine And.intro ?_ ?_)) <;> (try (conv => whnf)) <;> (try simp only [SV.real, SV.r2, SV.r1]))
  rintro j ⟨hj, hany⟩
  by_cases hj1 : j < c.size
  case neg =>
    obtain rfl : j = c.size := by omega
    rw [size_len, List.take_length] at hany
    have hrc : rightC c = true := by unfold rightC; rw [decide_eq_true hsz, hany]; rfl
    repeat' ((conv => whnf); first | refine walk (Tryz.ok ..) ?_ | (refine Cnd.mk (fun h => ?_) (fun h => ?_) <;> (first | exact cndT h (by (try dsimp only); omega) | exact cndF h (by (try dsimp only); omega) | (exfalso; simp at h; omega) | simp at h | skip)) | refine side2 ?_ | refine sideL2 ?_ | refine xi _ (ro_at rfl rfl hrA hx rfl) ?_ | refine xi _ (ro_at rfl rfl hrA1 (str_cell hc) rfl) ?_ | fail)
    refine ⟨k + 1, ⟨⟨hk1, all_step he1 hc hrc⟩, by omega⟩, ?_, ?_, rfl⟩
    all_goals ((repeat' (first | exact trivial | exact rfl | refine And.intro ?_ ?_)) <;> (try (conv => whnf)) <;> (try simp only [SV.real, SV.r2, SV.r1]))
  obtain ⟨b, hb⟩ : ∃ b, c.data.toList[j]? = some b := ⟨_, List.getElem?_eq_getElem hj1⟩
  have hbt : bt c (j : Int).toNat = (b.toNat : Int) := bt_at hb
  have hbt2 : bt c j = (b.toNat : Int) := bt_at hb
  by_cases hbad : badB b = true
  · have hn : b.toNat < 32 ∨ 126 < b.toNat := by unfold badB at hbad; exact of_decide_eq_true hbad
    have hbc : rightC c = false := by
      unfold rightC
      rw [decide_eq_true hsz, show c.data.toList.any badB = true from List.any_eq_true.2 ⟨b, List.mem_of_getElem? hb, hbad⟩]
      rfl
    rw [all_no hs (eS.trans (all_no hc hbc))]
    by_cases h32 : b.toNat < 32
    · repeat' ((conv => whnf); first | refine walk (Tryz.ok ..) ?_ | (refine Cnd.mk (fun h => ?_) (fun h => ?_) <;> (first | exact cndT h (by (try dsimp only); omega) | exact cndF h (by (try dsimp only); omega) | (exfalso; simp at h; omega) | simp at h | skip)) | refine side2 ?_ | refine xi _ (fun _ => (ro_at rfl rfl hrA hx rfl)) ?_ | refine xi _ (ro_at rfl rfl hrA hx rfl) ?_ | refine xi _ (fun _ => (ro_at rfl rfl hrA1 (str_cell hc) rfl)) ?_ | refine xi _ (ro_at rfl rfl hrA1 (str_cell hc) rfl) ?_ | fail)
      all_goals exact done_pure rfl rfl rfl
    · repeat' ((conv => whnf); first | refine walk (Tryz.ok ..) ?_ | (refine Cnd.mk (fun h => ?_) (fun h => ?_) <;> (first | exact cndT h (by (try dsimp only); omega) | exact cndF h (by (try dsimp only); omega) | (exfalso; simp at h; omega) | simp at h | skip)) | refine side2 ?_ | refine xi _ (fun _ => (ro_at rfl rfl hrA hx rfl)) ?_ | refine xi _ (ro_at rfl rfl hrA hx rfl) ?_ | refine xi _ (fun _ => (ro_at rfl rfl hrA1 (str_cell hc) rfl)) ?_ | refine xi _ (ro_at rfl rfl hrA1 (str_cell hc) rfl) ?_ | fail)
      all_goals exact done_pure rfl rfl rfl
  · have hn := badB_no (by simpa using hbad : badB b = false)
    have hany2 : (c.data.toList.take (j + 1)).any badB = false := by
      rw [List.take_add_one, hb, List.any_append, hany]
      simp [hbad]
    repeat' ((conv => whnf); first | refine walk (Tryz.ok ..) ?_ | (refine Cnd.mk (fun h => ?_) (fun h => ?_) <;> (first | exact cndT h (by (try dsimp only); omega) | exact cndF h (by (try dsimp only); omega) | (exfalso; simp at h; omega) | simp at h | skip)) | refine side2 ?_ | refine sideL2 ?_ | refine xi _ (fun _ => (ro_at rfl rfl hrA hx rfl)) ?_ | refine xi _ (ro_at rfl rfl hrA hx rfl) ?_ | refine xi _ (fun _ => (ro_at rfl rfl hrA1 (str_cell hc) rfl)) ?_ | refine xi _ (ro_at rfl rfl hrA1 (str_cell hc) rfl) ?_ | fail)
    refine ⟨j + 1, ⟨⟨hj1, hany2⟩, by omega⟩, ?_, ?_, rfl⟩
    all_goals ((repeat' (first | exact trivial | exact rfl | refine And.intro ?_ ?_)) <;> (try (conv => whnf)) <;> (try simp only [SV.real, SV.r2, SV.r1]))
end
section
open Go Sat Go.RowKit Go.PlainAid
def blS (s : Segm) : List UInt8 := if blankS s = true then [63] else []
def W1 (s : Segm) (i : Nat) : List UInt8 := (if 0 < i then blS s else []) ++ joinW 43 wE (s.take i)
def W2 (s : Segm) (e : Elem) (i k : Nat) : List UInt8 := W1 s i ++ ((if 0 < i then [43] else []) ++ ((if i = 0 ∧ 0 < k then blS s else []) ++ joinW 58 wC (e.take k)))
theorem W2_step {s : Segm} {e : Elem} {i k : Nat} {c : ByteArray} (he : s[i]? = some e) (hc : e[k]? = some c) : W2 s e i (k + 1) = W2 s e i k ++ ((if 0 < k then [58] else []) ++ relC (decide (i = 0 ∧ k = 0)) c.data.toList) := by
  unfold W2
  rw [join_step 58 wC hc]
  by_cases hi : i = 0
  · subst hi
    by_cases hk : k = 0
    · subst hk
      obtain ⟨e1, s1, rfl⟩ : ∃ e1 s1, s = e1 :: s1 := by
        cases s with
        | nil => cases he
        | cons a b => exact ⟨a, b, rfl⟩
      obtain rfl : e1 = e := by simpa using he
      obtain ⟨c1, cs, rfl⟩ : ∃ c1 cs, e1 = c1 :: cs := by
        cases e1 with
        | nil => cases hc
        | cons a b => exact ⟨a, b, rfl⟩
      obtain rfl : c1 = c := by simpa using hc
      rw [show decide (0 = 0 ∧ 0 = 0) = true from rfl]
      unfold relC blS
      rw [Bool.true_and, show blankS ((c1 :: cs) :: s1) = Lib.hasPrefix c1.data.toList [32] from rfl]
      simp [W1, joinW, wC]
    · rw [show decide (0 = 0 ∧ k = 0) = false from decide_eq_false (fun h => hk h.2), if_pos (⟨rfl, by omega⟩ : 0 = 0 ∧ 0 < k + 1), if_pos (⟨rfl, by omega⟩ : 0 = 0 ∧ 0 < k)]
      simp [relC, wC]
  · rw [show decide (i = 0 ∧ k = 0) = false from decide_eq_false (fun h => hi h.1), if_neg (fun h : i = 0 ∧ 0 < k + 1 => hi h.1), if_neg (fun h : i = 0 ∧ 0 < k => hi h.1)]
    simp [relC, wC]
theorem W2_zero (s : Segm) (e : Elem) (i : Nat) : W2 s e i 0 = W1 s i ++ (if 0 < i then [43] else []) := by
  unfold W2
  rw [if_neg (by omega : ¬ (i = 0 ∧ 0 < 0))]
  simp [joinW]
theorem W2_end {s : Segm} {e : Elem} {i : Nat} (he : s[i]? = some e) (h : 1 ≤ e.length) : W2 s e i e.length = W1 s (i + 1) := by
  unfold W2 W1
  rw [join_step 43 wE he, List.take_length, if_pos (by omega : 0 < i + 1)]
  by_cases hi : i = 0
  · subst hi
    rw [if_pos (⟨rfl, by omega⟩ : 0 = 0 ∧ 0 < e.length)]
    simp [joinW, wE]
  · rw [if_neg (fun h : i = 0 ∧ 0 < e.length => hi h.1), if_pos (by omega : 0 < i)]
    simp [wE]
theorem W1_end {s : Segm} (h : 1 ≤ s.length) : W1 s s.length ++ [39] = wS s := by
  unfold W1 wS blS
  rw [List.take_length, if_pos (by omega)]
theorem join_len {α : Type} (c : UInt8) (f : α → List UInt8) (m : Nat) : ∀ (l : List α), (∀ x ∈ l, (f x).length ≤ m) → (joinW c f l).length ≤ l.length * (m + 1)
  | [], _ => by simp [joinW]
  | x :: l, h => by
    have h1 := h x List.mem_cons_self
    have h2 : ∀ l : List α, (∀ x ∈ l, (f x).length ≤ m) → (l.flatMap fun y => c :: f y).length ≤ l.length * (m + 1) := by
      intro l
      induction l with
      | nil => intro _; simp
      | cons y l ih =>
        intro h
        have := h y List.mem_cons_self
        have := ih fun z hz => h z (List.mem_cons_of_mem _ hz)
        rw [List.flatMap_cons, List.length_append, List.length_cons, List.length_cons, Nat.succ_mul]
        omega
    have h3 := h2 l fun z hz => h z (List.mem_cons_of_mem _ hz)
    unfold joinW
    rw [List.length_append, List.length_cons, Nat.succ_mul]
    omega
theorem wC_len (c : ByteArray) : (wC c).length ≤ 2 * c.size := by
  unfold wC
  rw [size_len]
  generalize c.data.toList = l
  induction l with
  | nil => simp
  | cons b l ih =>
    have := relB_len b
    rw [List.flatMap_cons, List.length_append, List.length_cons]
    omega
theorem wE_lenV {e : Elem} (h : (1 ≤ e.length ∧ e.length ≤ 10) ∧ ∀ c ∈ e, c.size ≤ 100 ∧ c.data.toList.any badB = false) : (wE e).length ≤ 2010 := by
  have := join_len 58 wC 200 e fun c hc => by
    have := wC_len c
    have := (h.2 c hc).1
    omega
  have := h.1
  unfold wE
  omega
theorem blS_len (s : Segm) : (blS s).length ≤ 1 := by unfold blS; split <;> simp
theorem W1_len {s : Segm} (h : rightS s = true) (i : Nat) : (W1 s i).length ≤ 60331 := by
  obtain ⟨h1, h2⟩ := rightS_at h
  have h3 := join_len 43 wE 2010 (s.take i) fun e he => wE_lenV (h2 e (List.mem_of_mem_take he))
  have h4 : (s.take i).length ≤ 30 := by rw [List.length_take]; omega
  have h5 : (s.take i).length * (2010 + 1) ≤ 30 * (2010 + 1) := Nat.mul_le_mul_right _ h4
  have h6 := blS_len s
  unfold W1
  rw [List.length_append]
  split <;> (try simp only [List.length_nil]) <;> omega
theorem W2_len {s : Segm} {e : Elem} {i : Nat} (h : rightS s = true) (he : s[i]? = some e) (k : Nat) : (W2 s e i k).length ≤ 63000 := by
  obtain ⟨h1, h2⟩ := rightS_at h
  obtain ⟨h3, h4⟩ := h2 e (List.mem_of_getElem? he)
  have h5 := join_len 58 wC 200 (e.take k) fun c hc => by
    have := wC_len c
    have := (h4 c (List.mem_of_mem_take hc)).1
    omega
  have h6 : (e.take k).length ≤ 10 := by rw [List.length_take]; omega
  have h7 := W1_len h i
  have h8 := blS_len s
  unfold W2
  rw [List.length_append, List.length_append, List.length_append]
  have h9 : (if 0 < i then ([43] : List UInt8) else []).length ≤ 1 := by split <;> simp
  have h10 : (if i = 0 ∧ 0 < k then blS s else []).length ≤ 1 := by split <;> (try simp only [List.length_nil]) <;> omega
  omega
theorem lit_list (l : List UInt8) : (⟨⟨l⟩⟩ : ByteArray).data.toList = l := rfl
set_option maxRecDepth 100000 in
set_option maxHeartbeats 8000000 in
theorem written_any (s : Segm) (hS : rightS s = true) (va : Value) (w : World) (hA : NSA w (fun _ => True) va s) :
    Calls Tryz.prog 67 #[va] w fun e w' => e = .returned (.string (ba (wS s))) ∧ Below w.heap.size w w' := by
  obtain ⟨A', A, cA, xs, rfl, aA, hcA, hrA, -, hxA⟩ := hA
  obtain ⟨⟨hs1, hs30⟩, hsE⟩ := rightS_at hS
  have hq1 : (⟨#[43]⟩ : ByteArray).size = 1 := rfl
  have hq2 : (⟨#[58]⟩ : ByteArray).size = 1 := rfl
  have hq3 : (⟨#[39]⟩ : ByteArray).size = 1 := rfl
  refine calls_sat (cx := Tryz.cx 47 [] [] [] w) (Tryz.ok ..) Tryz.func67 rfl [.v (.slice A' s.length cA)] rfl (by show 1 ≤ 47; omega) [] (holds_nil (Nat.le_refl _)) ?_
  repeat' ((conv => whnf); first | refine walk (Tryz.ok ..) ?_ | fail)
  refine sat_loop (Tryz.ok ..) (α := Nat × ByteArray) (fun t => ([(0, .yes, .v (.slice A' s.length cA)), (3, .yes, .v (.string t.2)), (4, .yes, .v (.int .i64 t.1))], []))
    (fun t => t.1 ≤ s.length ∧ t.2.data.toList = W1 s t.1) (fun t => s.length - t.1) (fun _ => rfl) ?_ ?_
  · refine ⟨(0, ⟨#[]⟩), ⟨Nat.zero_le _, rfl⟩, ?_, ?_, rfl⟩
    all_goals ((repeat' (first | exact trivial | exact rfl | refine And.intro ?_ ?_)) <;> (try (conv => whnf)) <;> (try simp only [SV.real, SV.r2, SV.r1]))
  rintro ⟨i, o⟩ ⟨hi, ho⟩
  dsimp only at hi ho ⊢
  have hb := W1_len hS i
  rw [← ho, ← size_len] at hb
  by_cases hi1 : i < s.length
  case neg =>
    obtain rfl : i = s.length := by omega
    have e1 : o ++ ⟨#[39]⟩ = ba (wS s) := ba_ext (by rw [appL, ho, lit_list, W1_end hs1]; rfl)
    repeat' ((conv => whnf); first | refine walk (Tryz.ok ..) ?_ | (refine Cnd.mk (fun h => ?_) (fun h => ?_) <;> (first | exact cndT h (by (try dsimp only); omega) | exact cndF h (by (try dsimp only); omega) | (exfalso; simp at h; omega) | simp at h | skip)) | refine side2 ?_ | fail)
    rw [← e1]
    exact done_pure rfl rfl rfl
  obtain ⟨e, hs⟩ : ∃ e, s[i]? = some e := ⟨_, List.getElem?_eq_getElem hi1⟩
  obtain ⟨⟨he1, he10⟩, hcE⟩ := hsE e (List.mem_of_getElem? hs)
  obtain ⟨x, hx, hne⟩ := nest_at hxA hrA.1 hs
  obtain ⟨A1', A1, cA1, rfl, aA1, hcA1, hrA1, -⟩ := nea_row hne
  obtain ⟨p, rfl, rfl⟩ := some_of aA hrA (by omega)
  by_cases hi0 : 0 < i
  · repeat' ((conv => whnf); first | refine walk (Tryz.ok ..) ?_ | (refine Cnd.mk (fun h => ?_) (fun h => ?_) <;> (first | exact cndT h (by (try dsimp only); omega) | exact cndF h (by (try dsimp only); omega) | (exfalso; simp at h; omega) | simp at h | skip)) | refine side2 ?_ | fail)
    refine sat_loop (Tryz.ok ..) (α := Nat × ByteArray) (fun t => ([(0, .yes, .v (.slice (adr (some p)) s.length cA)), (3, .yes, .v (.string t.2)), (4, .yes, .v (.int .i64 i)), (5, .yes, .v (.int .i64 t.1))], []))
      (fun t => t.1 ≤ e.length ∧ t.2.data.toList = W2 s e i t.1) (fun t => e.length - t.1) (fun _ => rfl) ?_ ?_
    · refine ⟨(0, o ++ ⟨#[43]⟩), ⟨Nat.zero_le _, ?_⟩, ?_, ?_, rfl⟩
      rotate_left 1
      · ((repeat' (first | exact trivial | exact rfl | refine And.intro ?_ ?_)) <;> (try (conv => whnf)) <;> (try simp only [SV.real, SV.r2, SV.r1]))
      · ((repeat' (first | exact trivial | exact rfl | refine And.intro ?_ ?_)) <;> (try (conv => whnf)) <;> (try simp only [SV.real, SV.r2, SV.r1]))
      · show (ByteArray.data (o ++ ⟨#[43]⟩)).toList = W2 s e i 0
        rw [W2_zero]
        rw [appL, ho, if_pos hi0] <;> rfl
    rintro ⟨k, o2⟩ ⟨hk, ho2⟩
    dsimp only at hk ho2 ⊢
    have hb2 := W2_len hS hs k
    rw [← ho2, ← size_len] at hb2
    by_cases hk1 : k < e.length
    case neg =>
      obtain rfl : k = e.length := by omega
      repeat' ((conv => whnf); first | refine walk (Tryz.ok ..) ?_ | (refine Cnd.mk (fun h => ?_) (fun h => ?_) <;> (first | exact cndT h (by (try dsimp only); omega) | exact cndF h (by (try dsimp only); omega) | (exfalso; simp at h; omega) | simp at h | skip)) | refine side2 ?_ | refine sideL2 ?_ | refine xi _ (ro_at rfl rfl hrA hx rfl) ?_ | fail)
      refine ⟨(i + 1, o2), ⟨⟨hi1, by rw [← W2_end hs he1]; exact ho2⟩, by omega⟩, ?_, ?_, rfl⟩
      all_goals ((repeat' (first | exact trivial | exact rfl | refine And.intro ?_ ?_)) <;> (try (conv => whnf)) <;> (try simp only [SV.real, SV.r2, SV.r1]))
    obtain ⟨c, hc⟩ : ∃ c, e[k]? = some c := ⟨_, List.getElem?_eq_getElem hk1⟩
    have hcs := (hcE c (List.mem_of_getElem? hc)).1
    obtain ⟨q, rfl, rfl⟩ := some_of aA1 hrA1 (by omega)
    have hstep := W2_step hs hc
    have hb3 := W2_len hS hs (k + 1)
    rw [hstep, ← ho2, List.length_append, List.length_append] at hb3
    by_cases hk0 : 0 < k
    · have hbv : ((i : Int) == 0 && (k : Int) == 0) = decide (i = 0 ∧ k = 0) := by
        rw [decide_eq_false (fun h => by omega), show ((k : Int) == 0) = false from beq_false_of_ne (by omega), Bool.and_false]
      rw [if_pos hk0, ← hbv] at hstep
      rw [← hbv] at hb3
      have hrz : (ba (relC ((i : Int) == 0 && (k : Int) == 0) c.data.toList)).size = (relC ((i : Int) == 0 && (k : Int) == 0) c.data.toList).length := rfl
      repeat' ((conv => whnf); first | refine walk (Tryz.ok ..) ?_ | (refine Cnd.mk (fun h => ?_) (fun h => ?_) <;> (first | exact cndT h (by (try dsimp only); omega) | exact cndF h (by (try dsimp only); omega) | (exfalso; simp at h; omega) | simp at h | skip)) | refine side2 ?_ | refine xi _ (ro_at rfl rfl hrA hx rfl) ?_ | refine xi _ (ro_at rfl rfl hrA1 (str_cell hc) rfl) ?_ | fail)
      (conv => whnf)
      refine called_pure (.v (.string (ba (relC ((i : Int) == 0 && (k : Int) == 0) c.data.toList)))) rfl (fun w' => released_any c ((i : Int) == 0 && (k : Int) == 0) (by omega) w') ?_
      repeat' ((conv => whnf); first | refine walk (Tryz.ok ..) ?_ | refine side2 ?_ | refine sideL2 ?_ | fail)
      refine ⟨(k + 1, o2 ++ ⟨#[58]⟩ ++ ba (relC ((i : Int) == 0 && (k : Int) == 0) c.data.toList)), ⟨⟨hk1, ?_⟩, by omega⟩, ?_, ?_, rfl⟩
      rotate_left 1
      · ((repeat' (first | exact trivial | exact rfl | refine And.intro ?_ ?_)) <;> (try (conv => whnf)) <;> (try simp only [SV.real, SV.r2, SV.r1]))
      · ((repeat' (first | exact trivial | exact rfl | refine And.intro ?_ ?_)) <;> (try (conv => whnf)) <;> (try simp only [SV.real, SV.r2, SV.r1]))
      · show (ByteArray.data _).toList = W2 s e i (k + 1)
        rw [hstep, appL, appL, ho2, List.append_assoc]
        rfl
    · obtain rfl : k = 0 := by omega
      have hbv : ((i : Int) == 0 && ((0 : Nat) : Int) == 0) = decide (i = 0 ∧ 0 = 0) := by
        rw [Bool.eq_iff_iff]
        simp
      rw [if_neg hk0, List.nil_append, ← hbv] at hstep
      rw [← hbv] at hb3
      have hrz : (ba (relC ((i : Int) == 0 && ((0 : Nat) : Int) == 0) c.data.toList)).size = (relC ((i : Int) == 0 && ((0 : Nat) : Int) == 0) c.data.toList).length := rfl
      repeat' ((conv => whnf); first | refine walk (Tryz.ok ..) ?_ | (refine Cnd.mk (fun h => ?_) (fun h => ?_) <;> (first | exact cndT h (by (try dsimp only); omega) | exact cndF h (by (try dsimp only); omega) | (exfalso; simp at h; omega) | simp at h | skip)) | refine side2 ?_ | refine xi _ (ro_at rfl rfl hrA hx rfl) ?_ | refine xi _ (ro_at rfl rfl hrA1 (str_cell hc) rfl) ?_ | fail)
      (conv => whnf)
      refine called_pure (.v (.string (ba (relC ((i : Int) == 0 && ((0 : Nat) : Int) == 0) c.data.toList)))) rfl (fun w' => released_any c ((i : Int) == 0 && ((0 : Nat) : Int) == 0) (by omega) w') ?_
      repeat' ((conv => whnf); first | refine walk (Tryz.ok ..) ?_ | refine side2 ?_ | refine sideL2 ?_ | fail)
      refine ⟨(0 + 1, o2 ++ ba (relC ((i : Int) == 0 && ((0 : Nat) : Int) == 0) c.data.toList)), ⟨⟨hk1, ?_⟩, by omega⟩, ?_, ?_, rfl⟩
      rotate_left 1
      · ((repeat' (first | exact trivial | exact rfl | refine And.intro ?_ ?_)) <;> (try (conv => whnf)) <;> (try simp only [SV.real, SV.r2, SV.r1]))
      · ((repeat' (first | exact trivial | exact rfl | refine And.intro ?_ ?_)) <;> (try (conv => whnf)) <;> (try simp only [SV.real, SV.r2, SV.r1]))
      · show (ByteArray.data _).toList = W2 s e i (0 + 1)
        rw [hstep, appL, ho2]
        rfl
  have hi00 : i = 0 := by omega
  repeat' ((conv => whnf); first | refine walk (Tryz.ok ..) ?_ | (refine Cnd.mk (fun h => ?_) (fun h => ?_) <;> (first | exact cndT h (by (try dsimp only); omega) | exact cndF h (by (try dsimp only); omega) | (exfalso; simp at h; omega) | simp at h | skip)) | fail)
  refine sat_loop (Tryz.ok ..) (α := Nat × ByteArray) (fun t => ([(0, .yes, .v (.slice (adr (some p)) s.length cA)), (3, .yes, .v (.string t.2)), (4, .yes, .v (.int .i64 i)), (5, .yes, .v (.int .i64 t.1))], []))
    (fun t => t.1 ≤ e.length ∧ t.2.data.toList = W2 s e i t.1) (fun t => e.length - t.1) (fun _ => rfl) ?_ ?_
  · refine ⟨(0, o), ⟨Nat.zero_le _, ?_⟩, ?_, ?_, rfl⟩
    rotate_left 1
    · ((repeat' (first | exact trivial | exact rfl | refine And.intro ?_ ?_)) <;> (try (conv => whnf)) <;> (try simp only [SV.real, SV.r2, SV.r1]))
    · ((repeat' (first | exact trivial | exact rfl | refine And.intro ?_ ?_)) <;> (try (conv => whnf)) <;> (try simp only [SV.real, SV.r2, SV.r1]))
    · show (ByteArray.data (o)).toList = W2 s e i 0
      rw [W2_zero]
      rw [ho, if_neg hi0, List.append_nil]
  rintro ⟨k, o2⟩ ⟨hk, ho2⟩
  dsimp only at hk ho2 ⊢
  have hb2 := W2_len hS hs k
  rw [← ho2, ← size_len] at hb2
  by_cases hk1 : k < e.length
  case neg =>
    obtain rfl : k = e.length := by omega
    repeat' ((conv => whnf); first | refine walk (Tryz.ok ..) ?_ | (refine Cnd.mk (fun h => ?_) (fun h => ?_) <;> (first | exact cndT h (by (try dsimp only); omega) | exact cndF h (by (try dsimp only); omega) | (exfalso; simp at h; omega) | simp at h | skip)) | refine side2 ?_ | refine sideL2 ?_ | refine xi _ (ro_at rfl rfl hrA hx rfl) ?_ | fail)
    refine ⟨(i + 1, o2), ⟨⟨hi1, by rw [← W2_end hs he1]; exact ho2⟩, by omega⟩, ?_, ?_, rfl⟩
    all_goals ((repeat' (first | exact trivial | exact rfl | refine And.intro ?_ ?_)) <;> (try (conv => whnf)) <;> (try simp only [SV.real, SV.r2, SV.r1]))
  obtain ⟨c, hc⟩ : ∃ c, e[k]? = some c := ⟨_, List.getElem?_eq_getElem hk1⟩
  have hcs := (hcE c (List.mem_of_getElem? hc)).1
  obtain ⟨q, rfl, rfl⟩ := some_of aA1 hrA1 (by omega)
  have hstep := W2_step hs hc
  have hb3 := W2_len hS hs (k + 1)
  rw [hstep, ← ho2, List.length_append, List.length_append] at hb3
  by_cases hk0 : 0 < k
  · have hbv : ((i : Int) == 0 && (k : Int) == 0) = decide (i = 0 ∧ k = 0) := by
      rw [decide_eq_false (fun h => by omega), show ((k : Int) == 0) = false from beq_false_of_ne (by omega), Bool.and_false]
    rw [if_pos hk0, ← hbv] at hstep
    rw [← hbv] at hb3
    have hrz : (ba (relC ((i : Int) == 0 && (k : Int) == 0) c.data.toList)).size = (relC ((i : Int) == 0 && (k : Int) == 0) c.data.toList).length := rfl
    repeat' ((conv => whnf); first | refine walk (Tryz.ok ..) ?_ | (refine Cnd.mk (fun h => ?_) (fun h => ?_) <;> (first | exact cndT h (by (try dsimp only); omega) | exact cndF h (by (try dsimp only); omega) | (exfalso; simp at h; omega) | simp at h | skip)) | refine side2 ?_ | refine xi _ (ro_at rfl rfl hrA hx rfl) ?_ | refine xi _ (ro_at rfl rfl hrA1 (str_cell hc) rfl) ?_ | fail)
    (conv => whnf)
    refine called_pure (.v (.string (ba (relC ((i : Int) == 0 && (k : Int) == 0) c.data.toList)))) rfl (fun w' => released_any c ((i : Int) == 0 && (k : Int) == 0) (by omega) w') ?_
    repeat' ((conv => whnf); first | refine walk (Tryz.ok ..) ?_ | refine side2 ?_ | refine sideL2 ?_ | fail)
    refine ⟨(k + 1, o2 ++ ⟨#[58]⟩ ++ ba (relC ((i : Int) == 0 && (k : Int) == 0) c.data.toList)), ⟨⟨hk1, ?_⟩, by omega⟩, ?_, ?_, rfl⟩
    rotate_left 1
    · ((repeat' (first | exact trivial | exact rfl | refine And.intro ?_ ?_)) <;> (try (conv => whnf)) <;> (try simp only [SV.real, SV.r2, SV.r1]))
    · ((repeat' (first | exact trivial | exact rfl | refine And.intro ?_ ?_)) <;> (try (conv => whnf)) <;> (try simp only [SV.real, SV.r2, SV.r1]))
    · show (ByteArray.data _).toList = W2 s e i (k + 1)
      rw [hstep, appL, appL, ho2, List.append_assoc]
      rfl
  · obtain rfl : k = 0 := by omega
    have hbv : ((i : Int) == 0 && ((0 : Nat) : Int) == 0) = decide (i = 0 ∧ 0 = 0) := by
      rw [Bool.eq_iff_iff]
      simp
    rw [if_neg hk0, List.nil_append, ← hbv] at hstep
    rw [← hbv] at hb3
    have hrz : (ba (relC ((i : Int) == 0 && ((0 : Nat) : Int) == 0) c.data.toList)).size = (relC ((i : Int) == 0 && ((0 : Nat) : Int) == 0) c.data.toList).length := rfl
    repeat' ((conv => whnf); first | refine walk (Tryz.ok ..) ?_ | (refine Cnd.mk (fun h => ?_) (fun h => ?_) <;> (first | exact cndT h (by (try dsimp only); omega) | exact cndF h (by (try dsimp only); omega) | (exfalso; simp at h; omega) | simp at h | skip)) | refine side2 ?_ | refine xi _ (ro_at rfl rfl hrA hx rfl) ?_ | refine xi _ (ro_at rfl rfl hrA1 (str_cell hc) rfl) ?_ | fail)
    (conv => whnf)
    refine called_pure (.v (.string (ba (relC ((i : Int) == 0 && ((0 : Nat) : Int) == 0) c.data.toList)))) rfl (fun w' => released_any c ((i : Int) == 0 && ((0 : Nat) : Int) == 0) (by omega) w') ?_
    repeat' ((conv => whnf); first | refine walk (Tryz.ok ..) ?_ | refine side2 ?_ | refine sideL2 ?_ | fail)
    refine ⟨(0 + 1, o2 ++ ba (relC ((i : Int) == 0 && ((0 : Nat) : Int) == 0) c.data.toList)), ⟨⟨hk1, ?_⟩, by omega⟩, ?_, ?_, rfl⟩
    rotate_left 1
    · ((repeat' (first | exact trivial | exact rfl | refine And.intro ?_ ?_)) <;> (try (conv => whnf)) <;> (try simp only [SV.real, SV.r2, SV.r1]))
    · ((repeat' (first | exact trivial | exact rfl | refine And.intro ?_ ?_)) <;> (try (conv => whnf)) <;> (try simp only [SV.real, SV.r2, SV.r1]))
    · show (ByteArray.data _).toList = W2 s e i (0 + 1)
      rw [hstep, appL, ho2]
      rfl
end
section
open Go Sat Go.RowKit Go.PlainAid
theorem byteTy {N : Nat} {SR SB SC : List Nat} {n0 : Nat} {M : List Nat} {W : World} : ByteTy (Tryz.cxg N SR SB SC n0 M W) 24 9 5 := ⟨Tryz.underlying24, Tryz.underlying9, ((Tryz.ok N SR SB SC n0 M W).1.at_ (t := 5) (i := ⟨.int .u8, 1, 1, .int .u8 0⟩) rfl).info⟩
theorem ub_back (l : List UInt8) : ∀ (j : Nat) (u : Value), ((l.map fun b => (b.toNat : Int)).map (Value.int .u8))[j]? = some u → (uB l)[j]? = some u := fun j u h => by unfold uB; rw [List.map_map] at h; exact h
/-- what Write's second loop makes of segments: so far, or too much -/
structure RunW (l : List Segm) (k : Nat) (acc : List UInt8) : Prop where
  run : (acc.length ≤ 65536 ∧ writeRun l [] = writeRun (l.drop k) acc) ∨ (65536 < acc.length ∧ writeRun l [] = (⟨#[]⟩, 3))
  len : acc.length ≤ 130000
set_option maxRecDepth 100000 in
set_option maxHeartbeats 8000000 in
theorem rWrite_any (l : List Segm) (va : Value) (w : World) (hA : NLA w (fun _ => True) va l) :
    Calls Tryz.prog 36 #[va] w fun e w' => e = .returned (.tuple #[.string (writeL l).1, .int .i64 (writeL l).2]) ∧ Below w.heap.size w w' := by
  obtain ⟨A', A, cA, xs, rfl, aA, hcA, hrA, -, hxA⟩ := hA
  refine calls_sat (cx := Tryz.cx 45 [12] [] [] w) (Tryz.ok ..) Tryz.func36 rfl [.v (.slice A' l.length cA)] rfl (by show 1 ≤ 45; omega) [] (holds_nil (Nat.le_refl _)) ?_
  by_cases hl : 5000 < l.length
  · rw [show writeL l = (⟨#[]⟩, 5) from by unfold writeL; rw [if_pos hl]]
    repeat' ((conv => whnf); first | refine walk (Tryz.ok ..) ?_ | (refine Cnd.mk (fun h => ?_) (fun h => ?_) <;> (first | exact cndT h (by (try dsimp only); omega) | exact cndF h (by (try dsimp only); omega) | (exfalso; simp at h; omega) | simp at h | skip)) | refine kp ?_ ?_ | refine tw ?_ ?_ | refine appnil rfl ?_ | refine rawnil rfl ?_ | exact trivial | refine side2 ?_ | refine sideL2 ?_ | refine Or.inr ?_ | refine sat_drawH (Tryz.ok ..) (by kernel_rfl) ?_ | refine xi _ (And.intro rfl rfl) ?_ | refine xi _ (fun _ => And.intro rfl rfl) ?_ | refine xi _ rfl ?_)
    exact done_pure rfl rfl rfl
  have hW : writeL l = if l.all rightS = true then writeRun l [] else (⟨#[]⟩, 2) := by unfold writeL; rw [if_neg hl]
  repeat' ((conv => whnf); first | refine walk (Tryz.ok ..) ?_ | (refine Cnd.mk (fun h => ?_) (fun h => ?_) <;> (first | exact cndT h (by (try dsimp only); omega) | exact cndF h (by (try dsimp only); omega) | (exfalso; simp at h; omega) | simp at h | skip)) | refine kp ?_ ?_ | refine tw ?_ ?_ | refine appnil rfl ?_ | refine rawnil rfl ?_ | exact trivial | refine side2 ?_ | refine sideL2 ?_ | refine Or.inr ?_ | refine sat_drawH (Tryz.ok ..) (by kernel_rfl) ?_ | refine xi _ (And.intro rfl rfl) ?_ | refine xi _ (fun _ => And.intro rfl rfl) ?_ | refine xi _ rfl ?_)
  refine sat_loop (Tryz.ok ..) (α := Nat) (fun i => ([(0, .yes, .v (.slice A' l.length cA)), (4, .yes, .v (.int .i64 i))], []))
    (fun k => k ≤ l.length ∧ (l.take k).all rightS = true) (fun k => l.length - k) (fun _ => rfl) ?_ ?_
  · refine ⟨0, ⟨Nat.zero_le _, by simp⟩, ?_, ?_, rfl⟩
    all_goals ((repeat' (first | exact trivial | exact rfl | refine And.intro ?_ ?_)) <;> (try (conv => whnf)) <;> (try simp only [SV.real, SV.r2, SV.r1]))
  rintro i ⟨hi, he⟩
  by_cases hi1 : i < l.length
  · obtain ⟨s, hs⟩ : ∃ s, l[i]? = some s := ⟨_, List.getElem?_eq_getElem hi1⟩
    obtain ⟨x, hx, hne⟩ := nest_at hxA hrA.1 hs
    obtain ⟨p, rfl, rfl⟩ := some_of aA hrA (by omega)
    cases hr : rightS s with
    | true =>
      repeat' ((conv => whnf); first | refine walk (Tryz.ok ..) ?_ | (refine Cnd.mk (fun h => ?_) (fun h => ?_) <;> (first | exact cndT h (by (try dsimp only); omega) | exact cndF h (by (try dsimp only); omega) | (exfalso; simp at h; omega) | simp at h | skip)) | refine kp ?_ ?_ | refine tw ?_ ?_ | refine appnil rfl ?_ | refine rawnil rfl ?_ | exact trivial | refine side2 ?_ | refine sideL2 ?_ | refine Or.inr ?_ | refine sat_drawH (Tryz.ok ..) (by kernel_rfl) ?_ | refine xi _ (And.intro rfl rfl) ?_ | refine xi _ (fun _ => And.intro rfl rfl) ?_ | refine xi _ rfl ?_ | refine xi _ (fun _ => (ro_at rfl rfl hrA hx rfl)) ?_ | refine xi _ (ro_at rfl rfl hrA hx rfl) ?_)
      refine called_at (.v (.bool true)) rfl (fun w' hh => by
        have h := rRight_any s x w' (nsa_stays _ _ _ _ _ _ hne (fun g _ hg => (below_of rfl rfl hh).block g hg) (fun _ h => h))
        rw [hr] at h
        exact h) ?_
      repeat' ((conv => whnf); first | refine walk (Tryz.ok ..) ?_ | (refine Cnd.mk (fun h => ?_) (fun h => ?_) <;> (first | exact cndT h (by (try dsimp only); omega) | exact cndF h (by (try dsimp only); omega) | (exfalso; simp at h; omega) | simp at h | skip)) | refine kp ?_ ?_ | refine tw ?_ ?_ | refine appnil rfl ?_ | refine rawnil rfl ?_ | exact trivial | refine side2 ?_ | refine sideL2 ?_ | refine Or.inr ?_ | refine sat_drawH (Tryz.ok ..) (by kernel_rfl) ?_ | refine xi _ (And.intro rfl rfl) ?_ | refine xi _ (fun _ => And.intro rfl rfl) ?_ | refine xi _ rfl ?_)
      refine ⟨i + 1, ⟨⟨hi1, all_step he hs hr⟩, by omega⟩, ?_, ?_, rfl⟩
      all_goals ((repeat' (first | exact trivial | exact rfl | refine And.intro ?_ ?_)) <;> (try (conv => whnf)) <;> (try simp only [SV.real, SV.r2, SV.r1]))
    | false =>
      rw [hW, if_neg (by rw [all_no hs hr]; exact Bool.false_ne_true)]
      repeat' ((conv => whnf); first | refine walk (Tryz.ok ..) ?_ | (refine Cnd.mk (fun h => ?_) (fun h => ?_) <;> (first | exact cndT h (by (try dsimp only); omega) | exact cndF h (by (try dsimp only); omega) | (exfalso; simp at h; omega) | simp at h | skip)) | refine kp ?_ ?_ | refine tw ?_ ?_ | refine appnil rfl ?_ | refine rawnil rfl ?_ | exact trivial | refine side2 ?_ | refine sideL2 ?_ | refine Or.inr ?_ | refine sat_drawH (Tryz.ok ..) (by kernel_rfl) ?_ | refine xi _ (And.intro rfl rfl) ?_ | refine xi _ (fun _ => And.intro rfl rfl) ?_ | refine xi _ rfl ?_ | refine xi _ (fun _ => (ro_at rfl rfl hrA hx rfl)) ?_ | refine xi _ (ro_at rfl rfl hrA hx rfl) ?_)
      refine called_at (.v (.bool false)) rfl (fun w' hh => by
        have h := rRight_any s x w' (nsa_stays _ _ _ _ _ _ hne (fun g _ hg => (below_of rfl rfl hh).block g hg) (fun _ h => h))
        rw [hr] at h
        exact h) ?_
      repeat' ((conv => whnf); first | refine walk (Tryz.ok ..) ?_ | (refine Cnd.mk (fun h => ?_) (fun h => ?_) <;> (first | exact cndT h (by (try dsimp only); omega) | exact cndF h (by (try dsimp only); omega) | (exfalso; simp at h; omega) | simp at h | skip)) | refine kp ?_ ?_ | refine tw ?_ ?_ | refine appnil rfl ?_ | refine rawnil rfl ?_ | exact trivial | refine side2 ?_ | refine sideL2 ?_ | refine Or.inr ?_ | refine sat_drawH (Tryz.ok ..) (by kernel_rfl) ?_ | refine xi _ (And.intro rfl rfl) ?_ | refine xi _ (fun _ => And.intro rfl rfl) ?_ | refine xi _ rfl ?_)
      exact done_pure rfl rfl rfl
  obtain rfl : i = l.length := by omega
  rw [List.take_length] at he
  rw [hW, if_pos he]
  clear hW hi hi1
  have hR : ∀ s ∈ l, rightS s = true := List.all_eq_true.1 he
  repeat' ((conv => whnf); first | refine walk (Tryz.ok ..) ?_ | (refine Cnd.mk (fun h => ?_) (fun h => ?_) <;> (first | exact cndT h (by (try dsimp only); omega) | exact cndF h (by (try dsimp only); omega) | (exfalso; simp at h; omega) | simp at h | skip)) | refine kp ?_ ?_ | refine tw ?_ ?_ | refine appnil rfl ?_ | refine rawnil rfl ?_ | exact trivial | refine side2 ?_ | refine sideL2 ?_ | refine Or.inr ?_ | refine sat_drawH (Tryz.ok ..) (by kernel_rfl) ?_ | refine xi _ (And.intro rfl rfl) ?_ | refine xi _ (fun _ => And.intro rfl rfl) ?_ | refine xi _ rfl ?_)
  refine sat_loop (Tryz.ok ..) (α := Nat × List UInt8 × Option (Nat × Nat) × Nat) (fun t => ([(0, .yes, .v (.slice A' l.length cA)), (5, .yes, .o 39 t.2.2.1 t.2.1.length t.2.2.2), (6, .yes, .v (.int .i64 t.1))], [(39, .row t.2.2.1 5 1 t.2.1.length t.2.2.2 (uB t.2.1))]))
    (fun t => t.1 ≤ l.length ∧ RunW l t.1 t.2.1) (fun t => l.length - t.1) (fun _ => rfl) ?_ ?_
  · refine ⟨(0, [], none, 0), ⟨Nat.zero_le _, ⟨.inl ⟨by simp, rfl⟩, by simp⟩⟩, ?_, ?_, rfl⟩
    all_goals ((repeat' (first | exact trivial | exact rfl | refine And.intro ?_ ?_)) <;> (try (conv => whnf)) <;> (try simp only [SV.real, SV.r2, SV.r1]))
  rintro ⟨k, acc, A5, c5⟩ ⟨hk, hrun, hlen⟩
  dsimp only at hk hrun hlen ⊢
  by_cases hmore : k < l.length ∧ acc.length ≤ 65536
  · obtain ⟨hk1, ha⟩ := hmore
    obtain ⟨s, hs⟩ : ∃ s, l[k]? = some s := ⟨_, List.getElem?_eq_getElem hk1⟩
    obtain ⟨x, hx, hne⟩ := nest_at hxA hrA.1 hs
    obtain ⟨p, rfl, rfl⟩ := some_of aA hrA (by omega)
    have hsr := hR s (List.mem_of_getElem? hs)
    have hwl : (wS s).length ≤ 60332 := by
      have h1 := W1_len hsr s.length
      rw [← W1_end (rightS_at hsr).1.1, List.length_append, List.length_singleton]
      omega
    have hws : (ba (wS s)).size = (wS s).length := rfl
    have hrun2 : RunW l (k + 1) (acc ++ wS s) := by
      rcases hrun with ⟨h1, h2⟩ | ⟨h1, _⟩
      · rw [drop_at hs, writeRun] at h2
        refine ⟨?_, by rw [List.length_append]; omega⟩
        split at h2
        · exact .inr ⟨by assumption, h2⟩
        · exact .inl ⟨by omega, h2⟩
      · omega
    repeat' ((conv => whnf); first | refine walk (Tryz.ok ..) ?_ | (refine Cnd.mk (fun h => ?_) (fun h => ?_) <;> (first | exact cndT h (by (try dsimp only); omega) | exact cndF h (by (try dsimp only); omega) | (exfalso; simp at h; omega) | simp at h | skip)) | refine kp ?_ ?_ | refine tw ?_ ?_ | refine appnil rfl ?_ | refine rawnil rfl ?_ | exact trivial | refine side2 ?_ | refine sideL2 ?_ | refine Or.inr ?_ | refine sat_drawH (Tryz.ok ..) (by kernel_rfl) ?_ | refine xi _ (And.intro rfl rfl) ?_ | refine xi _ (fun _ => And.intro rfl rfl) ?_ | refine xi _ rfl ?_ | refine xi _ (fun _ => (ro_at rfl rfl hrA hx rfl)) ?_ | refine xi _ (ro_at rfl rfl hrA hx rfl) ?_)
    refine sat_ops (Tryz.ok ..) ?_
    repeat' ((conv => whnf); first | refine walk (Tryz.ok ..) ?_ | (refine Cnd.mk (fun h => ?_) (fun h => ?_) <;> (first | exact cndT h (by (try dsimp only); omega) | exact cndF h (by (try dsimp only); omega) | (exfalso; simp at h; omega) | simp at h | skip)) | refine kp ?_ ?_ | refine tw ?_ ?_ | refine appnil rfl ?_ | refine rawnil rfl ?_ | exact trivial | refine side2 ?_ | refine sideL2 ?_ | refine Or.inr ?_ | refine sat_drawH (Tryz.ok ..) (by kernel_rfl) ?_ | refine xi _ (And.intro rfl rfl) ?_ | refine xi _ (fun _ => And.intro rfl rfl) ?_ | refine xi _ rfl ?_ | refine xi _ (fun _ => (ro_at rfl rfl hrA hx rfl)) ?_ | refine xi _ (ro_at rfl rfl hrA hx rfl) ?_)
    (conv => whnf)
    refine called_at (.v (.string (ba (wS s)))) rfl (fun w' hh => by exact written_any s hsr x w' (nsa_stays _ _ _ _ _ _ hne (fun g _ hg => (below_of rfl rfl hh).block g hg) (fun _ h => h))) ?_
    repeat' ((conv => whnf); first | refine walk (Tryz.ok ..) ?_ | (refine Cnd.mk (fun h => ?_) (fun h => ?_) <;> (first | exact cndT h (by (try dsimp only); omega) | exact cndF h (by (try dsimp only); omega) | (exfalso; simp at h; omega) | simp at h | skip)) | refine kp ?_ ?_ | refine tw ?_ ?_ | refine appnil rfl ?_ | refine rawnil rfl ?_ | exact trivial | refine side2 ?_ | refine sideL2 ?_ | refine Or.inr ?_ | refine sat_drawH (Tryz.ok ..) (by kernel_rfl) ?_ | refine xi _ (And.intro rfl rfl) ?_ | refine xi _ (fun _ => And.intro rfl rfl) ?_ | refine xi _ rfl ?_)
    (conv => whnf)
    refine other_app_str byteTy 39 rfl (ba (wS s)) rfl rfl (by omega) ?_
    intro A6 c6
    repeat' ((conv => whnf); first | refine walk (Tryz.ok ..) ?_ | (refine Cnd.mk (fun h => ?_) (fun h => ?_) <;> (first | exact cndT h (by (try dsimp only); omega) | exact cndF h (by (try dsimp only); omega) | (exfalso; simp at h; omega) | simp at h | skip)) | refine kp ?_ ?_ | refine tw ?_ ?_ | refine appnil rfl ?_ | refine rawnil rfl ?_ | exact trivial | refine side2 ?_ | refine sideL2 ?_ | refine Or.inr ?_ | refine sat_drawH (Tryz.ok ..) (by kernel_rfl) ?_ | refine xi _ (And.intro rfl rfl) ?_ | refine xi _ (fun _ => And.intro rfl rfl) ?_ | refine xi _ rfl ?_)
    refine ⟨(k + 1, acc ++ wS s, A6, c6), ⟨⟨hk1, hrun2⟩, by omega⟩, ?_, ?_, rfl⟩
    all_goals ((repeat' (first | exact trivial | exact rfl | refine And.intro ?_ ?_)) <;> (try (conv => whnf)) <;> (try simp only [SV.real, SV.r2, SV.r1]))
    · exact congrArg (fun n => Value.slice (adr A6) n c6) (by rw [List.length_append, hws])
    · rw [List.length_append, hws]
    · unfold uB
      rw [List.map_append]
      rfl
  have hend : writeRun l [] = if 65536 < acc.length then (⟨#[]⟩, 3) else (ba acc, 0) := by
    rcases hrun with ⟨h1, h2⟩ | ⟨h1, h2⟩
    · rw [if_neg (by omega), h2, List.drop_eq_nil_of_le (by omega)]
      rfl
    · rw [if_pos h1, h2]
  rw [hend]
  have hstr := strOf_ba acc
  have hub := ub_back acc
  by_cases hbig : 65536 < acc.length
  · rw [if_pos hbig]
    repeat' ((conv => whnf); first | refine walk (Tryz.ok ..) ?_ | (refine Cnd.mk (fun h => ?_) (fun h => ?_) <;> (first | exact cndT h (by (try dsimp only); omega) | exact cndF h (by (try dsimp only); omega) | (exfalso; simp at h; omega) | simp at h | skip)) | refine kp ?_ ?_ | refine tw ?_ ?_ | refine appnil rfl ?_ | refine rawnil rfl ?_ | exact trivial | refine side2 ?_ | refine sideL2 ?_ | refine Or.inr ?_ | refine sat_drawH (Tryz.ok ..) (by kernel_rfl) ?_ | refine xi _ (And.intro rfl rfl) ?_ | refine xi _ (fun _ => And.intro rfl rfl) ?_ | refine xi _ rfl ?_)
    all_goals exact done_pure rfl rfl rfl
  rw [if_neg hbig]
  repeat' ((conv => whnf); first | refine walk (Tryz.ok ..) ?_ | (refine Cnd.mk (fun h => ?_) (fun h => ?_) <;> (first | exact cndT h (by (try dsimp only); omega) | exact cndF h (by (try dsimp only); omega) | (exfalso; simp at h; omega) | simp at h | skip)) | refine kp ?_ ?_ | refine tw ?_ ?_ | refine appnil rfl ?_ | refine rawnil rfl ?_ | exact trivial | refine side2 ?_ | refine sideL2 ?_ | refine Or.inr ?_ | refine sat_drawH (Tryz.ok ..) (by kernel_rfl) ?_ | refine xi _ (And.intro rfl rfl) ?_ | refine xi _ (fun _ => And.intro rfl rfl) ?_ | refine xi _ rfl ?_)
  refine ⟨acc.map fun b => (b.toNat : Int), ⟨by simp, hub⟩, ?_⟩
  rw [hstr]
  repeat' ((conv => whnf); first | refine walk (Tryz.ok ..) ?_ | (refine Cnd.mk (fun h => ?_) (fun h => ?_) <;> (first | exact cndT h (by (try dsimp only); omega) | exact cndF h (by (try dsimp only); omega) | (exfalso; simp at h; omega) | simp at h | skip)) | refine kp ?_ ?_ | refine tw ?_ ?_ | refine appnil rfl ?_ | refine rawnil rfl ?_ | exact trivial | refine side2 ?_ | refine sideL2 ?_ | refine Or.inr ?_ | refine sat_drawH (Tryz.ok ..) (by kernel_rfl) ?_ | refine xi _ (And.intro rfl rfl) ?_ | refine xi _ (fun _ => And.intro rfl rfl) ?_ | refine xi _ rfl ?_)
  exact done_pure rfl rfl rfl
end
end Go.Proofs.YtdohcglpcgahaaaGreatDoor
