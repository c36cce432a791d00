/-
  Texts of capital letters and digits, walked.
-/
import Derived.Test.YtdohcglpcgahaaaGreatDoorW1
import Derived.MapKept
set_option linter.unusedSimpArgs false
set_option linter.unusedVariables false
namespace Go.Proofs.YtdohcglpcgahaaaGreatDoor
open Go Sat Go.RowKit Go.PlainAid
def capB (b : UInt8) : Bool := decide (65 ≤ b.toNat ∧ b.toNat ≤ 90)
def digB (b : UInt8) : Bool := decide (48 ≤ b.toNat ∧ b.toNat ≤ 57)
def lettersB (l : List UInt8) (low high : Nat) (dg : Bool) : Bool := l.all (fun b => capB b || (dg && digB b)) && decide (low ≤ l.length ∧ l.length ≤ high)
theorem btA_at {s : ByteArray} {k : Nat} {b : UInt8} (h : s.data.toList[k]? = some b) : bt s k = (b.toNat : Int) := by
  have hk : k < s.size := by
    have := (List.getElem?_eq_some_iff.1 h).1
    simpa using this
  unfold bt
  rw [dif_pos hk]
  have : s.data.toList[k]'(by simpa using hk) = b := (List.getElem?_eq_some_iff.1 h).2
  rw [← this]
  rfl
theorem allA_step {α : Type} {p : α → Bool} {l : List α} {k : Nat} {b : α} (h : (l.take k).all p = true) (hb : l[k]? = some b) (hp : p b = true) : (l.take (k + 1)).all p = true := by
  rw [List.take_add_one, hb]
  simp [h, hp]
theorem allA_no {α : Type} {p : α → Bool} {l : List α} {k : Nat} {b : α} (hb : l[k]? = some b) (hp : p b = false) : l.all p = false := by
  rw [List.all_eq_false]
  exact ⟨b, List.mem_of_getElem? hb, by rw [hp]; simp⟩
set_option maxRecDepth 100000 in
set_option maxHeartbeats 8000000 in
theorem letters_any (s : ByteArray) (low high : Nat) (dg : Bool) (w : World) (hs : s.size ≤ 9223372036854775807) :
    Calls Tryz.prog 68 #[.string s, .int .i64 low, .int .i64 high, .bool dg] w fun e w' => e = .returned (.bool (lettersB s.data.toList low high dg)) ∧ Below w.heap.size w w' := by
  refine calls_sat (cx := Tryz.cx 52 [] [] [] w) (Tryz.ok ..) Tryz.func68 rfl [.v (.string s), .v (.int .i64 low), .v (.int .i64 high), .v (.bool dg)] rfl (by show 4 ≤ 52; omega) [] (holds_nil (Nat.le_refl _)) ?_
  obtain ⟨l, hl⟩ : ∃ l, l = s.data.toList := ⟨_, rfl⟩
  have hsz : s.size = l.length := by rw [hl]; rfl
  rw [← hl]
  repeat' ((conv => whnf); first | refine walk (Tryz.ok ..) ?_ | fail)
  refine sat_loop (Tryz.ok ..) (α := Nat) (fun k => ([(0, .yes, .v (.string s)), (1, .yes, .v (.int .i64 low)), (2, .yes, .v (.int .i64 high)), (3, .yes, .v (.bool dg)), (11, .yes, .v (.int .i64 s.size)), (12, .yes, .v (.int .i64 k))], []))
    (fun k => k ≤ l.length ∧ (l.take k).all (fun b => capB b || (dg && digB b)) = true) (fun k => l.length - k) (fun _ => rfl) ?_ ?_
  · refine ⟨0, ⟨Nat.zero_le _, by simp⟩, ?_, ?_, rfl⟩
    all_goals ((repeat' (first | exact trivial | exact rfl | refine And.intro ?_ ?_)) <;> (try (conv => whnf)) <;> (try simp only [SV.real, SV.r2, SV.r1]))
  rintro k ⟨hk, he⟩
  by_cases hk1 : k < l.length
  · obtain ⟨b, hb⟩ : ∃ b, l[k]? = some b := ⟨_, List.getElem?_eq_getElem hk1⟩
    have hbs : bt s k = (b.toNat : Int) := btA_at (by rw [← hl]; exact hb)
    repeat' ((conv => whnf); first | refine walk (Tryz.ok ..) ?_ | (refine Cnd.mk (fun h => ?_) (fun h => ?_) <;> (first | exact cndT h (by (try dsimp only); omega) | exact cndF h (by (try dsimp only); omega) | (exfalso; simp at h; omega) | simp at h | skip)) | refine side2 ?_ | refine sideL2 ?_ | fail)
    · have hp : (capB b || (dg && digB b)) = false := by
        rw [hbs] at h
        unfold capB digB
        rcases h with ⟨h1, (h2 | h2) | h2⟩
        · subst h2
          simp
          omega
        · simp
          refine ⟨by omega, fun _ => by omega⟩
        · simp
          refine ⟨by omega, fun _ => by omega⟩
      rw [show lettersB l low high dg = false from by unfold lettersB; rw [allA_no hb hp]; rfl]
      skip
      exact done_pure rfl rfl rfl
    · have hp : (capB b || (dg && digB b)) = true := by
        rw [hbs] at h
        unfold capB digB
        by_cases h1 : (b.toNat : Int) < 65 ∨ 90 < (b.toNat : Int)
        · obtain ⟨⟨h2, h3⟩, h4⟩ := h h1
          subst h2
          simp
          omega
        · simp
          omega
      skip
      refine ⟨k + 1, ⟨⟨hk1, allA_step he hb hp⟩, by omega⟩, ?_, ?_, rfl⟩
      all_goals ((repeat' (first | exact trivial | exact rfl | refine And.intro ?_ ?_)) <;> (try (conv => whnf)) <;> (try simp only [SV.real, SV.r2, SV.r1]))
  obtain rfl : k = l.length := by omega
  rw [List.take_length] at he
  repeat' ((conv => whnf); first | refine walk (Tryz.ok ..) ?_ | (refine Cnd.mk (fun h => ?_) (fun h => ?_) <;> (first | exact cndT h (by (try dsimp only); omega) | exact cndF h (by (try dsimp only); omega) | (exfalso; simp at h; omega) | simp at h | skip)) | refine side2 ?_ | fail)
  refine done_pure rfl rfl ?_
  show Value.bool (decide ((low : Int) ≤ s.size) && decide ((s.size : Int) ≤ high)) = _
  unfold lettersB
  rw [he, hsz]
  congr 1
  rw [Bool.eq_iff_iff]
  simp
def hedS : ByteArray := ⟨#[72, 69, 68]⟩
def endS : ByteArray := ⟨#[69, 78, 68]⟩
def kindB (s : ByteArray) : Bool := lettersB s.data.toList 6 6 false
def refB (s : ByteArray) : Bool := lettersB s.data.toList 1 14 true
def tagB (s : ByteArray) : Bool := lettersB s.data.toList 3 3 false && decide (s ≠ hedS) && decide (s ≠ endS)
set_option maxRecDepth 100000 in
set_option maxHeartbeats 8000000 in
theorem kind_any (s : ByteArray) (w : World) (hs : s.size ≤ 9223372036854775807) :
    Calls Tryz.prog 37 #[.string s] w fun e w' => e = .returned (.bool (kindB s)) ∧ Below w.heap.size w w' := by
  refine calls_sat (cx := Tryz.cx 5 [] [] [] w) (Tryz.ok ..) Tryz.func37 rfl [.v (.string s)] rfl (by show 1 ≤ 5; omega) [] (holds_nil (Nat.le_refl _)) ?_
  repeat' ((conv => whnf); first | refine walk (Tryz.ok ..) ?_ | fail)
  (conv => whnf)
  refine called_at (.v (.bool (kindB s))) rfl (fun w' hh => by exact letters_any s 6 6 false w' hs) ?_
  repeat' ((conv => whnf); first | refine walk (Tryz.ok ..) ?_ | fail)
  exact done_pure rfl rfl rfl
set_option maxRecDepth 100000 in
set_option maxHeartbeats 8000000 in
theorem reference_any (s : ByteArray) (w : World) (hs : s.size ≤ 9223372036854775807) :
    Calls Tryz.prog 38 #[.string s] w fun e w' => e = .returned (.bool (refB s)) ∧ Below w.heap.size w w' := by
  refine calls_sat (cx := Tryz.cx 5 [] [] [] w) (Tryz.ok ..) Tryz.func38 rfl [.v (.string s)] rfl (by show 1 ≤ 5; omega) [] (holds_nil (Nat.le_refl _)) ?_
  repeat' ((conv => whnf); first | refine walk (Tryz.ok ..) ?_ | fail)
  (conv => whnf)
  refine called_at (.v (.bool (refB s))) rfl (fun w' hh => by exact letters_any s 1 14 true w' hs) ?_
  repeat' ((conv => whnf); first | refine walk (Tryz.ok ..) ?_ | fail)
  exact done_pure rfl rfl rfl
set_option maxRecDepth 100000 in
set_option maxHeartbeats 8000000 in
theorem tag_any (s : ByteArray) (w : World) (hs : s.size ≤ 9223372036854775807) :
    Calls Tryz.prog 41 #[.string s] w fun e w' => e = .returned (.bool (tagB s)) ∧ Below w.heap.size w w' := by
  refine calls_sat (cx := Tryz.cx 13 [] [] [] w) (Tryz.ok ..) Tryz.func41 rfl [.v (.string s)] rfl (by show 1 ≤ 13; omega) [] (holds_nil (Nat.le_refl _)) ?_
  repeat' ((conv => whnf); first | refine walk (Tryz.ok ..) ?_ | fail)
  (conv => whnf)
  refine called_at (.v (.bool (lettersB s.data.toList 3 3 false))) rfl (fun w' hh => by exact letters_any s 3 3 false w' hs) ?_
  repeat' ((conv => whnf); first | refine walk (Tryz.ok ..) ?_ | refine side2 ?_ | fail)
  refine done_pure rfl rfl ?_
  show Value.bool (lettersB s.data.toList 3 3 false && !s == hedS && !s == endS) = _
  unfold tagB
  congr 1
  rw [Bool.eq_iff_iff]
  simp only [Bool.and_eq_true, Bool.not_eq_true', decide_eq_true_eq, ← Bool.not_eq_true, MapKept.bytes_beq, ne_eq]
end Go.Proofs.YtdohcglpcgahaaaGreatDoor
