/-
  Calendars time by time: what is told up to a time; when a calendar is open. No program in sight.
-/
import Derived.Test.YtodecgpjidlldaaDoorCPlain4
set_option linter.unusedSimpArgs false
set_option linter.unusedVariables false
namespace Go.Proofs.YtodecgpjidlldaaDoor
open Go.RowKit Go.PlainAid
/-- what is told of the times from x on and less than to, when those ahead of a time are done -/
def clip (x to pos : Int) : Int := min (max pos x) to
def toldAt (p : Int → Bool) (x to pos : Int) : List Sp := runs p x (clip x to pos - x).toNat
theorem toldAt_no {p : Int → Bool} {x to pos a : Int} (hxt : x ≤ to) (h1 : pos ≤ a) (h0 : ∀ y, pos ≤ y → y < a → x ≤ y → y < to → p y = false) : toldAt p x to a = toldAt p x to pos := by
  unfold toldAt
  obtain ⟨u, hu⟩ : ∃ u, u = clip x to pos := ⟨_, rfl⟩
  obtain ⟨v, hv⟩ : ∃ v, v = clip x to a := ⟨_, rfl⟩
  have hxu : x ≤ u := by rw [hu]; unfold clip; omega
  have huv : u ≤ v := by rw [hu, hv]; unfold clip; omega
  rw [← hu, ← hv]
  obtain ⟨n, hn⟩ : ∃ n : Nat, u = x + n := ⟨(u - x).toNat, by omega⟩
  obtain ⟨d, hd⟩ : ∃ d : Nat, v = x + (n + d : Nat) := ⟨(v - u).toNat, by omega⟩
  rw [show (u - x).toNat = n by omega, show (v - x).toNat = n + d by omega]
  refine runs_no fun y h2 h3 => h0 y ?_ ?_ (by omega) ?_
  · rw [← hn, hu] at h2
    unfold clip at h2
    rw [← hd, hv] at h3
    unfold clip at h3
    omega
  · rw [← hd, hv] at h3
    unfold clip at h3
    omega
  · rw [← hd, hv] at h3
    unfold clip at h3
    omega
theorem toldAt_yes {p : Int → Bool} {x to a b : Int} (hxt : x ≤ to) (h2 : a ≤ b) (ht : ∀ y, a ≤ y → y < b → x ≤ y → y < to → p y = true) : toldAt p x to b = addS (toldAt p x to a) (max a x) (min b to) := by
  unfold toldAt
  obtain ⟨u, hu⟩ : ∃ u, u = clip x to a := ⟨_, rfl⟩
  obtain ⟨v, hv⟩ : ∃ v, v = clip x to b := ⟨_, rfl⟩
  have hxu : x ≤ u := by rw [hu]; unfold clip; omega
  have huv : u ≤ v := by rw [hu, hv]; unfold clip; omega
  rw [← hu, ← hv]
  by_cases e : max a x < min b to
  · have eu : u = max a x := by rw [hu]; unfold clip; omega
    have ev : v = min b to := by rw [hv]; unfold clip; omega
    rw [← eu, ← ev]
    obtain ⟨n, hn⟩ : ∃ n : Nat, u = x + n := ⟨(u - x).toNat, by omega⟩
    obtain ⟨d, hd⟩ : ∃ d : Nat, v = x + (n + d : Nat) := ⟨(v - u).toNat, by omega⟩
    rw [show (u - x).toNat = n by omega, show (v - x).toNat = n + d by omega, hd, hn]
    refine runs_yes fun y h3 h4 => ht y ?_ ?_ (by omega) ?_
    · rw [← hn] at h3; omega
    · rw [← hd] at h4; omega
    · rw [← hd] at h4; omega
  · rw [addS_no e]
    have : u = v := by
      rw [hu, hv]
      unfold clip
      simp only [Int.max_def, Int.min_def] at *
      (repeat' split at *) <;> omega
    rw [this]
/-- one span more -/
theorem toldAt_step {p : Int → Bool} {x to pos a b : Int} (hxt : x ≤ to) (h1 : pos ≤ a) (h2 : a ≤ b) (h0 : ∀ y, pos ≤ y → y < a → x ≤ y → y < to → p y = false) (ht : ∀ y, a ≤ y → y < b → x ≤ y → y < to → p y = true) : toldAt p x to b = addS (toldAt p x to pos) (max a x) (min b to) := by
  rw [toldAt_yes hxt h2 ht, toldAt_no hxt h1 h0]
theorem toldAt_end {p : Int → Bool} {x to : Int} (hxt : x ≤ to) : toldAt p x to to = runs p x (to - x).toNat := by
  unfold toldAt clip
  rw [Int.max_eq_left hxt, Int.min_eq_left (Int.le_refl _)]
theorem toldAt_begin {p : Int → Bool} {x to pos : Int} (hxt : x ≤ to) (h : pos ≤ x) : toldAt p x to pos = [] := by
  unfold toldAt clip
  rw [Int.max_eq_right h, Int.min_eq_left hxt, Int.sub_self]
  rfl
/-- whether a calendar is open -/
def opn (w c : List Sp) (y : Int) : Bool := inB w (y % 10080) && !inB c y
theorem week_in {w : List Sp} {i : Nat} {s : Sp} {m y : Int} (h : okTo w w.length = true) (hs : w[i]? = some s) (ht : s.t ≤ 10080) (h1 : s.f + 10080 * m ≤ y) (h2 : y < s.t + 10080 * m) : inB w (y % 10080) = true := by
  have ho := ok_own h hs
  have e : y % 10080 = y - 10080 * m := by omega
  rw [inB_some]
  exact ⟨i, s, hs, by omega, by omega⟩
theorem week_gap {w : List Sp} {i : Nat} {m y : Int} (h : okTo w w.length = true) (hw : ∀ (j : Nat) (s : Sp), w[j]? = some s → s.t ≤ 10080) (h0 : 10080 * m ≤ y) (h1 : y < 10080 * m + 10080) (hlo : ∀ (j : Nat) (s : Sp), j < i → w[j]? = some s → s.t + 10080 * m ≤ y) (hhi : ∀ s : Sp, w[i]? = some s → y < s.f + 10080 * m) : inB w (y % 10080) = false := by
  have e : y % 10080 = y - 10080 * m := by omega
  rw [Bool.eq_false_iff]
  intro hb
  obtain ⟨j, s, hj, h2, h3⟩ := inB_some.1 hb
  rcases Nat.lt_trichotomy j i with c | c | c
  · have := hlo j s c hj
    omega
  · subst c
    have := hhi s hj
    omega
  · have hjl := (List.getElem?_eq_some_iff.1 hj).1
    have hi := List.getElem?_eq_getElem (show i < w.length by omega)
    have h4 := hhi _ hi
    have h5 := ok_lt h hi hj c
    have h6 := ok_own h hi
    omega
end Go.Proofs.YtodecgpjidlldaaDoor
