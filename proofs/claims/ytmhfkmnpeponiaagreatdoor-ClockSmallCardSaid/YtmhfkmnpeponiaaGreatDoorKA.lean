/-
  What ClockSmall says of many spans, plain: spans that stand apart are counted. No program in sight. What ClockSmall says of calendars and tides with many spans, plain. No program in sight.
-/
import Derived.Test.YtmhfkmnpeponiaaGreatDoorC15P
set_option linter.unusedSimpArgs false
set_option linter.unusedVariables false
namespace Go.Proofs.YtmhfkmnpeponiaaGreatDoor
section
open Go.RowKit Go.PlainAid
def lng (n k : Nat) : List Sp := (List.range n).map fun (i : Nat) => ⟨((k * i : Nat) : Int), ((k * i : Nat) : Int) + 1⟩
theorem lng_len (n k : Nat) : (lng n k).length = n := by unfold lng; rw [List.length_map, List.length_range]
theorem lng_at {n k i : Nat} (h : i < n) : (lng n k)[i]? = some ⟨((k * i : Nat) : Int), ((k * i : Nat) : Int) + 1⟩ := by
  unfold lng
  rw [List.getElem?_map, List.getElem?_range h]
  rfl
theorem lng_succ (n k : Nat) : lng (n + 1) k = lng n k ++ [⟨((k * n : Nat) : Int), ((k * n : Nat) : Int) + 1⟩] := by
  unfold lng
  rw [List.range_succ, List.map_append]
  rfl
theorem lng_lt {n k i : Nat} {s : Sp} (h : (lng n k)[i]? = some s) : i < n ∧ s = ⟨((k * i : Nat) : Int), ((k * i : Nat) : Int) + 1⟩ := by
  have hl := (List.getElem?_eq_some_iff.1 h).1
  rw [lng_len] at hl
  rw [lng_at hl] at h
  cases h
  exact ⟨hl, rfl⟩
theorem lng_ok {n k : Nat} (hk : 2 ≤ k) (hb : k * n ≤ 1000000) : okTo (lng n k) (lng n k).length = true := by
  rw [lng_len]
  unfold okTo
  rw [List.all_eq_true]
  intro i hi
  rw [List.mem_range] at hi
  have h1 : k * i + k ≤ k * n := by rw [← Nat.mul_succ]; exact Nat.mul_le_mul_left k hi
  unfold okAt
  rw [lng_at hi]
  dsimp only
  rcases Nat.eq_zero_or_pos i with h0 | h0
  · subst h0
    simp
  · obtain ⟨j, rfl⟩ : ∃ j, i = j + 1 := ⟨i - 1, by omega⟩
    have e : k * (j + 1) = k * j + k := Nat.mul_succ k j
    simp only [Nat.add_sub_cancel]
    rw [lng_at (show j < n by omega)]
    have e' : (k : Int) * ((j : Int) + 1) = (k : Int) * j + k := by rw [Int.mul_add, Int.mul_one]
    simp
    omega
theorem lng_apart {n k : Nat} (hk : 2 ≤ k) (hb : k * n ≤ 1000000) : apart (lng n k) = decide (n ≤ 1000) := by
  unfold apart
  rw [lng_ok hk hb, Bool.true_and, lng_len]
/-- all spans end ahead of a time -/
def Iso (l : List Sp) (pos : Int) : Prop := ∀ s, l.getLast? = some s → s.t < pos
theorem runs_iso {p : Int → Bool} {x : Int} {n d : Nat} (hI : Iso (runs p x n) (x + n)) (hp : p (x + n) = true) (hd : 1 ≤ d) (hno : ∀ y : Int, x + n + 1 ≤ y → y < x + n + 1 + d → p y = false) :
    (runs p x (n + 1 + d)).length = (runs p x n).length + 1 ∧ Iso (runs p x (n + 1 + d)) (x + n + 1 + d) := by
  have e : runs p x (n + 1 + d) = runs p x n ++ [⟨x + n, x + n + 1⟩] := by
    rw [runs_no (n := n + 1) (d := d) (fun y h1 h2 => hno y (by omega) (by omega))]
    show (if p (x + n) then addT (runs p x n) (x + n) else runs p x n) = _
    rw [if_pos hp]
    unfold addT
    cases hl : (runs p x n).getLast? with
    | none =>
      dsimp only
      rw [List.getLast?_eq_none_iff] at hl
      rw [hl]
      rfl
    | some s =>
      dsimp only
      have := hI s hl
      rw [if_neg (by omega)]
  rw [e]
  refine ⟨by rw [List.length_append]; rfl, fun s hs => ?_⟩
  rw [List.getLast?_concat] at hs
  cases hs
  dsimp only
  omega
/-- a time in each round of r, and so on -/
theorem runs_many {p : Int → Bool} {r : Nat} (hr : 2 ≤ r) (base : Nat) : ∀ (m : Nat), Iso (runs p 0 base) base → (∀ i : Nat, i < m → p ((base + r * i : Nat) : Int) = true) → (∀ (i : Nat) (y : Int), i < m → ((base + r * i : Nat) : Int) + 1 ≤ y → y < ((base + r * i : Nat) : Int) + r → p y = false) →
    (runs p 0 (base + r * m)).length = (runs p 0 base).length + m ∧ Iso (runs p 0 (base + r * m)) ((base + r * m : Nat) : Int) := by
  intro m
  induction m with
  | zero => intro h _ _; rw [Nat.mul_zero, Nat.add_zero]; exact ⟨rfl, h⟩
  | succ m ih =>
    intro h h1 h2
    obtain ⟨i1, i2⟩ := ih h (fun i hi => h1 i (by omega)) (fun i y hi => h2 i y (by omega))
    have := runs_iso (p := p) (x := 0) (n := base + r * m) (d := r - 1) (by rw [Int.zero_add]; exact i2) (by rw [Int.zero_add]; exact h1 m (by omega)) (by omega) (fun y y1 y2 => h2 m y (by omega) (by omega) (by omega))
    have e : base + r * m + 1 + (r - 1) = base + r * (m + 1) := by rw [Nat.mul_succ]; omega
    rw [e] at this
    refine ⟨by omega, fun s hs => ?_⟩
    have h3 := this.2 s hs
    have e2 : ((base + r * (m + 1) : Nat) : Int) = ((base + r * m : Nat) : Int) + r := by rw [Nat.mul_succ]; omega
    omega
end
section
open Go.RowKit Go.PlainAid
theorem in_lng {n k : Nat} {x : Int} (h : inB (lng n k) x = true) : ∃ i, i < n ∧ x = ((k * i : Nat) : Int) := by
  rw [inB_some] at h
  obtain ⟨i, s, hs, h1, h2⟩ := h
  obtain ⟨hi, rfl⟩ := lng_lt hs
  dsimp only at h1 h2
  exact ⟨i, hi, by omega⟩
theorem in_lng' {n k i : Nat} (h : i < n) : inB (lng n k) ((k * i : Nat) : Int) = true := by
  rw [inB_some]
  exact ⟨i, _, lng_at h, by dsimp only; omega, by dsimp only; omega⟩
theorem in_nil (x : Int) : inB [] x = false := by
  cases h : inB [] x with
  | false => rfl
  | true =>
    rw [inB_some] at h
    obtain ⟨i, s, hs, _⟩ := h
    simp at hs
theorem weeks_many : ∀ m : Nat, (runs (opn (lng 50 2) []) 0 (10080 * m)).length = 50 * m ∧ Iso (runs (opn (lng 50 2) []) 0 (10080 * m)) ((10080 * m : Nat) : Int) := by
  intro m
  induction m with
  | zero => exact ⟨rfl, fun s hs => by simp [runs] at hs⟩
  | succ m ih =>
    obtain ⟨i1, i2⟩ := ih
    have hp : ∀ i : Nat, i < 50 → opn (lng 50 2) [] ((10080 * m + 2 * i : Nat) : Int) = true := by
      intro i hi
      unfold opn
      rw [in_nil, show ((10080 * m + 2 * i : Nat) : Int) % 10080 = ((2 * i : Nat) : Int) from by omega, in_lng' hi]
      rfl
    have hno : ∀ y : Int, ((10080 * m : Nat) : Int) ≤ y → y < ((10080 * (m + 1) : Nat) : Int) → (∀ i : Nat, i < 50 → y ≠ ((10080 * m + 2 * i : Nat) : Int)) → opn (lng 50 2) [] y = false := by
      intro y h1 h2 h3
      unfold opn
      cases h : inB (lng 50 2) (y % 10080) with
      | false => rfl
      | true =>
        obtain ⟨i, hi, he⟩ := in_lng h
        exact absurd (show y = ((10080 * m + 2 * i : Nat) : Int) by omega) (h3 i hi)
    have hm := runs_many (p := opn (lng 50 2) []) (r := 2) (by decide) (10080 * m) 50 i2 hp (fun i y hi y1 y2 => hno y (by omega) (by omega) (fun j hj => by omega))
    have e : 10080 * (m + 1) = 10080 * m + 2 * 50 + 9980 := by omega
    have h0 := runs_no (p := opn (lng 50 2) []) (x := 0) (n := 10080 * m + 2 * 50) (d := 9980) (fun y y1 y2 => hno y (by omega) (by omega) (fun j hj => by omega))
    rw [e, h0]
    refine ⟨by omega, fun s hs => ?_⟩
    have := hm.2 s hs
    omega
theorem told_runs {p : Int → Bool} {b : Int} {n : Nat} (h : b = n) : toldAt p 0 b b = runs p 0 n := by
  unfold toldAt clip
  congr 1
  omega
theorem sn_runs {l c : List Sp} {b : Int} {n : Nat} (h : b = n) : snR l c 0 b = runs (opn l c) 0 n := told_runs h
theorem wn_runs {t : Td} {b : Int} {n : Nat} (h : b = n) : wnR t 0 b = runs (winP t) 0 n := told_runs h
theorem lng_cal {n k : Nat} (hk : 2 ≤ k) (hn : k * n ≤ 10000) : calOk (lng n k) [] = decide (n ≤ 50) := by
  rw [calOk_all, lng_apart hk (by omega), lng_len]
  have h1 : (lng n k).all (fun s => decide (s.t ≤ 10080)) = true := by
    rw [List.all_eq_true]
    intro s hs
    obtain ⟨i, hi⟩ := List.getElem?_of_mem hs
    obtain ⟨h2, rfl⟩ := lng_lt hi
    have h3 : k * i ≤ k * n := Nat.mul_le_mul_left k (by omega)
    dsimp only
    exact decide_eq_true (by omega)
  have h2 : apart [] = true := rfl
  rw [h1, h2]
  by_cases h : n ≤ 50
  · rw [decide_eq_true h, decide_eq_true (show n ≤ 1000 by omega)]; rfl
  · rw [decide_eq_false h]; simp
theorem lng_cal2 {n k : Nat} (hk : 2 ≤ k) (hn : k * n ≤ 1000000) : calOk [] (lng n k) = decide (n ≤ 200) := by
  rw [calOk_all, lng_apart hk hn, lng_len]
  have h2 : apart [] = true := rfl
  rw [h2]
  by_cases h : n ≤ 200
  · rw [decide_eq_true h, decide_eq_true (show n ≤ 1000 by omega)]; rfl
  · rw [decide_eq_false h]; simp
theorem sn_20 : snE (lng 50 2) [] 0 201600 = 0 ∧ (snL (lng 50 2) [] 0 201600).length = 1000 := by
  have hok : snOk (lng 50 2) [] 0 201600 = true := by unfold snOk; rw [lng_cal (by decide) (by decide)]; rfl
  have hr : snR (lng 50 2) [] 0 201600 = runs (opn (lng 50 2) []) 0 201600 := sn_runs (n := 201600) rfl
  have hl := (weeks_many 20).1
  rw [← show (201600 : Nat) = 10080 * 20 from rfl, ← hr] at hl
  have := sn_yes hok (by omega)
  rw [this.1, this.2]
  exact ⟨rfl, hl⟩
theorem sn_21 : snE (lng 50 2) [] 0 211680 = 5 ∧ (snL (lng 50 2) [] 0 211680).length = 0 := by
  have hok : snOk (lng 50 2) [] 0 211680 = true := by unfold snOk; rw [lng_cal (by decide) (by decide)]; rfl
  have hr : snR (lng 50 2) [] 0 211680 = runs (opn (lng 50 2) []) 0 211680 := sn_runs (n := 211680) rfl
  have hl := (weeks_many 21).1
  rw [← show (211680 : Nat) = 10080 * 21 from rfl, ← hr] at hl
  have := sn_many hok (by omega)
  rw [this.1, this.2]
  exact ⟨rfl, rfl⟩
def tideW : Td := ⟨1, 50, 1, 1, 0⟩
theorem win_iff {y : Int} : winP tideW y = true ↔ ∃ k : Nat, y = 50 * k := by
  rw [winP_iff]
  have e : ∀ k : Nat, hiw tideW k = 1 + 50 * k := fun k => by
    unfold hiw tideW
    dsimp only
    omega
  constructor
  · rintro ⟨k, h1, h2⟩
    rw [e] at h1 h2
    unfold tideW at h1 h2
    dsimp only at h1 h2
    exact ⟨k, by omega⟩
  · rintro ⟨k, rfl⟩
    refine ⟨k, ?_, ?_⟩ <;> rw [e] <;> unfold tideW <;> dsimp only <;> omega
theorem wins_many (m : Nat) : (runs (winP tideW) 0 (50 * m)).length = m := by
  have h := runs_many (p := winP tideW) (r := 50) (by decide) 0 m (fun s hs => by simp [runs] at hs) (fun i _ => win_iff.2 ⟨i, by omega⟩) (fun i y _ h1 h2 => by
    cases hw : winP tideW y with
    | false => rfl
    | true =>
      obtain ⟨k, hk⟩ := win_iff.1 hw
      omega)
  rw [Nat.zero_add] at h
  rw [h.1]
  show ([] : List Sp).length + m = m
  simp
theorem wn_20 : wnE tideW 0 50000 = 0 ∧ (wnL tideW 0 50000).length = 1000 := by
  have hok : wnOk tideW 0 50000 = true := by decide
  have hr : wnR tideW 0 50000 = runs (winP tideW) 0 50000 := wn_runs (n := 50000) rfl
  have hl := wins_many 1000
  rw [← show (50000 : Nat) = 50 * 1000 from rfl, ← hr] at hl
  have := wn_yes hok (by omega)
  rw [this.1, this.2]
  exact ⟨rfl, hl⟩
theorem wn_21 : wnE tideW 0 52500 = 5 ∧ (wnL tideW 0 52500).length = 0 := by
  have hok : wnOk tideW 0 52500 = true := by decide
  have hr : wnR tideW 0 52500 = runs (winP tideW) 0 52500 := wn_runs (n := 52500) rfl
  have hl := wins_many 1050
  rw [← show (52500 : Nat) = 50 * 1050 from rfl, ← hr] at hl
  have := wn_many hok (by omega)
  rw [this.1, this.2]
  exact ⟨rfl, rfl⟩
theorem sn_all : snE [⟨0, 10080⟩] [] 0 100000000 = 0 ∧ snL [⟨0, 10080⟩] [] 0 100000000 = [⟨0, 100000000⟩] := by
  have hok : snOk [⟨0, 10080⟩] [] 0 100000000 = true := by decide
  have hr : snR [⟨0, 10080⟩] [] 0 100000000 = runs (opn [⟨0, 10080⟩] []) 0 100000000 := sn_runs (n := 100000000) rfl
  have hy : runs (opn [⟨0, 10080⟩] []) 0 100000000 = [⟨0, 100000000⟩] := by
    have h := runs_yes (p := opn [⟨0, 10080⟩] []) (x := 0) (n := 0) (d := 100000000) (fun y h1 h2 => by
      unfold opn
      rw [in_nil]
      have : inB [⟨0, 10080⟩] (y % 10080) = true := inB_some.2 ⟨0, ⟨0, 10080⟩, rfl, by dsimp only; omega, by dsimp only; omega⟩
      rw [this]
      rfl)
    rw [Nat.zero_add] at h
    rw [h]
    rfl
  have := sn_yes hok (by rw [hr, hy]; decide)
  rw [this.1, this.2, hr, hy]
  exact ⟨rfl, rfl⟩
theorem both_odd {N : Nat} (hN : N ≤ 1000) : (bothL (lng N 4) [⟨0, 5000⟩]).length = N := by
  have h : ∀ n, n ≤ N → (bothTo (lng N 4) [⟨0, 5000⟩] n).length = n := by
    intro n
    induction n with
    | zero => intro _; rfl
    | succ n ih =>
      intro hn
      unfold bothTo
      rw [List.length_append, ih (by omega), lng_at (show n < N by omega)]
      dsimp only
      refine congrArg (n + ·) ?_
      have e : rowTo ⟨((4 * n : Nat) : Int), ((4 * n : Nat) : Int) + 1⟩ [⟨0, 5000⟩] 1 = [] ++ pc ⟨((4 * n : Nat) : Int), ((4 * n : Nat) : Int) + 1⟩ ⟨0, 5000⟩ := rfl
      have e2 : ([⟨0, 5000⟩] : List Sp).length = 1 := rfl
      rw [e2, e, List.nil_append]
      unfold pc
      dsimp only
      rw [if_pos (by omega)]
      exact List.length_singleton
  unfold bothL
  rw [lng_len]
  exact h N (Nat.le_refl _)
end
end Go.Proofs.YtmhfkmnpeponiaaGreatDoor
