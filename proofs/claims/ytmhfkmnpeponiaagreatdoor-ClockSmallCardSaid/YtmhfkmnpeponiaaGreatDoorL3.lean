/-
  The walks of the laws of the clock: spans that are made of numbers.
-/
import Derived.Test.YtmhfkmnpeponiaaGreatDoorL1
namespace Go.Proofs.YtmhfkmnpeponiaaGreatDoor
open Go Sat Go.RowKit Go.PlainAid
set_option linter.unusedSimpArgs false
set_option linter.unusedVariables false
def u8s (x : List Int) : List Value := x.map (Value.int .u8)
def U8 (x : List Int) : Prop := ∀ v ∈ x, 0 ≤ v ∧ v ≤ 255
/-- where the n-th span may begin, and the spans of n pairs of numbers -/
def mdAt (x : List Int) : Nat → Int
  | 0 => 0
  | n + 1 => mdAt x n + x.getD (2 * n) 0 + 1 + x.getD (2 * n + 1) 0 + 1
def mdS (x : List Int) (n : Nat) : Sp := ⟨mdAt x n + x.getD (2 * n) 0, mdAt x n + x.getD (2 * n) 0 + 1 + x.getD (2 * n + 1) 0⟩
def mdTo (x : List Int) (n : Nat) : List Sp := (List.range n).map (mdS x)
def mdN (x : List Int) : Nat := min (x.length / 2) 40
def mdL (x : List Int) : List Sp := mdTo x (mdN x)
theorem u8_get {x : List Int} (h : U8 x) (i : Nat) : 0 ≤ x.getD i 0 ∧ x.getD i 0 ≤ 255 := by
  rw [List.getD_eq_getElem?_getD]
  cases hx : x[i]? with
  | none => simp
  | some v => exact h v (List.mem_of_getElem? hx)
theorem mdAt_bd {x : List Int} (h : U8 x) : ∀ n : Nat, 0 ≤ mdAt x n ∧ mdAt x n ≤ 512 * n := by
  intro n
  induction n with
  | zero => simp [mdAt]
  | succ n ih =>
    have h1 := u8_get h (2 * n)
    have h2 := u8_get h (2 * n + 1)
    rw [mdAt]
    omega
theorem mdTo_len (x : List Int) (n : Nat) : (mdTo x n).length = n := by unfold mdTo; simp
theorem mdTo_succ (x : List Int) (n : Nat) : mdTo x (n + 1) = mdTo x n ++ [mdS x n] := by unfold mdTo; simp [List.range_succ]
theorem mdTo_get {x : List Int} {n k : Nat} (h : k < n) : (mdTo x n)[k]? = some (mdS x k) := by unfold mdTo; simp [h]
theorem mdTo_of {x : List Int} {n k : Nat} {s : Sp} (h : (mdTo x n)[k]? = some s) : k < n ∧ s = mdS x k := by
  have h1 := (List.getElem?_eq_some_iff.1 h).1
  rw [mdTo_len] at h1
  rw [mdTo_get h1] at h
  exact ⟨h1, (Option.some.inj h).symm⟩
theorem mdTo_ok {x : List Int} (h : U8 x) {n : Nat} (hn : n ≤ 40) : okTo (mdTo x n) (mdTo x n).length = true := by
  unfold okTo
  rw [List.all_eq_true]
  intro i hi
  rw [List.mem_range, mdTo_len] at hi
  unfold okAt
  rw [mdTo_get hi]
  have hb := mdAt_bd h i
  have h1 := u8_get h (2 * i)
  have h2 := u8_get h (2 * i + 1)
  have e1 : (mdS x i).f = mdAt x i + x.getD (2 * i) 0 := rfl
  have e2 : (mdS x i).t = mdAt x i + x.getD (2 * i) 0 + 1 + x.getD (2 * i + 1) 0 := rfl
  simp only [Bool.and_eq_true, decide_eq_true_eq]
  refine ⟨⟨⟨by omega, by omega⟩, by omega⟩, ?_⟩
  cases i with
  | zero => rfl
  | succ i =>
    dsimp only
    rw [mdTo_get (show i < n by omega)]
    have e3 : (mdS x i).t = mdAt x i + x.getD (2 * i) 0 + 1 + x.getD (2 * i + 1) 0 := rfl
    have e4 : mdAt x (i + 1) = mdAt x i + x.getD (2 * i) 0 + 1 + x.getD (2 * i + 1) 0 + 1 := rfl
    simp only [decide_eq_true_eq]
    omega
theorem mdN_le (x : List Int) : mdN x ≤ 40 := by unfold mdN; omega
theorem mdL_len (x : List Int) : (mdL x).length = mdN x := mdTo_len _ _
theorem md_apart {x : List Int} (h : U8 x) : apart (mdL x) = true := by
  unfold apart
  rw [show okTo (mdL x) (mdL x).length = true from mdTo_ok h (mdN_le x), decide_eq_true (show (mdL x).length ≤ 1000 by rw [mdL_len]; have := mdN_le x; omega)]
  rfl
/-- all ends are at most so great -/
theorem md_end {x : List Int} (h : U8 x) {k : Nat} {s : Sp} (hs : (mdL x)[k]? = some s) : s.t ≤ 20480 := by
  obtain ⟨h0, rfl⟩ := mdTo_of hs
  have hn := mdN_le x
  have hb := mdAt_bd h k
  have h1 := u8_get h (2 * k)
  have h2 := u8_get h (2 * k + 1)
  have e2 : (mdS x k).t = mdAt x k + x.getD (2 * k) 0 + 1 + x.getD (2 * k + 1) 0 := rfl
  omega
def wkN (x : List Int) : Nat := bhN (mdL x) 10080
def wkL (x : List Int) : List Sp := (mdL x).take (wkN x)
theorem md_ok {x : List Int} (h : U8 x) : okTo (mdL x) (mdL x).length = true := mdTo_ok h (mdN_le x)
theorem wkL_get {x : List Int} {k : Nat} {s : Sp} (hs : (wkL x)[k]? = some s) : k < wkN x ∧ (mdL x)[k]? = some s := by
  unfold wkL at hs
  rw [List.getElem?_take] at hs
  split at hs
  · rename_i h
    exact ⟨h, hs⟩
  · cases hs
theorem wk_len {x : List Int} (h : U8 x) : (wkL x).length = wkN x := by
  unfold wkL
  rw [List.length_take]
  have := (bhN_is (md_ok h) 10080).le
  unfold wkN
  omega
theorem okTo_take {l : List Sp} (h : okTo l l.length = true) (n : Nat) : okTo (l.take n) (l.take n).length = true := by
  unfold okTo
  rw [List.all_eq_true]
  intro i hi
  rw [List.mem_range, List.length_take] at hi
  have h1 := okTo_at h (show i < l.length by omega)
  unfold okAt at h1 ⊢
  have q1 : (l.take n)[i]? = l[i]? := by rw [List.getElem?_take, if_pos (by omega)]
  rw [q1]
  cases i with
  | zero => exact h1
  | succ i =>
    have q2 : (l.take n)[i]? = l[i]? := by rw [List.getElem?_take, if_pos (by omega)]
    simp only [q2]
    exact h1
theorem wk_cal {x y : List Int} (h : U8 x) (h2 : U8 y) : calOk (wkL x) (mdL y) = true := by
  have a1 := md_apart h2
  have a0 : apart (wkL x) = true := by
    unfold apart
    rw [show okTo (wkL x) (wkL x).length = true from okTo_take (md_ok h) _, decide_eq_true (show (wkL x).length ≤ 1000 by rw [wk_len h]; have := (bhN_is (md_ok h) 10080).le; rw [mdL_len] at this; have := mdN_le x; unfold wkN; omega)]
    rfl
  have n0 : (wkL x).length ≤ 50 := by rw [wk_len h]; have := (bhN_is (md_ok h) 10080).le; rw [mdL_len] at this; have := mdN_le x; unfold wkN; omega
  have n1 : (mdL y).length ≤ 200 := by rw [mdL_len]; have := mdN_le y; omega
  unfold calOk
  rw [a0, a1, decide_eq_true n0, decide_eq_true n1]
  cases hs : (wkL x)[(wkL x).length - 1]? with
  | none => rfl
  | some s =>
    obtain ⟨h3, h4⟩ := wkL_get hs
    have := (bhN_is (md_ok h) 10080).lo _ s h3 h4
    simpa using this
/-- a slice of the function's own that is shorter than its row -/
theorem done_cut {cx : Cx} {v : SV} {H : Heap} {e size m k : Nat} {xs xs' : List Value} {mk : Value → Value} (hn : cx.n0 = cx.W.heap.size) (hM : cx.M = []) (d : Nat) (A : Option (Nat × Nat)) (cap : Nat) (hf : hfind H d = some (.row A e size m cap xs')) (hx : xs' = xs) (h : v.real = mk (.slice (adr A) k cap)) :
    Done cx (fun e' w' => ∃ A cap, e' = .returned (mk (.slice (adr A) k cap)) ∧ w'.ownsRow cx.W.heap.size e size (.slice (adr A) m cap) m xs ∧ Below cx.W.heap.size cx.W w') v H :=
  ⟨fun w hw => ⟨A, cap, by rw [h], (by
    have h1 : (HB.row A e size m cap xs').holds cx w := hw.at_ hf
    rw [← hn, ← hx]
    exact h1), below_of hn hM hw⟩⟩
end Go.Proofs.YtmhfkmnpeponiaaGreatDoor
