/-
  The examples' texts that are no fractions, and what Read is to say of each; a map that is being filled with them.
-/
import Derived.Test.YtmekcdjaafegaaaGreatDoorN21
import Derived.Test.YtmekcdjaafegaaaGreatDoorSM
namespace Go.Proofs.YtmekcdjaafegaaaGreatDoor
open Go Sat Go.RowKit Go.PlainAid
set_option linter.unusedSimpArgs false
set_option linter.unusedVariables false
def longT : ByteArray := ⟨(49 :: List.replicate 78 48).toArray⟩
def keyT : Nat → ByteArray
  | 1 => ⟨#[51, 47, 45, 50]⟩ | 2 => ⟨#[48, 51]⟩ | 3 => ⟨#[49, 47, 48]⟩ | 4 => ⟨#[]⟩ | 5 => ⟨#[50, 47, 52]⟩ | 6 => ⟨#[52, 47, 49]⟩ | 7 => ⟨#[45, 48]⟩ | _ => longT
def valT : Nat → Int
  | 1 => 10 | 2 => 10 | 3 => 10 | 4 => 10 | 5 => 11 | 6 => 11 | 7 => 11 | _ => 3
def okI (i : Nat) : Prop := i = 1 ∨ i = 2 ∨ i = 3 ∨ i = 4 ∨ i = 5 ∨ i = 6 ∨ i = 7 ∨ i = 10
theorem rd1 : (readE (keyT 1)).2 = 10 := by kernel_rfl
theorem rd2 : (readE (keyT 2)).2 = 10 := by kernel_rfl
theorem rd3 : (readE (keyT 3)).2 = 10 := by kernel_rfl
theorem rd4 : (readE (keyT 4)).2 = 10 := by kernel_rfl
theorem rd5 : (readE (keyT 5)).2 = 11 := by kernel_rfl
theorem rd6 : (readE (keyT 6)).2 = 11 := by kernel_rfl
theorem rd7 : (readE (keyT 7)).2 = 11 := by kernel_rfl
theorem rd10 : (readE (keyT 10)).2 = 3 := by kernel_rfl
theorem read_key {i : Nat} (h : okI i) : (readE (keyT i)).2 = valT i := by
  rcases h with rfl | rfl | rfl | rfl | rfl | rfl | rfl | rfl
  · exact rd1
  · exact rd2
  · exact rd3
  · exact rd4
  · exact rd5
  · exact rd6
  · exact rd7
  · exact rd10
theorem read_last : readE ⟨#[45, 51, 47, 50]⟩ = (⟨true, 3, 2⟩, 0) := by kernel_rfl
theorem key_size {i : Nat} (h : okI i) : (keyT i).size ≤ 79 := by
  rcases h with rfl | rfl | rfl | rfl | rfl | rfl | rfl | rfl <;> decide
theorem key_inj {i j : Nat} (h : okI i) (h' : okI j) (e : keyT i = keyT j) : i = j := by
  have key : ∀ a ∈ [1, 2, 3, 4, 5, 6, 7, 10], ∀ b ∈ [1, 2, 3, 4, 5, 6, 7, 10], (keyT a).data.toList = (keyT b).data.toList → a = b := by decide
  refine key i ?_ j ?_ (by rw [e])
  · rcases h with rfl | rfl | rfl | rfl | rfl | rfl | rfl | rfl <;> simp
  · rcases h' with rfl | rfl | rfl | rfl | rfl | rfl | rfl | rfl <;> simp
structure Ent (listed : Array Bool) (es : Array MapEntry) : Prop where
  from_ : ∀ e ∈ es.toList, ∃ i, okI i ∧ listed.getD i true = true ∧ e.key = .string (keyT i) ∧ e.val = .int .i64 (valT i)
  born : es.toList.map (·.born) = List.range es.size
theorem getD_set {l : Array Bool} {i j : Nat} (h : l.getD i true = true) : (l.setIfInBounds j true).getD i true = true := by
  obtain ⟨l⟩ := l
  by_cases hi : i < l.length
  · have h1 : l[i] = true := by simpa [Array.getD, hi] using h
    simp only [List.setIfInBounds_toArray, Array.getD, List.size_toArray, List.length_set, hi, dif_pos]
    by_cases hij : j = i
    · subst hij; simp
    · simp [List.getElem_set_ne hij, h1]
  · simp [Array.getD, hi]
theorem getD_at {l : Array Bool} {i : Nat} : (l.setIfInBounds i true).getD i true = true := by
  obtain ⟨l⟩ := l
  by_cases hi : i < l.length
  · simp [Array.getD, hi]
  · simp [Array.getD, hi]
theorem Ent.mono {listed : Array Bool} {es : Array MapEntry} (h : Ent listed es) (j : Nat) : Ent (listed.setIfInBounds j true) es :=
  ⟨fun e he => by obtain ⟨i, h1, h2, h3⟩ := h.from_ e he; exact ⟨i, h1, getD_set h2, h3⟩, h.born⟩
theorem Ent.push {listed : Array Bool} {es : Array MapEntry} (h : Ent listed es) {i : Nat} (hi : okI i) : Ent (listed.setIfInBounds i true) (es.push { key := .string (keyT i), val := .int .i64 (valT i), born := es.size }) := by
  refine ⟨fun e he => ?_, ?_⟩
  · rw [Array.toList_push, List.mem_append, List.mem_singleton] at he
    rcases he with he | rfl
    · exact (h.mono i).from_ e he
    · exact ⟨i, hi, getD_at, rfl, rfl⟩
  · rw [Array.toList_push, List.map_append, h.born, Array.size_push, List.range_succ]
    rfl
theorem Ent.fresh {listed : Array Bool} {es : Array MapEntry} (h : Ent listed es) {i : Nat} (hi : okI i) (hn : listed.getD i true = false) : ∀ x ∈ es.toList, ∃ s', x.key = .string s' ∧ s' ≠ keyT i := fun x hx => by
  obtain ⟨j, h1, h2, h3, _⟩ := h.from_ x hx
  refine ⟨_, h3, fun e => ?_⟩
  rw [key_inj h1 hi e, hn] at h2
  cases h2
theorem Ent.old {listed : Array Bool} {es : Array MapEntry} (h : Ent listed es) : ∀ x ∈ es.toList, x.born < es.size := fun x hx => by
  have : x.born ∈ es.toList.map (·.born) := List.mem_map.2 ⟨x, hx, rfl⟩
  rw [h.born, List.mem_range] at this
  exact this
theorem Ent.nodup {listed : Array Bool} {es : Array MapEntry} (h : Ent listed es) : (es.toList.map (·.born)).Nodup := by
  rw [h.born]
  exact List.nodup_range
theorem ent_nil (listed : Array Bool) : Ent listed #[] := ⟨fun e he => by simp at he, rfl⟩
end Go.Proofs.YtmekcdjaafegaaaGreatDoor
