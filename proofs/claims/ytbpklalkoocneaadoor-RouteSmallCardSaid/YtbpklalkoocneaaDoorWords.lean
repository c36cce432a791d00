/-
  Words that all walks of this seat share: results, bytes of strings, strings made of a row of bytes, rows that the call owns. No program in sight.
-/
import Derived.WalkKit
import Derived.WalkSpells
import Derived.WalkLawsBesides
import Derived.Handy
import Derived.PlainAid
import Derived.Lib.BufferRead
set_option linter.unusedSimpArgs false
set_option linter.unusedVariables false
namespace Go.Proofs.YtbpklalkoocneaaDoor
open Go.RowKit Go.PlainAid

theorem ret_bool {a b : Bool} (h : a = b) : Ending.returned (.bool a) = .returned (.bool b) := by rw [h]
theorem ret_int {k : IntKind} {a b : Int} (h : a = b) : Ending.returned (.int k a) = .returned (.int k b) := by rw [h]
theorem ret_str {a b : ByteArray} (h : a = b) : Ending.returned (.string a) = .returned (.string b) := by rw [h]
theorem ret_two {a b c d : Value} (h : a = b) (k : c = d) : Ending.returned (.tuple #[a, c]) = .returned (.tuple #[b, d]) := by rw [h, k]
theorem ret_three {a b c d x y : Value} (h : a = b) (k : c = d) (l : x = y) : Ending.returned (.tuple #[a, c, x]) = .returned (.tuple #[b, d, y]) := by rw [h, k, l]
theorem val_int {k : IntKind} {a b : Int} (h : a = b) : Value.int k a = .int k b := by rw [h]
theorem val_bool {a b : Bool} (h : a = b) : Value.bool a = .bool b := by rw [h]
theorem val_str {a b : ByteArray} (h : a = b) : Value.string a = .string b := by rw [h]

theorem below_drewN {B : Nat} {a w : World} (h : Below B a w) (n : Nat) : Below B a (w.drewN n) := ⟨h.os, h.tape, h.output, h.size, h.block⟩
/-- a contract at a later world, told of the earlier one -/
theorem below_step {B : Nat} {a b c : World} (h : Below B a b) (k : Below b.heap.size b c) (hB : B ≤ b.heap.size) : Below B a c := h.trans (k.mono hB)
theorem quiet_left {P : Program} {f : FuncId} {args : Array Value} {w : World} {n : Nat} {v : Value}
    (h : Calls P f args (w.drewN n) fun e w' => e = .returned v ∧ w.drewN n = w') : Calls P f args (w.drewN n) fun e w'' => e = .returned v ∧ ∃ m, w'' = w.drewN m :=
  h.mono fun _ _ ⟨he, hm⟩ => ⟨he, n, hm.symm⟩

section own
variable {w w' : World} {base size n : Nat} {e : TypeId} {v : Value} {xs : List Value}
theorem own_below {B : Nat} (h : w.ownsRow base e size v n xs) (hb : Below B w w') (hB : ∀ k, v.ownBlock = some k → k < B) : w'.ownsRow base e size v n xs := by
  obtain ⟨h1, h2⟩ := h
  refine ⟨h1, ?_⟩
  rcases h2 with h2 | ⟨g, cap, cur, rfl, hg, hh, h3⟩
  · exact .inl h2
  · exact .inr ⟨g, cap, cur, rfl, hg, by rw [hb.block g (hB g rfl)]; exact hh, h3⟩
theorem own_all (h : w.ownsRow base e size v n xs) (hb : Below w.heap.size w w') : w'.ownsRow base e size v n xs :=
  own_below h hb fun k hk => (h.lt k hk).2
theorem own_drewN (h : w.ownsRow base e size v n xs) (k : Nat) : (w.drewN k).ownsRow base e size v n xs := h
theorem own_base {b : Nat} (h : w.ownsRow base e size v n xs) (hb : b ≤ base) : w.ownsRow b e size v n xs := by
  obtain ⟨h1, h2⟩ := h
  refine ⟨h1, ?_⟩
  rcases h2 with h2 | ⟨g, cap, cur, rfl, hg, h3⟩
  · exact .inl h2
  · exact .inr ⟨g, cap, cur, rfl, by omega, h3⟩
/-- what an owned value looks like: nil, or the head of a block -/
theorem own_form (h : w.ownsRow base e size v n xs) : (v = .slice none 0 0 ∧ n = 0 ∧ xs = []) ∨ ∃ g cap, v = .slice (some ⟨g, 0, none⟩) n cap ∧ base ≤ g ∧ g < w.heap.size ∧ n ≤ cap := by
  rcases h.2 with ⟨rfl, rfl⟩ | ⟨g, cap, cur, rfl, hg, _, hc, _⟩
  · refine .inl ⟨rfl, rfl, List.eq_nil_of_length_eq_zero (by simpa using h.1)⟩
  · exact .inr ⟨g, cap, rfl, hg, (h.lt g rfl).2, hc⟩
theorem own_slice (h : w.ownsRow base e size v n xs) : ∃ A c, v = .slice A n c ∧ (0 < n → ∃ g, A = some ⟨g, 0, none⟩ ∧ base ≤ g ∧ g < w.heap.size) := by
  rcases own_form h with ⟨rfl, rfl, _⟩ | ⟨g, cap, rfl, hg, hl, _⟩
  · exact ⟨none, 0, rfl, fun h => absurd h (by omega)⟩
  · exact ⟨_, cap, rfl, fun _ => ⟨g, rfl, hg, hl⟩⟩
end own

/-- the string of a list of bytes -/
def strOf (l : List Int) : ByteArray := l.foldl (fun r n => r.push (UInt8.ofNat n.toNat)) ByteArray.empty

theorem foldl_push (l : List Int) (s : ByteArray) : (l.foldl (fun r n => r.push (UInt8.ofNat n.toNat)) s).data.toList = s.data.toList ++ l.map (fun n => UInt8.ofNat n.toNat) := by
  induction l generalizing s with
  | nil => simp
  | cons a l ih => rw [List.foldl_cons, ih]; simp [ByteArray.push]
theorem strOf_toList (l : List Int) : (strOf l).data.toList = l.map (fun n => UInt8.ofNat n.toNat) := by
  unfold strOf; rw [foldl_push]; simp
theorem bytes_ext {a b : ByteArray} (h : a.data.toList = b.data.toList) : a = b := by
  cases a; cases b; congr; exact Array.toList_inj.1 h
theorem size_toList (s : ByteArray) : s.data.toList.length = s.size := Array.length_toList
theorem strOf_size (l : List Int) : (strOf l).size = l.length := by rw [← size_toList, strOf_toList]; simp
theorem bt_list (s : ByteArray) (k : Nat) : bt s k = ((s.data.toList[k]?.map fun c => (c.toNat : Int)).getD 0) := by
  unfold bt
  by_cases h : k < s.size
  · rw [dif_pos h, List.getElem?_eq_getElem (by rw [size_toList]; exact h)]; rfl
  · rw [dif_neg h, List.getElem?_eq_none (by rw [size_toList]; omega)]; rfl
theorem bt_strOf (l : List Int) (hl : ∀ x ∈ l, 0 ≤ x ∧ x ≤ 255) (k : Nat) : bt (strOf l) k = l.getD k 0 := by
  rw [bt_list, strOf_toList, List.getElem?_map]
  rcases h : l[k]? with _ | x
  · simp [List.getD_eq_getElem?_getD, h]
  · obtain ⟨h0, h1⟩ := hl x (List.mem_of_getElem? h)
    simp [List.getD_eq_getElem?_getD, h]
    omega
/-- the bytes of a string, as numbers -/
def btl (s : ByteArray) : List Int := s.data.toList.map fun c => (c.toNat : Int)
theorem btl_length (s : ByteArray) : (btl s).length = s.size := by unfold btl; simp
theorem btl_range (s : ByteArray) : ∀ x ∈ btl s, 0 ≤ x ∧ x ≤ 255 := by
  intro x hx
  unfold btl at hx
  rw [List.mem_map] at hx
  obtain ⟨c, _, rfl⟩ := hx
  have := c.toNat_lt
  omega
theorem btl_get (s : ByteArray) (k : Nat) : (btl s).getD k 0 = bt s k := by
  rw [bt_list]; unfold btl; rw [List.getD_eq_getElem?_getD, List.getElem?_map]
theorem strOf_btl (s : ByteArray) : strOf (btl s) = s := by
  apply bytes_ext
  rw [strOf_toList]; unfold btl
  rw [List.map_map]
  conv => rhs; rw [← List.map_id s.data.toList]
  apply List.map_congr_left
  intro c _
  simp
theorem btl_strOf (l : List Int) (hl : ∀ x ∈ l, 0 ≤ x ∧ x ≤ 255) : btl (strOf l) = l := by
  unfold btl
  rw [strOf_toList, List.map_map]
  conv => rhs; rw [← List.map_id l]
  apply List.map_congr_left
  intro c hc
  have := hl c hc
  simp
  omega
theorem btl_inj {a b : ByteArray} (h : btl a = btl b) : a = b := by rw [← strOf_btl a, ← strOf_btl b, h]
theorem btl_append (a b : ByteArray) : btl (a ++ b) = btl a ++ btl b := by unfold btl; simp
theorem btl_extract (s : ByteArray) (i j : Nat) : btl (s.extract i j) = ((btl s).take j).drop i := by
  unfold btl
  simp [List.map_take, List.map_drop, ByteArray.data_extract, List.drop_take]
theorem btl_ext {a b : ByteArray} (hs : a.size = b.size) (h : ∀ k, k < a.size → bt a k = bt b k) : a = b := by
  apply btl_inj
  apply List.ext_getElem? 
  intro k
  by_cases hk : k < a.size
  · have h1 := h k hk
    rw [← btl_get, ← btl_get, List.getD_eq_getElem?_getD, List.getD_eq_getElem?_getD] at h1
    rw [List.getElem?_eq_getElem (by rw [btl_length]; exact hk), List.getElem?_eq_getElem (by rw [btl_length]; omega)] at h1 ⊢
    simpa using h1
  · rw [List.getElem?_eq_none (by rw [btl_length]; omega), List.getElem?_eq_none (by rw [btl_length]; omega)]
theorem bt_append_left (a b : ByteArray) {k : Nat} (h : k < a.size) : bt (a ++ b) k = bt a k := by
  rw [← btl_get, ← btl_get, btl_append, List.getD_eq_getElem?_getD, List.getElem?_append_left (by rw [btl_length]; exact h), List.getD_eq_getElem?_getD]
theorem bt_append_right (a b : ByteArray) {k : Nat} (h : a.size ≤ k) : bt (a ++ b) k = bt b (k - a.size) := by
  rw [← btl_get, ← btl_get, btl_append, List.getD_eq_getElem?_getD, List.getElem?_append_right (by rw [btl_length]; exact h), btl_length, List.getD_eq_getElem?_getD]
theorem bt_extract (s : ByteArray) (i j : Nat) {k : Nat} (h : i + k < j) : bt (s.extract i j) k = bt s (i + k) := by
  rw [← btl_get, ← btl_get, btl_extract, List.getD_eq_getElem?_getD, List.getD_eq_getElem?_getD, List.getElem?_drop, List.getElem?_take, if_pos h]

/-- 'string(b)' of a row of bytes that the call owns -/
theorem run_own_string {P : Program} (w : World) (src dst e : TypeId) (hs : P.underlying src = some (.slice e)) (he : P.underlying e = some (.int .u8)) (hd : P.underlying dst = some .string)
    {base : Nat} {e' : TypeId} {v : Value} {n : Nat} {l : List Int} (h : w.ownsRow base e' 1 v n (l.map (Value.int .u8))) : (convert src dst v).run P w = .ok (.string (strOf l)) w := by
  rcases h.2 with ⟨rfl, rfl⟩ | ⟨g, cap, cur, rfl, _⟩
  · have hl : l = [] := List.eq_nil_of_length_eq_zero (by simpa using h.1)
    subst hl
    exact Lib.run_convert_nil_bytes w src dst e 0 hs he hd
  · rw [run_convert_bytes_string w src dst e _ n cap hs he hd]
    have hn : n = (l.map (Value.int .u8)).length := by have := h.1; omega
    have hl := run_loadCells_list (P := P) w ⟨g, 0, none⟩ (l.map (Value.int .u8)) (fun j u hj => h.cells (g := g) rfl j u hj)
    rw [← hn] at hl
    exact run_bytesToString w _ n cap l hl
end Go.Proofs.YtbpklalkoocneaaDoor
