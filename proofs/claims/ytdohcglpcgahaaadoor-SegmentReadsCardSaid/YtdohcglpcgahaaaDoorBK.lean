/-
  Segments made right, what is written of them, and what lies between. No program in sight.
-/
import Derived.Test.YtdohcglpcgahaaaDoorRC
set_option linter.unusedSimpArgs false
set_option linter.unusedVariables false
namespace Go.Proofs.YtdohcglpcgahaaaDoor
open Go Sat Go.RowKit Go.PlainAid
def madeB (b : UInt8) : UInt8 := UInt8.ofNat (32 + b.toNat % 95)
def madeC (c : ByteArray) : ByteArray := ba ((c.data.toList.take 100).map madeB)
def madeE (e : Elem) : Elem := if e.length = 0 then [⟨#[]⟩] else (e.take 10).map madeC
def madeS (s : Segm) : Segm := if s.length = 0 then [[⟨#[]⟩]] else (s.take 30).map madeE
/-- how much a segment holds -/
def sumW {α : Type} (m : α → Nat) : List α → Nat
  | [] => 0
  | x :: l => m x + 1 + sumW m l
def mC (c : ByteArray) : Nat := c.size
def mE (e : Elem) : Nat := sumW mC e
def mS (s : Segm) : Nat := sumW mE s
theorem sumW_take {α : Type} (m : α → Nat) : ∀ (l : List α) (k : Nat), sumW m (l.take k) ≤ sumW m l
  | [], k => by simp [sumW]
  | x :: l, 0 => Nat.zero_le _
  | x :: l, k + 1 => by
    have := sumW_take m l k
    rw [List.take_succ_cons]
    unfold sumW
    omega
theorem madeB_nat (b : UInt8) : (madeB b).toNat = 32 + b.toNat % 95 := by
  unfold madeB
  rw [UInt8.toNat_ofNat']
  omega
theorem madeB_ok (b : UInt8) : badB (madeB b) = false := by
  unfold badB
  refine decide_eq_false ?_
  rw [madeB_nat]
  omega
theorem madeC_size (c : ByteArray) : (madeC c).size = min 100 c.size := by
  show ((c.data.toList.take 100).map madeB).length = _
  rw [List.length_map, List.length_take]
  rfl
theorem madeC_right (c : ByteArray) : rightC (madeC c) = true := by
  unfold rightC
  rw [Bool.and_eq_true, decide_eq_true_iff]
  refine ⟨by rw [madeC_size]; omega, ?_⟩
  show (!((c.data.toList.take 100).map madeB).any badB) = true
  rw [Bool.not_eq_true', List.any_eq_false]
  intro b hb
  obtain ⟨x, _, rfl⟩ := List.mem_map.1 hb
  rw [madeB_ok]
  exact Bool.false_ne_true
theorem madeE_right (e : Elem) : rightE (madeE e) = true := by
  unfold madeE
  split
  · decide
  · unfold rightE
    rw [Bool.and_eq_true, decide_eq_true_iff, List.all_eq_true]
    refine ⟨by rw [List.length_map, List.length_take]; omega, fun c hc => ?_⟩
    obtain ⟨x, _, rfl⟩ := List.mem_map.1 hc
    exact madeC_right x
theorem madeS_right (s : Segm) : rightS (madeS s) = true := by
  unfold madeS
  split
  · decide
  · unfold rightS
    rw [Bool.and_eq_true, decide_eq_true_iff, List.all_eq_true]
    refine ⟨by rw [List.length_map, List.length_take]; omega, fun c hc => ?_⟩
    obtain ⟨x, _, rfl⟩ := List.mem_map.1 hc
    exact madeE_right x
theorem join_sum {α β : Type} (c : UInt8) (f : β → List UInt8) (g : α → β) (m : α → Nat) (K : Nat) (h : ∀ x, (f (g x)).length + 1 ≤ K * (m x + 1)) : ∀ l : List α, (joinW c f (l.map g)).length ≤ K * sumW m l
  | [] => by simp [joinW]
  | x :: l => by
    have h2 : ∀ l : List α, ((l.map g).flatMap fun y => c :: f y).length ≤ K * sumW m l := by
      intro l
      induction l with
      | nil => simp
      | cons y l ih =>
        have := h y
        rw [List.map_cons, List.flatMap_cons, List.length_append, List.length_cons]
        unfold sumW
        rw [Nat.mul_add]
        omega
    have h3 := h2 l
    have h4 := h x
    rw [List.map_cons]
    unfold joinW sumW
    rw [List.length_append, Nat.mul_add]
    omega
theorem wC_len2 (c : ByteArray) : (wC c).length ≤ 2 * c.size := by
  unfold wC
  rw [show c.size = c.data.toList.length from rfl]
  generalize c.data.toList = l
  induction l with
  | nil => simp
  | cons b l ih =>
    have := relB_len b
    rw [List.flatMap_cons, List.length_append, List.length_cons]
    omega
theorem wE_made (e : Elem) : (wE (madeE e)).length ≤ 2 * mE e := by
  unfold madeE mE
  split
  · have : (wE [⟨#[]⟩]).length = 0 := by decide
    omega
  · have h1 := join_sum 58 wC madeC mC 2 (fun c => by
      have h2 := wC_len2 (madeC c)
      rw [madeC_size] at h2
      unfold mC
      omega) (e.take 10)
    have h2 := sumW_take mC e 10
    unfold wE
    omega
theorem wS_made (s : Segm) : (wS (madeS s)).length ≤ 2 * mS s + 2 := by
  unfold madeS mS
  split
  · have : (wS [[⟨#[]⟩]]).length = 1 := by decide
    omega
  · have h1 := join_sum 43 wE madeE mE 2 (fun e => by
      have h2 := wE_made e
      omega) (s.take 30)
    have h2 := sumW_take mE s 30
    unfold wS
    rw [List.length_append, List.length_append, List.length_singleton]
    have : (if blankS ((s.take 30).map madeE) = true then ([63] : List UInt8) else []).length ≤ 1 := by split <;> simp
    omega
theorem all_made (l : List Segm) : (l.map madeS).all rightS = true := by
  rw [List.all_eq_true]
  intro s hs
  obtain ⟨x, _, rfl⟩ := List.mem_map.1 hs
  exact madeS_right x
theorem written_len : ∀ (l : List Segm), (∀ s ∈ l, mS s ≤ 700) → ((l.map madeS).flatMap wS).length ≤ l.length * 1402
  | [], _ => by simp
  | s :: l, h => by
    have h1 := wS_made s
    have h2 := h s List.mem_cons_self
    have h3 := written_len l fun x hx => h x (List.mem_cons_of_mem _ hx)
    rw [List.map_cons, List.flatMap_cons, List.length_append, List.length_cons, Nat.succ_mul]
    omega
/-- what lies before a segment -/
def gapL (b : UInt8) : List UInt8 := List.replicate (b.toNat / 3) (if b.toNat % 3 = 0 then 10 else if b.toNat % 3 = 1 then 13 else 32)
theorem goes_rep {r : Rd} {b : UInt8} (h0 : r.mode = 0) (hb : b.toNat = 10 ∨ b.toNat = 13 ∨ b.toNat = 32) : ∀ n, Goes (List.replicate n b) r fun r' => r' = r
  | 0 => Goes.nil rfl
  | n + 1 => by
    rw [List.replicate_succ, ← List.singleton_append]
    refine Goes.app (goes_blank h0 hb) fun r1 h1 => ?_
    rw [h1]
    exact goes_rep h0 hb n
theorem goes_gap {r : Rd} (b : UInt8) (h0 : r.mode = 0) : Goes (gapL b) r fun r' => r' = r := by
  unfold gapL
  refine goes_rep h0 ?_ _
  split
  · exact .inl rfl
  split
  · exact .inr (.inl rfl)
  · exact .inr (.inr rfl)
/-- what is written with bytes between -/
structure Loose (l : List Segm) (k : Nat) (t : List UInt8) : Prop where
  go : Goes t rd0 fun r => r.mode = 0 ∧ r.out = l.take k
  len : t.length ≤ 70000 * k
theorem loose0 (l : List Segm) : Loose l 0 [] := ⟨Goes.nil ⟨rfl, rfl⟩, by simp⟩
theorem loose_step {l : List Segm} {k : Nat} {t g : List UInt8} {s : Segm} (h : Loose l k t) (hk : l[k]? = some s) (hl : l.length < 5000) (hr : rightS s = true) (hs : (wS s).length ≤ 65536) (hg : g = [] ∨ ∃ b, g = gapL b) : Loose l (k + 1) (t ++ g ++ wS s) := by
  have hk1 : k < l.length := (List.getElem?_eq_some_iff.1 hk).1
  have hgl : g.length ≤ 100 := by
    rcases hg with rfl | ⟨b, rfl⟩
    · simp
    · unfold gapL
      rw [List.length_replicate]
      have := UInt8.toNat_lt b
      omega
  refine ⟨?_, ?_⟩
  · refine Goes.app (Goes.app h.go fun r1 h1 => ?_) (Q := fun r => r.mode = 0 ∧ r.out = l.take k) fun r2 h2 => ?_
    · rcases hg with rfl | ⟨b, rfl⟩
      · exact Goes.nil h1
      · exact (goes_gap b h1.1).mono fun r' h => by rw [h]; exact h1
    · refine (goes_seg h2.1 (by rw [h2.2, List.length_take]; omega) hr).mono fun r' h => ⟨h.1, ?_⟩
      rw [h.2, h2.2, List.take_add_one, hk]
      rfl
  · have := h.len
    rw [List.length_append, List.length_append]
    omega
theorem loose_end {l : List Segm} {t : List UInt8} (h : Loose l l.length t) : runE (t ++ [32, 10]) 0 rd0 = (l, 0, 0) := by
  refine goes_fin (Goes.app h.go fun r1 h1 => ?_)
  rw [List.take_length] at h1
  refine Goes.app (l := [32]) (m := [10]) (goes_blank h1.1 (.inr (.inr rfl))) fun r2 h2 => ?_
  rw [h2]
  exact (goes_blank h1.1 (.inl rfl)).mono fun r' h => by rw [h]; exact h1
end Go.Proofs.YtdohcglpcgahaaaDoor
