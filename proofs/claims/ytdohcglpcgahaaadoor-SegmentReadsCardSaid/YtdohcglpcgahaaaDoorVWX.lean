/-
  The reference's tags, kinds, references and numbers, walked. The reference's number, walked.
-/
import Derived.Test.YtdohcglpcgahaaaDoorSA
import Derived.Test.YtdohcglpcgahaaaDoorAS
import Derived.Test.YtdohcglpcgahaaaDoorSWX
set_option linter.unusedSimpArgs false
set_option linter.unusedVariables false
namespace Go.Proofs.YtdohcglpcgahaaaDoor
section
open Go Sat Go.RowKit Go.PlainAid
set_option maxRecDepth 100000 in
set_option maxHeartbeats 8000000 in
theorem capital_any (s : ByteArray) (w : World) (hs : s.size ≤ 9223372036854775807) :
    Calls Tryd.prog 84 #[.string s] w fun e w' => e = .returned (.bool (s.data.toList.all capB)) ∧ Below w.heap.size w w' := by
  refine calls_sat (cx := Tryd.cx 20 [] [] [] w) (Tryd.ok ..) Tryd.func84 rfl [.v (.string s)] rfl (by show 1 ≤ 20; omega) [] (holds_nil (Nat.le_refl _)) ?_
  obtain ⟨l, hl⟩ : ∃ l, l = s.data.toList := ⟨_, rfl⟩
  have hsz : s.size = l.length := by rw [hl]; rfl
  rw [← hl]
  repeat' ((conv => whnf); first | refine walk (Tryd.ok ..) ?_ | (refine Cnd.mk (fun h => ?_) (fun h => ?_) <;> (first | exact cndT h (by (try dsimp only); omega) | exact cndF h (by (try dsimp only); omega) | (exfalso; simp at h; omega) | simp at h | skip)) | refine kp ?_ ?_ | refine tw ?_ ?_ | refine appnil rfl ?_ | refine rawnil rfl ?_ | exact trivial | refine side2 ?_ | refine sideL2 ?_ | refine Or.inr ?_ | refine sat_drawH (Tryd.ok ..) (by kernel_rfl) ?_ | refine xi _ (And.intro rfl rfl) ?_ | refine xi _ (fun _ => And.intro rfl rfl) ?_ | refine xi _ rfl ?_)
  refine sat_loop (Tryd.ok ..) (α := Nat) (fun k => ([(0, .yes, .v (.string s)), (3, .yes, .v (.int .i64 k))], []))
    (fun k => k ≤ l.length ∧ (l.take k).all capB = true) (fun k => l.length - k) (fun _ => rfl) ?_ ?_
  · refine ⟨0, ⟨Nat.zero_le _, by simp⟩, ?_, ?_, rfl⟩
    all_goals ((repeat' (first | exact trivial | exact rfl | refine And.intro ?_ ?_)) <;> (try (conv => whnf)) <;> (try simp only [SV.real, SV.r2, SV.r1]))
  rintro k ⟨hk, he⟩
  by_cases hk1 : k < l.length
  case neg =>
    obtain rfl : k = l.length := by omega
    rw [List.take_length] at he
    rw [he]
    repeat' ((conv => whnf); first | refine walk (Tryd.ok ..) ?_ | (refine Cnd.mk (fun h => ?_) (fun h => ?_) <;> (first | exact cndT h (by (try dsimp only); omega) | exact cndF h (by (try dsimp only); omega) | (exfalso; simp at h; omega) | simp at h | skip)) | refine kp ?_ ?_ | refine tw ?_ ?_ | refine appnil rfl ?_ | refine rawnil rfl ?_ | exact trivial | refine side2 ?_ | refine sideL2 ?_ | refine Or.inr ?_ | refine sat_drawH (Tryd.ok ..) (by kernel_rfl) ?_ | refine xi _ (And.intro rfl rfl) ?_ | refine xi _ (fun _ => And.intro rfl rfl) ?_ | refine xi _ rfl ?_)
    exact done_pure rfl rfl rfl
  obtain ⟨b, hb⟩ : ∃ b, l[k]? = some b := ⟨_, List.getElem?_eq_getElem hk1⟩
  have hbs : bt s k = (b.toNat : Int) := btA_at (by rw [← hl]; exact hb)
  repeat' ((conv => whnf); first | refine walk (Tryd.ok ..) ?_ | (refine Cnd.mk (fun h => ?_) (fun h => ?_) <;> (first | exact cndT h (by (try dsimp only); omega) | exact cndF h (by (try dsimp only); omega) | (exfalso; simp at h; omega) | simp at h | skip)) | refine kp ?_ ?_ | refine tw ?_ ?_ | refine appnil rfl ?_ | refine rawnil rfl ?_ | exact trivial | refine side2 ?_ | refine sideL2 ?_ | refine Or.inr ?_ | refine sat_drawH (Tryd.ok ..) (by kernel_rfl) ?_ | refine xi _ (And.intro rfl rfl) ?_ | refine xi _ (fun _ => And.intro rfl rfl) ?_ | refine xi _ rfl ?_)
  · rw [hbs] at h
    rw [allA_no hb (by unfold capB; simp; omega)]
    exact done_pure rfl rfl rfl
  · rw [hbs] at h
    refine ⟨k + 1, ⟨⟨hk1, allA_step he hb (by unfold capB; simp; omega)⟩, by omega⟩, ?_, ?_, rfl⟩
    all_goals ((repeat' (first | exact trivial | exact rfl | refine And.intro ?_ ?_)) <;> (try (conv => whnf)) <;> (try simp only [SV.real, SV.r2, SV.r1]))
theorem rkind_eq (s : ByteArray) : (((s.size : Int) == 6) && s.data.toList.all capB) = kindB s := by
  unfold kindB lettersB
  have e : s.size = s.data.toList.length := rfl
  rw [Bool.eq_iff_iff]
  simp only [Bool.and_eq_true, decide_eq_true_eq, beq_iff_eq, Bool.false_and, Bool.or_false]
  constructor
  · rintro ⟨h1, h2⟩
    exact ⟨h2, by omega⟩
  · rintro ⟨h1, h2⟩
    exact ⟨by omega, h1⟩
set_option maxRecDepth 100000 in
set_option maxHeartbeats 8000000 in
theorem rkind_any (s : ByteArray) (w : World) (hs : s.size ≤ 9223372036854775807) :
    Calls Tryd.prog 65 #[.string s] w fun e w' => e = .returned (.bool (kindB s)) ∧ Below w.heap.size w w' := by
  refine calls_sat (cx := Tryd.cx 10 [] [] [] w) (Tryd.ok ..) Tryd.func65 rfl [.v (.string s)] rfl (by show 1 ≤ 10; omega) [] (holds_nil (Nat.le_refl _)) ?_
  repeat' ((conv => whnf); first | refine walk (Tryd.ok ..) ?_ | (refine Cnd.mk (fun h => ?_) (fun h => ?_) <;> (first | exact cndT h (by (try dsimp only); omega) | exact cndF h (by (try dsimp only); omega) | (exfalso; simp at h; omega) | simp at h | skip)) | refine kp ?_ ?_ | refine tw ?_ ?_ | refine appnil rfl ?_ | refine rawnil rfl ?_ | exact trivial | refine side2 ?_ | refine sideL2 ?_ | refine Or.inr ?_ | refine sat_drawH (Tryd.ok ..) (by kernel_rfl) ?_ | refine xi _ (And.intro rfl rfl) ?_ | refine xi _ (fun _ => And.intro rfl rfl) ?_ | refine xi _ rfl ?_)
  (conv => whnf)
  refine calledQ_at (.v (.bool (s.data.toList.all capB))) rfl (fun _ w' hh => by exact capital_any s w' hs) ?_
  repeat' ((conv => whnf); first | refine walk (Tryd.ok ..) ?_ | (refine Cnd.mk (fun h => ?_) (fun h => ?_) <;> (first | exact cndT h (by (try dsimp only); omega) | exact cndF h (by (try dsimp only); omega) | (exfalso; simp at h; omega) | simp at h | skip)) | refine kp ?_ ?_ | refine tw ?_ ?_ | refine appnil rfl ?_ | refine rawnil rfl ?_ | exact trivial | refine side2 ?_ | refine sideL2 ?_ | refine Or.inr ?_ | refine sat_drawH (Tryd.ok ..) (by kernel_rfl) ?_ | refine xi _ (And.intro rfl rfl) ?_ | refine xi _ (fun _ => And.intro rfl rfl) ?_ | refine xi _ rfl ?_)
  exact done_pure rfl rfl (congrArg Value.bool (rkind_eq s))
theorem rtag_eq (s : ByteArray) : (((s.size : Int) == 3) && s.data.toList.all capB && !(s == hedS) && !(s == endS)) = tagB s := by
  unfold tagB lettersB
  have e : s.size = s.data.toList.length := rfl
  rw [Bool.eq_iff_iff]
  simp only [Bool.and_eq_true, decide_eq_true_eq, beq_iff_eq, Bool.false_and, Bool.or_false, Bool.not_eq_true', ← Bool.not_eq_true, MapKept.bytes_beq, ne_eq]
  constructor
  · rintro ⟨⟨⟨h1, h2⟩, h3⟩, h4⟩
    exact ⟨⟨⟨h2, by omega⟩, h3⟩, h4⟩
  · rintro ⟨⟨⟨h1, h2⟩, h3⟩, h4⟩
    exact ⟨⟨⟨by omega, h1⟩, h3⟩, h4⟩
set_option maxRecDepth 100000 in
set_option maxHeartbeats 8000000 in
theorem rtag_any (s : ByteArray) (w : World) (hs : s.size ≤ 9223372036854775807) :
    Calls Tryd.prog 63 #[.string s] w fun e w' => e = .returned (.bool (tagB s)) ∧ Below w.heap.size w w' := by
  refine calls_sat (cx := Tryd.cx 18 [] [] [] w) (Tryd.ok ..) Tryd.func63 rfl [.v (.string s)] rfl (by show 1 ≤ 18; omega) [] (holds_nil (Nat.le_refl _)) ?_
  repeat' ((conv => whnf); first | refine walk (Tryd.ok ..) ?_ | (refine Cnd.mk (fun h => ?_) (fun h => ?_) <;> (first | exact cndT h (by (try dsimp only); omega) | exact cndF h (by (try dsimp only); omega) | (exfalso; simp at h; omega) | simp at h | skip)) | refine kp ?_ ?_ | refine tw ?_ ?_ | refine appnil rfl ?_ | refine rawnil rfl ?_ | exact trivial | refine side2 ?_ | refine sideL2 ?_ | refine Or.inr ?_ | refine sat_drawH (Tryd.ok ..) (by kernel_rfl) ?_ | refine xi _ (And.intro rfl rfl) ?_ | refine xi _ (fun _ => And.intro rfl rfl) ?_ | refine xi _ rfl ?_)
  (conv => whnf)
  refine calledQ_at (.v (.bool (s.data.toList.all capB))) rfl (fun _ w' hh => by exact capital_any s w' hs) ?_
  repeat' ((conv => whnf); first | refine walk (Tryd.ok ..) ?_ | (refine Cnd.mk (fun h => ?_) (fun h => ?_) <;> (first | exact cndT h (by (try dsimp only); omega) | exact cndF h (by (try dsimp only); omega) | (exfalso; simp at h; omega) | simp at h | skip)) | refine kp ?_ ?_ | refine tw ?_ ?_ | refine appnil rfl ?_ | refine rawnil rfl ?_ | exact trivial | refine side2 ?_ | refine sideL2 ?_ | refine Or.inr ?_ | refine sat_drawH (Tryd.ok ..) (by kernel_rfl) ?_ | refine xi _ (And.intro rfl rfl) ?_ | refine xi _ (fun _ => And.intro rfl rfl) ?_ | refine xi _ rfl ?_)
  exact done_pure rfl rfl (congrArg Value.bool (rtag_eq s))
theorem ext_oneR {s : ByteArray} {k : Nat} {b : UInt8} (h : s.data.toList[k]? = some b) : (s.extract k (k + 1)).data.toList = [b] := by
  have hk : k < s.data.toList.length := (List.getElem?_eq_some_iff.1 h).1
  rw [ByteArray.data_extract, Array.toList_extract, List.extract_eq_take_drop, show k + 1 - k = 1 by omega, List.drop_eq_getElem_cons hk]
  rw [(List.getElem?_eq_some_iff.1 h).2]
  rfl
set_option maxRecDepth 100000 in
set_option maxHeartbeats 8000000 in
theorem rref_any (s : ByteArray) (w : World) (hs : s.size ≤ 9223372036854775807) :
    Calls Tryd.prog 66 #[.string s] w fun e w' => e = .returned (.bool (refB s)) ∧ Below w.heap.size w w' := by
  refine calls_sat (cx := Tryd.cx 37 [] [] [] w) (Tryd.ok ..) Tryd.func66 rfl [.v (.string s)] rfl (by show 1 ≤ 37; omega) [] (holds_nil (Nat.le_refl _)) ?_
  obtain ⟨l, hl⟩ : ∃ l, l = s.data.toList := ⟨_, rfl⟩
  have hsz : s.size = l.length := by rw [hl]; rfl
  repeat' ((conv => whnf); first | refine walk (Tryd.ok ..) ?_ | (refine Cnd.mk (fun h => ?_) (fun h => ?_) <;> (first | exact cndT h (by (try dsimp only); omega) | exact cndF h (by (try dsimp only); omega) | (exfalso; simp at h; omega) | simp at h | skip)) | refine kp ?_ ?_ | refine tw ?_ ?_ | refine appnil rfl ?_ | refine rawnil rfl ?_ | exact trivial | refine side2 ?_ | refine sideL2 ?_ | refine Or.inr ?_ | refine sat_drawH (Tryd.ok ..) (by kernel_rfl) ?_ | refine xi _ (And.intro rfl rfl) ?_ | refine xi _ (fun _ => And.intro rfl rfl) ?_ | refine xi _ rfl ?_)
  refine sat_loop (Tryd.ok ..) (α := Nat) (fun k => ([(0, .yes, .v (.string s)), (3, .yes, .v (.int .i64 k))], []))
    (fun k => k ≤ l.length ∧ (l.take k).all (fun b => capB b || (true && digB b)) = true) (fun k => l.length - k) (fun _ => rfl) ?_ ?_
  · refine ⟨0, ⟨Nat.zero_le _, by simp⟩, ?_, ?_, rfl⟩
    all_goals ((repeat' (first | exact trivial | exact rfl | refine And.intro ?_ ?_)) <;> (try (conv => whnf)) <;> (try simp only [SV.real, SV.r2, SV.r1]))
  rintro k ⟨hk, he⟩
  by_cases hk1 : k < l.length
  case neg =>
    obtain rfl : k = l.length := by omega
    rw [List.take_length] at he
    repeat' ((conv => whnf); first | refine walk (Tryd.ok ..) ?_ | (refine Cnd.mk (fun h => ?_) (fun h => ?_) <;> (first | exact cndT h (by (try dsimp only); omega) | exact cndF h (by (try dsimp only); omega) | (exfalso; simp at h; omega) | simp at h | skip)) | refine kp ?_ ?_ | refine tw ?_ ?_ | refine appnil rfl ?_ | refine rawnil rfl ?_ | exact trivial | refine side2 ?_ | refine sideL2 ?_ | refine Or.inr ?_ | refine sat_drawH (Tryd.ok ..) (by kernel_rfl) ?_ | refine xi _ (And.intro rfl rfl) ?_ | refine xi _ (fun _ => And.intro rfl rfl) ?_ | refine xi _ rfl ?_)
    refine done_pure rfl rfl ?_
    unfold refB lettersB
    rw [← hl, he]
    show Value.bool _ = _
    congr 1
    rw [Bool.eq_iff_iff]
    simp [SV.real, SV.r2, SV.r1, hsz]
    omega
  obtain ⟨b, hb⟩ : ∃ b, l[k]? = some b := ⟨_, List.getElem?_eq_getElem hk1⟩
  have hbs : bt s k = (b.toNat : Int) := btA_at (by rw [← hl]; exact hb)
  have hex : (s.extract k (k + 1)).data.toList = [b] := ext_oneR (by rw [← hl]; exact hb)
  repeat' ((conv => whnf); first | refine walk (Tryd.ok ..) ?_ | (refine Cnd.mk (fun h => ?_) (fun h => ?_) <;> (first | exact cndT h (by (try dsimp only); omega) | exact cndF h (by (try dsimp only); omega) | (exfalso; simp at h; omega) | simp at h | skip)) | refine kp ?_ ?_ | refine tw ?_ ?_ | refine appnil rfl ?_ | refine rawnil rfl ?_ | exact trivial | refine side2 ?_ | refine sideL2 ?_ | refine Or.inr ?_ | refine sat_drawH (Tryd.ok ..) (by kernel_rfl) ?_ | refine xi _ (And.intro rfl rfl) ?_ | refine xi _ (fun _ => And.intro rfl rfl) ?_ | refine xi _ rfl ?_)
  (conv => whnf)
  refine called_at (.v (.bool (capB b))) rfl (fun w' hh => by
    have h1 := capital_any (s.extract k (k + 1)) w' (by show (s.extract k (k + 1)).data.toList.length ≤ _; rw [hex]; simp)
    rw [hex] at h1
    rw [show capB b = [b].all capB by simp]
    exact h1) ?_
  cases hc : capB b with
  | true =>
    repeat' ((conv => whnf); first | refine walk (Tryd.ok ..) ?_ | (refine Cnd.mk (fun h => ?_) (fun h => ?_) <;> (first | exact cndT h (by (try dsimp only); omega) | exact cndF h (by (try dsimp only); omega) | (exfalso; simp at h; omega) | simp at h | skip)) | refine kp ?_ ?_ | refine tw ?_ ?_ | refine appnil rfl ?_ | refine rawnil rfl ?_ | exact trivial | refine side2 ?_ | refine sideL2 ?_ | refine Or.inr ?_ | refine sat_drawH (Tryd.ok ..) (by kernel_rfl) ?_ | refine xi _ (And.intro rfl rfl) ?_ | refine xi _ (fun _ => And.intro rfl rfl) ?_ | refine xi _ rfl ?_)
    refine ⟨k + 1, ⟨⟨hk1, allA_step he hb (by rw [hc]; rfl)⟩, by omega⟩, ?_, ?_, rfl⟩
    all_goals ((repeat' (first | exact trivial | exact rfl | refine And.intro ?_ ?_)) <;> (try (conv => whnf)) <;> (try simp only [SV.real, SV.r2, SV.r1]))
  | false =>
    repeat' ((conv => whnf); first | refine walk (Tryd.ok ..) ?_ | (refine Cnd.mk (fun h => ?_) (fun h => ?_) <;> (first | exact cndT h (by (try dsimp only); omega) | exact cndF h (by (try dsimp only); omega) | (exfalso; simp at h; omega) | simp at h | skip)) | refine kp ?_ ?_ | refine tw ?_ ?_ | refine appnil rfl ?_ | refine rawnil rfl ?_ | exact trivial | refine side2 ?_ | refine sideL2 ?_ | refine Or.inr ?_ | refine sat_drawH (Tryd.ok ..) (by kernel_rfl) ?_ | refine xi _ (And.intro rfl rfl) ?_ | refine xi _ (fun _ => And.intro rfl rfl) ?_ | refine xi _ rfl ?_)
    · rw [hbs] at h
      rw [show refB s = false from by unfold refB lettersB; rw [← hl, allA_no hb (by rw [hc]; unfold digB; simp; omega)]; rfl]
      exact done_pure rfl rfl rfl
    · rw [hbs] at h
      refine ⟨k + 1, ⟨⟨hk1, allA_step he hb (by rw [hc]; unfold digB; simp; omega)⟩, by omega⟩, ?_, ?_, rfl⟩
      all_goals ((repeat' (first | exact trivial | exact rfl | refine And.intro ?_ ?_)) <;> (try (conv => whnf)) <;> (try simp only [SV.real, SV.r2, SV.r1]))
end
section
open Go Sat Go.RowKit Go.PlainAid Go.Lib
theorem dec_step (n : Nat) : decDigits n = (if n / 10 = 0 then [] else decDigits (n / 10)) ++ [UInt8.ofNat (48 + n % 10)] := by
  rw [decDigits]
  split
  · rename_i h
    rw [if_pos (by omega), show n % 10 = n by omega]
    rfl
  · rw [if_neg (by omega)]
def NumI (N n : Nat) (t : List UInt8) : Prop := (t = [] → n = N) ∧ (t ≠ [] → decDigits N = (if n = 0 then [] else decDigits n) ++ t)
theorem NumI.step {N n : Nat} {t : List UInt8} (h : NumI N n t) (hg : t = [] ∨ 0 < n) : NumI N (n / 10) (UInt8.ofNat (48 + n % 10) :: t) := by
  refine ⟨fun h => (by cases h), fun _ => ?_⟩
  have h1 : decDigits N = decDigits n ++ t := by
    by_cases ht : t = []
    · rw [h.1 ht, ht, List.append_nil]
    · have h2 := h.2 ht
      rwa [if_neg (by rcases hg with hg | hg; exact absurd hg ht; omega)] at h2
  rw [h1, dec_step n, List.append_assoc]
  rfl
theorem dec_len : ∀ (n : Nat), (decDigits n).length ≤ n + 1 := by
  intro n
  induction n using Nat.strongRecOn with
  | _ n ih =>
    rw [decDigits]
    split
    · simp
    · have := ih (n / 10) (by omega)
      rw [List.length_append]
      simp only [List.length_cons, List.length_nil]
      omega
theorem NumI.len {N n : Nat} {t : List UInt8} (h : NumI N n t) : t.length ≤ N + 1 := by
  by_cases ht : t = []
  · rw [ht]; simp
  · have h1 := dec_len N
    rw [h.2 ht, List.length_append] at h1
    omega
set_option maxRecDepth 100000 in
set_option maxHeartbeats 8000000 in
theorem number_any (N : Nat) (w : World) (hN : N ≤ 1000000000) :
    Calls Tryd.prog 56 #[.int .i64 N] w fun e w' => e = .returned (.string (itB N)) ∧ Below w.heap.size w w' := by
  refine calls_sat (cx := Tryd.cx 21 [] [] [] w) (Tryd.ok ..) Tryd.func56 rfl [.v (.int .i64 N)] rfl (by show 1 ≤ 21; omega) [] (holds_nil (Nat.le_refl _)) ?_
  have e0 : (⟨#[]⟩ : ByteArray) = ba [] := rfl
  repeat' ((conv => whnf); first | refine walk (Tryd.ok ..) ?_ | (refine Cnd.mk (fun h => ?_) (fun h => ?_) <;> (first | exact cndT h (by (try dsimp only); omega) | exact cndF h (by (try dsimp only); omega) | (exfalso; simp at h; omega) | simp at h | skip)) | refine kp ?_ ?_ | refine tw ?_ ?_ | refine appnil rfl ?_ | refine rawnil rfl ?_ | exact trivial | refine side2 ?_ | refine sideL2 ?_ | refine Or.inr ?_ | refine sat_drawH (Tryd.ok ..) (by kernel_rfl) ?_ | refine Exists.intro [_] (And.intro (one_byte rfl) ?_) | refine Exists.intro [_] (And.intro (fun _ => one_byte rfl) ?_) | refine xi _ (And.intro rfl rfl) ?_ | refine xi _ (fun _ => And.intro rfl rfl) ?_ | refine xi _ rfl ?_)
  refine sat_loop (Tryd.ok ..) (α := Nat × List UInt8) (fun s => ([(0, .yes, .v (.int .i64 s.1)), (3, .yes, .v (.string (ba s.2)))], []))
    (fun s => s.1 ≤ N ∧ NumI N s.1 s.2) (fun s => if s.2 = [] then N + 1 else s.1) (fun _ => rfl) ?_ ?_
  · refine ⟨(N, []), ⟨Nat.le_refl _, fun _ => rfl, fun h => absurd rfl h⟩, ?_, ?_, rfl⟩
    all_goals ((repeat' (first | exact trivial | exact rfl | refine And.intro ?_ ?_)) <;> (try (conv => whnf)) <;> (try simp only [SV.real, SV.r2, SV.r1]))
  rintro ⟨n, t⟩ ⟨hn, hI⟩
  dsimp only at hn hI ⊢
  have hb : (ba t == (⟨#[]⟩ : ByteArray)) = decide (t = []) := by
    rw [Bool.eq_iff_iff, MapKept.bytes_beq, decide_eq_true_eq]
    constructor
    · intro h
      have := congrArg (fun x : ByteArray => x.data.toList) h
      exact this
    · rintro rfl
      rfl
  have hemp : ba t = (⟨#[]⟩ : ByteArray) ↔ t = [] := by
    rw [← MapKept.bytes_beq, hb, decide_eq_true_eq]
  repeat' ((conv => whnf); first | refine walk (Tryd.ok ..) ?_ | (refine Cnd.mk (fun h => ?_) (fun h => ?_) <;> (first | exact cndT h (by (try dsimp only); omega) | exact cndF h (by (try dsimp only); omega) | (exfalso; simp at h; omega) | simp at h | skip)) | refine kp ?_ ?_ | refine tw ?_ ?_ | refine appnil rfl ?_ | refine rawnil rfl ?_ | exact trivial | refine side2 ?_ | refine sideL2 ?_ | refine Or.inr ?_ | refine sat_drawH (Tryd.ok ..) (by kernel_rfl) ?_ | refine Exists.intro [_] (And.intro (one_byte rfl) ?_) | refine Exists.intro [_] (And.intro (fun _ => one_byte rfl) ?_) | refine xi _ (And.intro rfl rfl) ?_ | refine xi _ (fun _ => And.intro rfl rfl) ?_ | refine xi _ rfl ?_)
  · have hg : t = [] ∨ 0 < n := by
      rcases h with h | h
      · exact .inl (hemp.1 h)
      · exact .inr (by omega)
    have hs1 : strOf [48 + (n : Int) % 10] = ba [UInt8.ofNat (48 + n % 10)] := by
      rw [← strOf_ba]
      congr 1
      show [48 + (n : Int) % 10] = [((UInt8.ofNat (48 + n % 10)).toNat : Int)]
      rw [UInt8.toNat_ofNat']
      congr 1
      omega
    have hsz1 : (strOf [48 + (n : Int) % 10]).size = 1 := by rw [hs1]; rfl
    have hsz2 : (ba t).size ≤ N + 1 := hI.len
    have happ : strOf [48 + (n : Int) % 10] ++ ba t = ba (UInt8.ofNat (48 + n % 10) :: t) := by
      rw [hs1]
      exact ba_ext (by rw [ByteArray.data_append, Array.toList_append]; rfl)
    (conv => whnf)
    intro g14 hg14
    repeat' ((conv => whnf); first | refine walk (Tryd.ok ..) ?_ | (refine Cnd.mk (fun h => ?_) (fun h => ?_) <;> (first | exact cndT h (by (try dsimp only); omega) | exact cndF h (by (try dsimp only); omega) | (exfalso; simp at h; omega) | simp at h | skip)) | refine kp ?_ ?_ | refine tw ?_ ?_ | refine appnil rfl ?_ | refine rawnil rfl ?_ | exact trivial | refine side2 ?_ | refine sideL2 ?_ | refine Or.inr ?_ | refine sat_drawH (Tryd.ok ..) (by kernel_rfl) ?_ | refine Exists.intro [_] (And.intro (one_byte rfl) ?_) | refine Exists.intro [_] (And.intro (fun _ => one_byte rfl) ?_) | refine xi _ (And.intro rfl rfl) ?_ | refine xi _ (fun _ => And.intro rfl rfl) ?_ | refine xi _ rfl ?_)
    refine ⟨(n / 10, UInt8.ofNat (48 + n % 10) :: t), ⟨⟨by show n / 10 ≤ N; omega, hI.step hg⟩, ?_⟩, ?_, ?_, rfl⟩
    · show (if _ :: t = [] then _ else n / 10) < if t = [] then N + 1 else n
      rw [if_neg (by simp)]
      split
      · omega
      · rename_i ht
        rcases hg with hg | hg
        · exact absurd hg ht
        · omega
    all_goals ((repeat' (first | exact trivial | exact rfl | refine And.intro ?_ ?_)) <;> (try (conv => whnf)) <;> (try simp only [SV.real, SV.r2, SV.r1]))
  · have ht : t ≠ [] := fun e => h.1 (hemp.2 e)
    have h0 : n = 0 := h.2
    have h1 := hI.2 ht
    rw [if_pos h0, List.nil_append] at h1
    refine done_pure rfl rfl (congrArg Value.string ?_)
    unfold itB Lib.itoa
    rw [if_neg (by omega), Int.toNat_natCast, h1]
    rfl
end
end Go.Proofs.YtdohcglpcgahaaaDoor
