/-
  The reference's tags, kinds, references and numbers, walked. The reference's number, walked. The reference's Right on messages, walked. The reference's Write on messages, walked.
-/
import Derived.Test.YtdohcglpcgahaaaGreatDoorSA
import Derived.Test.YtdohcglpcgahaaaGreatDoorAS
import Derived.Test.YtdohcglpcgahaaaGreatDoorSWX
import Derived.Test.YtdohcglpcgahaaaGreatDoorVRQ
import Derived.Test.YtdohcglpcgahaaaGreatDoorSG1
import Derived.Test.YtdohcglpcgahaaaGreatDoorUX
import Derived.Test.YtdohcglpcgahaaaGreatDoorTRX
set_option linter.unusedSimpArgs false
set_option linter.unusedVariables false
namespace Go.Proofs.YtdohcglpcgahaaaGreatDoor
section
open Go Sat Go.RowKit Go.PlainAid
set_option maxRecDepth 100000 in
set_option maxHeartbeats 8000000 in
theorem capital_any (s : ByteArray) (w : World) (hs : s.size ≤ 9223372036854775807) :
    Calls Tryz.prog 72 #[.string s] w fun e w' => e = .returned (.bool (s.data.toList.all capB)) ∧ Below w.heap.size w w' := by
  refine calls_sat (cx := Tryz.cx 20 [] [] [] w) (Tryz.ok ..) Tryz.func72 rfl [.v (.string s)] rfl (by show 1 ≤ 20; omega) [] (holds_nil (Nat.le_refl _)) ?_
  obtain ⟨l, hl⟩ : ∃ l, l = s.data.toList := ⟨_, rfl⟩
  have hsz : s.size = l.length := by rw [hl]; rfl
  rw [← hl]
  repeat' ((conv => whnf); first | refine walk (Tryz.ok ..) ?_ | (refine Cnd.mk (fun h => ?_) (fun h => ?_) <;> (first | exact cndT h (by (try dsimp only); omega) | exact cndF h (by (try dsimp only); omega) | (exfalso; simp at h; omega) | simp at h | skip)) | refine kp ?_ ?_ | refine tw ?_ ?_ | refine appnil rfl ?_ | refine rawnil rfl ?_ | exact trivial | refine side2 ?_ | refine sideL2 ?_ | refine Or.inr ?_ | refine sat_drawH (Tryz.ok ..) (by kernel_rfl) ?_ | refine xi _ (And.intro rfl rfl) ?_ | refine xi _ (fun _ => And.intro rfl rfl) ?_ | refine xi _ rfl ?_)
  refine sat_loop (Tryz.ok ..) (α := Nat) (fun k => ([(0, .yes, .v (.string s)), (3, .yes, .v (.int .i64 k))], []))
    (fun k => k ≤ l.length ∧ (l.take k).all capB = true) (fun k => l.length - k) (fun _ => rfl) ?_ ?_
  · refine ⟨0, ⟨Nat.zero_le _, by simp⟩, ?_, ?_, rfl⟩
    all_goals ((repeat' (first | exact trivial | exact rfl | refine And.intro ?_ ?_)) <;> (try (conv => whnf)) <;> (try simp only [SV.real, SV.r2, SV.r1]))
  rintro k ⟨hk, he⟩
  by_cases hk1 : k < l.length
  case neg =>
    obtain rfl : k = l.length := by omega
    rw [List.take_length] at he
    rw [he]
    repeat' ((conv => whnf); first | refine walk (Tryz.ok ..) ?_ | (refine Cnd.mk (fun h => ?_) (fun h => ?_) <;> (first | exact cndT h (by (try dsimp only); omega) | exact cndF h (by (try dsimp only); omega) | (exfalso; simp at h; omega) | simp at h | skip)) | refine kp ?_ ?_ | refine tw ?_ ?_ | refine appnil rfl ?_ | refine rawnil rfl ?_ | exact trivial | refine side2 ?_ | refine sideL2 ?_ | refine Or.inr ?_ | refine sat_drawH (Tryz.ok ..) (by kernel_rfl) ?_ | refine xi _ (And.intro rfl rfl) ?_ | refine xi _ (fun _ => And.intro rfl rfl) ?_ | refine xi _ rfl ?_)
    exact done_pure rfl rfl rfl
  obtain ⟨b, hb⟩ : ∃ b, l[k]? = some b := ⟨_, List.getElem?_eq_getElem hk1⟩
  have hbs : bt s k = (b.toNat : Int) := btA_at (by rw [← hl]; exact hb)
  repeat' ((conv => whnf); first | refine walk (Tryz.ok ..) ?_ | (refine Cnd.mk (fun h => ?_) (fun h => ?_) <;> (first | exact cndT h (by (try dsimp only); omega) | exact cndF h (by (try dsimp only); omega) | (exfalso; simp at h; omega) | simp at h | skip)) | refine kp ?_ ?_ | refine tw ?_ ?_ | refine appnil rfl ?_ | refine rawnil rfl ?_ | exact trivial | refine side2 ?_ | refine sideL2 ?_ | refine Or.inr ?_ | refine sat_drawH (Tryz.ok ..) (by kernel_rfl) ?_ | refine xi _ (And.intro rfl rfl) ?_ | refine xi _ (fun _ => And.intro rfl rfl) ?_ | refine xi _ rfl ?_)
  · rw [hbs] at h
    rw [allA_no hb (by unfold capB; simp; omega)]
    exact done_pure rfl rfl rfl
  · rw [hbs] at h
    refine ⟨k + 1, ⟨⟨hk1, allA_step he hb (by unfold capB; simp; omega)⟩, by omega⟩, ?_, ?_, rfl⟩
    all_goals ((repeat' (first | exact trivial | exact rfl | refine And.intro ?_ ?_)) <;> (try (conv => whnf)) <;> (try simp only [SV.real, SV.r2, SV.r1]))
theorem rkind_eq (s : ByteArray) : (((s.size : Int) == 6) && s.data.toList.all capB) = kindB s := by
  unfold kindB lettersB
  have e : s.size = s.data.toList.length := rfl
  rw [Bool.eq_iff_iff]
  simp only [Bool.and_eq_true, decide_eq_true_eq, beq_iff_eq, Bool.false_and, Bool.or_false]
  constructor
  · rintro ⟨h1, h2⟩
    exact ⟨h2, by omega⟩
  · rintro ⟨h1, h2⟩
    exact ⟨by omega, h1⟩
set_option maxRecDepth 100000 in
set_option maxHeartbeats 8000000 in
theorem rkind_any (s : ByteArray) (w : World) (hs : s.size ≤ 9223372036854775807) :
    Calls Tryz.prog 45 #[.string s] w fun e w' => e = .returned (.bool (kindB s)) ∧ Below w.heap.size w w' := by
  refine calls_sat (cx := Tryz.cx 10 [] [] [] w) (Tryz.ok ..) Tryz.func45 rfl [.v (.string s)] rfl (by show 1 ≤ 10; omega) [] (holds_nil (Nat.le_refl _)) ?_
  repeat' ((conv => whnf); first | refine walk (Tryz.ok ..) ?_ | (refine Cnd.mk (fun h => ?_) (fun h => ?_) <;> (first | exact cndT h (by (try dsimp only); omega) | exact cndF h (by (try dsimp only); omega) | (exfalso; simp at h; omega) | simp at h | skip)) | refine kp ?_ ?_ | refine tw ?_ ?_ | refine appnil rfl ?_ | refine rawnil rfl ?_ | exact trivial | refine side2 ?_ | refine sideL2 ?_ | refine Or.inr ?_ | refine sat_drawH (Tryz.ok ..) (by kernel_rfl) ?_ | refine xi _ (And.intro rfl rfl) ?_ | refine xi _ (fun _ => And.intro rfl rfl) ?_ | refine xi _ rfl ?_)
  (conv => whnf)
  refine calledQ_at (.v (.bool (s.data.toList.all capB))) rfl (fun _ w' hh => by exact capital_any s w' hs) ?_
  repeat' ((conv => whnf); first | refine walk (Tryz.ok ..) ?_ | (refine Cnd.mk (fun h => ?_) (fun h => ?_) <;> (first | exact cndT h (by (try dsimp only); omega) | exact cndF h (by (try dsimp only); omega) | (exfalso; simp at h; omega) | simp at h | skip)) | refine kp ?_ ?_ | refine tw ?_ ?_ | refine appnil rfl ?_ | refine rawnil rfl ?_ | exact trivial | refine side2 ?_ | refine sideL2 ?_ | refine Or.inr ?_ | refine sat_drawH (Tryz.ok ..) (by kernel_rfl) ?_ | refine xi _ (And.intro rfl rfl) ?_ | refine xi _ (fun _ => And.intro rfl rfl) ?_ | refine xi _ rfl ?_)
  exact done_pure rfl rfl (congrArg Value.bool (rkind_eq s))
theorem rtag_eq (s : ByteArray) : (((s.size : Int) == 3) && s.data.toList.all capB && !(s == hedS) && !(s == endS)) = tagB s := by
  unfold tagB lettersB
  have e : s.size = s.data.toList.length := rfl
  rw [Bool.eq_iff_iff]
  simp only [Bool.and_eq_true, decide_eq_true_eq, beq_iff_eq, Bool.false_and, Bool.or_false, Bool.not_eq_true', ← Bool.not_eq_true, MapKept.bytes_beq, ne_eq]
  constructor
  · rintro ⟨⟨⟨h1, h2⟩, h3⟩, h4⟩
    exact ⟨⟨⟨h2, by omega⟩, h3⟩, h4⟩
  · rintro ⟨⟨⟨h1, h2⟩, h3⟩, h4⟩
    exact ⟨⟨⟨by omega, h1⟩, h3⟩, h4⟩
set_option maxRecDepth 100000 in
set_option maxHeartbeats 8000000 in
theorem rtag_any (s : ByteArray) (w : World) (hs : s.size ≤ 9223372036854775807) :
    Calls Tryz.prog 43 #[.string s] w fun e w' => e = .returned (.bool (tagB s)) ∧ Below w.heap.size w w' := by
  refine calls_sat (cx := Tryz.cx 18 [] [] [] w) (Tryz.ok ..) Tryz.func43 rfl [.v (.string s)] rfl (by show 1 ≤ 18; omega) [] (holds_nil (Nat.le_refl _)) ?_
  repeat' ((conv => whnf); first | refine walk (Tryz.ok ..) ?_ | (refine Cnd.mk (fun h => ?_) (fun h => ?_) <;> (first | exact cndT h (by (try dsimp only); omega) | exact cndF h (by (try dsimp only); omega) | (exfalso; simp at h; omega) | simp at h | skip)) | refine kp ?_ ?_ | refine tw ?_ ?_ | refine appnil rfl ?_ | refine rawnil rfl ?_ | exact trivial | refine side2 ?_ | refine sideL2 ?_ | refine Or.inr ?_ | refine sat_drawH (Tryz.ok ..) (by kernel_rfl) ?_ | refine xi _ (And.intro rfl rfl) ?_ | refine xi _ (fun _ => And.intro rfl rfl) ?_ | refine xi _ rfl ?_)
  (conv => whnf)
  refine calledQ_at (.v (.bool (s.data.toList.all capB))) rfl (fun _ w' hh => by exact capital_any s w' hs) ?_
  repeat' ((conv => whnf); first | refine walk (Tryz.ok ..) ?_ | (refine Cnd.mk (fun h => ?_) (fun h => ?_) <;> (first | exact cndT h (by (try dsimp only); omega) | exact cndF h (by (try dsimp only); omega) | (exfalso; simp at h; omega) | simp at h | skip)) | refine kp ?_ ?_ | refine tw ?_ ?_ | refine appnil rfl ?_ | refine rawnil rfl ?_ | exact trivial | refine side2 ?_ | refine sideL2 ?_ | refine Or.inr ?_ | refine sat_drawH (Tryz.ok ..) (by kernel_rfl) ?_ | refine xi _ (And.intro rfl rfl) ?_ | refine xi _ (fun _ => And.intro rfl rfl) ?_ | refine xi _ rfl ?_)
  exact done_pure rfl rfl (congrArg Value.bool (rtag_eq s))
theorem ext_oneR {s : ByteArray} {k : Nat} {b : UInt8} (h : s.data.toList[k]? = some b) : (s.extract k (k + 1)).data.toList = [b] := by
  have hk : k < s.data.toList.length := (List.getElem?_eq_some_iff.1 h).1
  rw [ByteArray.data_extract, Array.toList_extract, List.extract_eq_take_drop, show k + 1 - k = 1 by omega, List.drop_eq_getElem_cons hk]
  rw [(List.getElem?_eq_some_iff.1 h).2]
  rfl
set_option maxRecDepth 100000 in
set_option maxHeartbeats 8000000 in
theorem rref_any (s : ByteArray) (w : World) (hs : s.size ≤ 9223372036854775807) :
    Calls Tryz.prog 46 #[.string s] w fun e w' => e = .returned (.bool (refB s)) ∧ Below w.heap.size w w' := by
  refine calls_sat (cx := Tryz.cx 37 [] [] [] w) (Tryz.ok ..) Tryz.func46 rfl [.v (.string s)] rfl (by show 1 ≤ 37; omega) [] (holds_nil (Nat.le_refl _)) ?_
  obtain ⟨l, hl⟩ : ∃ l, l = s.data.toList := ⟨_, rfl⟩
  have hsz : s.size = l.length := by rw [hl]; rfl
  repeat' ((conv => whnf); first | refine walk (Tryz.ok ..) ?_ | (refine Cnd.mk (fun h => ?_) (fun h => ?_) <;> (first | exact cndT h (by (try dsimp only); omega) | exact cndF h (by (try dsimp only); omega) | (exfalso; simp at h; omega) | simp at h | skip)) | refine kp ?_ ?_ | refine tw ?_ ?_ | refine appnil rfl ?_ | refine rawnil rfl ?_ | exact trivial | refine side2 ?_ | refine sideL2 ?_ | refine Or.inr ?_ | refine sat_drawH (Tryz.ok ..) (by kernel_rfl) ?_ | refine xi _ (And.intro rfl rfl) ?_ | refine xi _ (fun _ => And.intro rfl rfl) ?_ | refine xi _ rfl ?_)
  refine sat_loop (Tryz.ok ..) (α := Nat) (fun k => ([(0, .yes, .v (.string s)), (3, .yes, .v (.int .i64 k))], []))
    (fun k => k ≤ l.length ∧ (l.take k).all (fun b => capB b || (true && digB b)) = true) (fun k => l.length - k) (fun _ => rfl) ?_ ?_
  · refine ⟨0, ⟨Nat.zero_le _, by simp⟩, ?_, ?_, rfl⟩
    all_goals ((repeat' (first | exact trivial | exact rfl | refine And.intro ?_ ?_)) <;> (try (conv => whnf)) <;> (try simp only [SV.real, SV.r2, SV.r1]))
  rintro k ⟨hk, he⟩
  by_cases hk1 : k < l.length
  case neg =>
    obtain rfl : k = l.length := by omega
    rw [List.take_length] at he
    repeat' ((conv => whnf); first | refine walk (Tryz.ok ..) ?_ | (refine Cnd.mk (fun h => ?_) (fun h => ?_) <;> (first | exact cndT h (by (try dsimp only); omega) | exact cndF h (by (try dsimp only); omega) | (exfalso; simp at h; omega) | simp at h | skip)) | refine kp ?_ ?_ | refine tw ?_ ?_ | refine appnil rfl ?_ | refine rawnil rfl ?_ | exact trivial | refine side2 ?_ | refine sideL2 ?_ | refine Or.inr ?_ | refine sat_drawH (Tryz.ok ..) (by kernel_rfl) ?_ | refine xi _ (And.intro rfl rfl) ?_ | refine xi _ (fun _ => And.intro rfl rfl) ?_ | refine xi _ rfl ?_)
    refine done_pure rfl rfl ?_
    unfold refB lettersB
    rw [← hl, he]
    show Value.bool _ = _
    congr 1
    rw [Bool.eq_iff_iff]
    simp [SV.real, SV.r2, SV.r1, hsz]
    omega
  obtain ⟨b, hb⟩ : ∃ b, l[k]? = some b := ⟨_, List.getElem?_eq_getElem hk1⟩
  have hbs : bt s k = (b.toNat : Int) := btA_at (by rw [← hl]; exact hb)
  have hex : (s.extract k (k + 1)).data.toList = [b] := ext_oneR (by rw [← hl]; exact hb)
  repeat' ((conv => whnf); first | refine walk (Tryz.ok ..) ?_ | (refine Cnd.mk (fun h => ?_) (fun h => ?_) <;> (first | exact cndT h (by (try dsimp only); omega) | exact cndF h (by (try dsimp only); omega) | (exfalso; simp at h; omega) | simp at h | skip)) | refine kp ?_ ?_ | refine tw ?_ ?_ | refine appnil rfl ?_ | refine rawnil rfl ?_ | exact trivial | refine side2 ?_ | refine sideL2 ?_ | refine Or.inr ?_ | refine sat_drawH (Tryz.ok ..) (by kernel_rfl) ?_ | refine xi _ (And.intro rfl rfl) ?_ | refine xi _ (fun _ => And.intro rfl rfl) ?_ | refine xi _ rfl ?_)
  (conv => whnf)
  refine called_at (.v (.bool (capB b))) rfl (fun w' hh => by
    have h1 := capital_any (s.extract k (k + 1)) w' (by show (s.extract k (k + 1)).data.toList.length ≤ _; rw [hex]; simp)
    rw [hex] at h1
    rw [show capB b = [b].all capB by simp]
    exact h1) ?_
  cases hc : capB b with
  | true =>
    repeat' ((conv => whnf); first | refine walk (Tryz.ok ..) ?_ | (refine Cnd.mk (fun h => ?_) (fun h => ?_) <;> (first | exact cndT h (by (try dsimp only); omega) | exact cndF h (by (try dsimp only); omega) | (exfalso; simp at h; omega) | simp at h | skip)) | refine kp ?_ ?_ | refine tw ?_ ?_ | refine appnil rfl ?_ | refine rawnil rfl ?_ | exact trivial | refine side2 ?_ | refine sideL2 ?_ | refine Or.inr ?_ | refine sat_drawH (Tryz.ok ..) (by kernel_rfl) ?_ | refine xi _ (And.intro rfl rfl) ?_ | refine xi _ (fun _ => And.intro rfl rfl) ?_ | refine xi _ rfl ?_)
    refine ⟨k + 1, ⟨⟨hk1, allA_step he hb (by rw [hc]; rfl)⟩, by omega⟩, ?_, ?_, rfl⟩
    all_goals ((repeat' (first | exact trivial | exact rfl | refine And.intro ?_ ?_)) <;> (try (conv => whnf)) <;> (try simp only [SV.real, SV.r2, SV.r1]))
  | false =>
    repeat' ((conv => whnf); first | refine walk (Tryz.ok ..) ?_ | (refine Cnd.mk (fun h => ?_) (fun h => ?_) <;> (first | exact cndT h (by (try dsimp only); omega) | exact cndF h (by (try dsimp only); omega) | (exfalso; simp at h; omega) | simp at h | skip)) | refine kp ?_ ?_ | refine tw ?_ ?_ | refine appnil rfl ?_ | refine rawnil rfl ?_ | exact trivial | refine side2 ?_ | refine sideL2 ?_ | refine Or.inr ?_ | refine sat_drawH (Tryz.ok ..) (by kernel_rfl) ?_ | refine xi _ (And.intro rfl rfl) ?_ | refine xi _ (fun _ => And.intro rfl rfl) ?_ | refine xi _ rfl ?_)
    · rw [hbs] at h
      rw [show refB s = false from by unfold refB lettersB; rw [← hl, allA_no hb (by rw [hc]; unfold digB; simp; omega)]; rfl]
      exact done_pure rfl rfl rfl
    · rw [hbs] at h
      refine ⟨k + 1, ⟨⟨hk1, allA_step he hb (by rw [hc]; unfold digB; simp; omega)⟩, by omega⟩, ?_, ?_, rfl⟩
      all_goals ((repeat' (first | exact trivial | exact rfl | refine And.intro ?_ ?_)) <;> (try (conv => whnf)) <;> (try simp only [SV.real, SV.r2, SV.r1]))
end
section
open Go Sat Go.RowKit Go.PlainAid Go.Lib
theorem dec_step (n : Nat) : decDigits n = (if n / 10 = 0 then [] else decDigits (n / 10)) ++ [UInt8.ofNat (48 + n % 10)] := by
  rw [decDigits]
  split
  · rename_i h
    rw [if_pos (by omega), show n % 10 = n by omega]
    rfl
  · rw [if_neg (by omega)]
def NumI (N n : Nat) (t : List UInt8) : Prop := (t = [] → n = N) ∧ (t ≠ [] → decDigits N = (if n = 0 then [] else decDigits n) ++ t)
theorem NumI.step {N n : Nat} {t : List UInt8} (h : NumI N n t) (hg : t = [] ∨ 0 < n) : NumI N (n / 10) (UInt8.ofNat (48 + n % 10) :: t) := by
  refine ⟨fun h => (by cases h), fun _ => ?_⟩
  have h1 : decDigits N = decDigits n ++ t := by
    by_cases ht : t = []
    · rw [h.1 ht, ht, List.append_nil]
    · have h2 := h.2 ht
      rwa [if_neg (by rcases hg with hg | hg; exact absurd hg ht; omega)] at h2
  rw [h1, dec_step n, List.append_assoc]
  rfl
theorem dec_len : ∀ (n : Nat), (decDigits n).length ≤ n + 1 := by
  intro n
  induction n using Nat.strongRecOn with
  | _ n ih =>
    rw [decDigits]
    split
    · simp
    · have := ih (n / 10) (by omega)
      rw [List.length_append]
      simp only [List.length_cons, List.length_nil]
      omega
theorem NumI.len {N n : Nat} {t : List UInt8} (h : NumI N n t) : t.length ≤ N + 1 := by
  by_cases ht : t = []
  · rw [ht]; simp
  · have h1 := dec_len N
    rw [h.2 ht, List.length_append] at h1
    omega
set_option maxRecDepth 100000 in
set_option maxHeartbeats 8000000 in
theorem number_any (N : Nat) (w : World) (hN : N ≤ 1000000000) :
    Calls Tryz.prog 35 #[.int .i64 N] w fun e w' => e = .returned (.string (itB N)) ∧ Below w.heap.size w w' := by
  refine calls_sat (cx := Tryz.cx 21 [] [] [] w) (Tryz.ok ..) Tryz.func35 rfl [.v (.int .i64 N)] rfl (by show 1 ≤ 21; omega) [] (holds_nil (Nat.le_refl _)) ?_
  have e0 : (⟨#[]⟩ : ByteArray) = ba [] := rfl
  repeat' ((conv => whnf); first | refine walk (Tryz.ok ..) ?_ | (refine Cnd.mk (fun h => ?_) (fun h => ?_) <;> (first | exact cndT h (by (try dsimp only); omega) | exact cndF h (by (try dsimp only); omega) | (exfalso; simp at h; omega) | simp at h | skip)) | refine kp ?_ ?_ | refine tw ?_ ?_ | refine appnil rfl ?_ | refine rawnil rfl ?_ | exact trivial | refine side2 ?_ | refine sideL2 ?_ | refine Or.inr ?_ | refine sat_drawH (Tryz.ok ..) (by kernel_rfl) ?_ | refine Exists.intro [_] (And.intro (one_byte rfl) ?_) | refine Exists.intro [_] (And.intro (fun _ => one_byte rfl) ?_) | refine xi _ (And.intro rfl rfl) ?_ | refine xi _ (fun _ => And.intro rfl rfl) ?_ | refine xi _ rfl ?_)
  refine sat_loop (Tryz.ok ..) (α := Nat × List UInt8) (fun s => ([(0, .yes, .v (.int .i64 s.1)), (3, .yes, .v (.string (ba s.2)))], []))
    (fun s => s.1 ≤ N ∧ NumI N s.1 s.2) (fun s => if s.2 = [] then N + 1 else s.1) (fun _ => rfl) ?_ ?_
  · refine ⟨(N, []), ⟨Nat.le_refl _, fun _ => rfl, fun h => absurd rfl h⟩, ?_, ?_, rfl⟩
    all_goals ((repeat' (first | exact trivial | exact rfl | refine And.intro ?_ ?_)) <;> (try (conv => whnf)) <;> (try simp only [SV.real, SV.r2, SV.r1]))
  rintro ⟨n, t⟩ ⟨hn, hI⟩
  dsimp only at hn hI ⊢
  have hb : (ba t == (⟨#[]⟩ : ByteArray)) = decide (t = []) := by
    rw [Bool.eq_iff_iff, MapKept.bytes_beq, decide_eq_true_eq]
    constructor
    · intro h
      have := congrArg (fun x : ByteArray => x.data.toList) h
      exact this
    · rintro rfl
      rfl
  have hemp : ba t = (⟨#[]⟩ : ByteArray) ↔ t = [] := by
    rw [← MapKept.bytes_beq, hb, decide_eq_true_eq]
  repeat' ((conv => whnf); first | refine walk (Tryz.ok ..) ?_ | (refine Cnd.mk (fun h => ?_) (fun h => ?_) <;> (first | exact cndT h (by (try dsimp only); omega) | exact cndF h (by (try dsimp only); omega) | (exfalso; simp at h; omega) | simp at h | skip)) | refine kp ?_ ?_ | refine tw ?_ ?_ | refine appnil rfl ?_ | refine rawnil rfl ?_ | exact trivial | refine side2 ?_ | refine sideL2 ?_ | refine Or.inr ?_ | refine sat_drawH (Tryz.ok ..) (by kernel_rfl) ?_ | refine Exists.intro [_] (And.intro (one_byte rfl) ?_) | refine Exists.intro [_] (And.intro (fun _ => one_byte rfl) ?_) | refine xi _ (And.intro rfl rfl) ?_ | refine xi _ (fun _ => And.intro rfl rfl) ?_ | refine xi _ rfl ?_)
  · have hg : t = [] ∨ 0 < n := by
      rcases h with h | h
      · exact .inl (hemp.1 h)
      · exact .inr (by omega)
    have hs1 : strOf [48 + (n : Int) % 10] = ba [UInt8.ofNat (48 + n % 10)] := by
      rw [← strOf_ba]
      congr 1
      show [48 + (n : Int) % 10] = [((UInt8.ofNat (48 + n % 10)).toNat : Int)]
      rw [UInt8.toNat_ofNat']
      congr 1
      omega
    have hsz1 : (strOf [48 + (n : Int) % 10]).size = 1 := by rw [hs1]; rfl
    have hsz2 : (ba t).size ≤ N + 1 := hI.len
    have happ : strOf [48 + (n : Int) % 10] ++ ba t = ba (UInt8.ofNat (48 + n % 10) :: t) := by
      rw [hs1]
      exact ba_ext (by rw [ByteArray.data_append, Array.toList_append]; rfl)
    (conv => whnf)
    intro g14 hg14
    repeat' ((conv => whnf); first | refine walk (Tryz.ok ..) ?_ | (refine Cnd.mk (fun h => ?_) (fun h => ?_) <;> (first | exact cndT h (by (try dsimp only); omega) | exact cndF h (by (try dsimp only); omega) | (exfalso; simp at h; omega) | simp at h | skip)) | refine kp ?_ ?_ | refine tw ?_ ?_ | refine appnil rfl ?_ | refine rawnil rfl ?_ | exact trivial | refine side2 ?_ | refine sideL2 ?_ | refine Or.inr ?_ | refine sat_drawH (Tryz.ok ..) (by kernel_rfl) ?_ | refine Exists.intro [_] (And.intro (one_byte rfl) ?_) | refine Exists.intro [_] (And.intro (fun _ => one_byte rfl) ?_) | refine xi _ (And.intro rfl rfl) ?_ | refine xi _ (fun _ => And.intro rfl rfl) ?_ | refine xi _ rfl ?_)
    refine ⟨(n / 10, UInt8.ofNat (48 + n % 10) :: t), ⟨⟨by show n / 10 ≤ N; omega, hI.step hg⟩, ?_⟩, ?_, ?_, rfl⟩
    · show (if _ :: t = [] then _ else n / 10) < if t = [] then N + 1 else n
      rw [if_neg (by simp)]
      split
      · omega
      · rename_i ht
        rcases hg with hg | hg
        · exact absurd hg ht
        · omega
    all_goals ((repeat' (first | exact trivial | exact rfl | refine And.intro ?_ ?_)) <;> (try (conv => whnf)) <;> (try simp only [SV.real, SV.r2, SV.r1]))
  · have ht : t ≠ [] := fun e => h.1 (hemp.2 e)
    have h0 : n = 0 := h.2
    have h1 := hI.2 ht
    rw [if_pos h0, List.nil_append] at h1
    refine done_pure rfl rfl (congrArg Value.string ?_)
    unfold itB Lib.itoa
    rw [if_neg (by omega), Int.toNat_natCast, h1]
    rfl
end
section
open Go Sat Go.RowKit Go.PlainAid
/-- a text of one's own, and data that are lent, in a row -/
theorem nsa_cons {cx : Cx} {H : Heap} {w' : World} (hM : cx.M = []) (hn : cx.n0 = cx.W.heap.size) (hw : Holds cx H w') {first : ByteArray} {d : Dat} {xs ys : List Value} {dr db : Nat} {g T e n cap : Nat} {A : Option (Nat × Nat)} {csb : List SV}
    (hf : hfind H dr = some (.row A e 1 n cap ys)) (hb : hfind H db = some (.blk g T csb)) (hcs : csb.map SV.r1 = [.string first]) (hys : ys = .slice (some ⟨g, 0, none⟩) 1 1 :: xs) (hnn : n = d.length + 1) (hxl : xs.length = d.length)
    (hx : ∀ (i : Nat) (x : Value) (a : Elem), xs[i]? = some x → d[i]? = some a → NEA cx.W (fun _ => True) x a) : NSA w' (fun _ => True) (.slice (adr A) n cap) ([first] :: d) := by
  subst hys hnn
  have hl : ([first] :: d).length = d.length + 1 := rfl
  refine ⟨adr A, A, cap, _, by rw [hl], by rw [hl]; exact AtN.refl _ _, by rw [hl]; exact row_caps hw hf, by rw [hl]; exact ro_of_row hw hf, fun _ _ _ => trivial, fun i x a h1 h2 => ?_⟩
  cases i with
  | zero =>
    cases h1
    cases h2
    exact ne_arg (blk_nest Text hw db (g := g) [first] [.string first] hb hcs (by unfold maxLen; simp) rfl ⟨rfl, trivial⟩)
  | succ i =>
    exact lent_nest nea_stays hM hn (hx i x a h1 h2) hw
theorem nea_all {w : World} {B : Nat → Prop} {xs : List Value} {d : Dat} (hl : xs.length = d.length) (h : ∀ (i : Nat) (x : Value) (a : Elem), xs[i]? = some x → d[i]? = some a → NEA w B x a) : allV xs = true := allV_of fun u hu => by
  obtain ⟨i, hi, rfl⟩ := List.getElem_of_mem hu
  obtain ⟨a, A, cap, ys, hv, -⟩ := h i xs[i] (d[i]'(by omega)) (List.getElem?_eq_getElem _) (List.getElem?_eq_getElem _)
  rw [hv]
  rfl
set_option maxRecDepth 100000 in
set_option maxHeartbeats 16000000 in
theorem rRightM_any (m : Msg) (v : Value) (w : World) (hA : NSegs NSA w (fun _ => True) v m.segs) (hf : FewM m) :
    Calls Tryz.prog 18 #[.agg #[.string m.kind, .string m.ref, v]] w fun e w' => e = .returned (.bool (rightM m)) ∧ Below w.heap.size w w' := by
  obtain ⟨am, Am, cm, xm, rfl, aAm, hcm, hrm, -, hxm⟩ := hA
  refine calls_sat (cx := Tryz.cx 49 [] [] [] w) (Tryz.ok ..) Tryz.func18 rfl [.a [.v (.string m.kind), .v (.string m.ref), .v (.slice am m.segs.length cm)]] rfl (by show 1 ≤ 49; omega) [] (holds_nil (Nat.le_refl _)) ?_
  have hmaxm : m.segs.length ≤ 9223372036854775807 := Nat.le_trans (Nat.le_trans hcm.1 hcm.2) (by decide)
  repeat' ((conv => whnf); first | refine walk (Tryz.ok ..) ?_ | fail)
  (conv => whnf)
  intro g1 hg1
  repeat' ((conv => whnf); first | refine walk (Tryz.ok ..) ?_ | fail)
  refine sat_loop (Tryz.ok ..) (α := Nat) (fun k => ([(1, .yes, .p 1 g1 0 0), (3, .yes, .v (.int .i64 k))], [(1, .blk g1 51 [.v (.string m.kind), .v (.string m.ref), .v (.slice am m.segs.length cm)])]))
    (fun k => k ≤ m.segs.length ∧ (m.segs.take k).all rightG = true) (fun k => m.segs.length - k) (fun _ => rfl) ?_ ?_
  · refine ⟨0, ⟨Nat.zero_le _, by simp⟩, ?_, ?_, rfl⟩
    all_goals ((repeat' (first | exact trivial | exact rfl | refine And.intro ?_ ?_)) <;> (try (conv => whnf)) <;> (try simp only [SV.real, SV.r2, SV.r1]))
  rintro k ⟨hk, he⟩
  by_cases hk1 : k < m.segs.length
  case neg =>
    obtain rfl : k = m.segs.length := by omega
    rw [List.take_length] at he
    repeat' ((conv => whnf); first | refine walk (Tryz.ok ..) ?_ | (refine Cnd.mk (fun h => ?_) (fun h => ?_) <;> (first | exact cndT h (by (try dsimp only); omega) | exact cndF h (by (try dsimp only); omega) | (exfalso; simp at h; omega) | simp at h | skip)) | refine side2 ?_ | refine xi _ (And.intro rfl rfl) ?_ | fail)
    (conv => whnf)
    refine called_at (.v (.bool (kindB m.kind))) rfl (fun w' hh => by exact rkind_any m.kind w' hf.kind) ?_
    repeat' ((conv => whnf); first | refine side2 ?_ | refine sideL2 ?_ | refine xi _ (fun _ => And.intro rfl rfl) ?_ | fail)
    (conv => whnf)
    refine calledQ_at (.v (.bool (refB m.ref))) rfl (fun _ w' hh => by exact rref_any m.ref w' hf.ref) ?_
    repeat' ((conv => whnf); first | refine walk (Tryz.ok ..) ?_ | refine side2 ?_ | fail)
    refine done_pure rfl rfl ?_
    unfold rightM
    rw [he, Bool.and_true]
    rfl
  obtain ⟨s, hs⟩ : ∃ s, m.segs[k]? = some s := ⟨_, List.getElem?_eq_getElem hk1⟩
  obtain ⟨vd, hcd, hvd⟩ := hxm k s hs
  obtain ⟨q, rfl, rfl⟩ := some_ofz aAm hrm (by omega)
  have hfs := hf.seg s (List.mem_of_getElem? hs)
  obtain ⟨ad, Ad, cd2, xd, rfl, aAd, hcd2, hrd, -, hxd⟩ := hvd
  have hdat := hfs.dat
  have hxl : xd.length = s.2.length := by rw [hrd.1, Nat.mul_one]
  have hall : allV xd = true := nea_all hxl hxd
  have hfalse : rightG s = false → rightM m = false := fun h => by
    unfold rightM
    rw [allA_no hs h, Bool.and_false]
  repeat' ((conv => whnf); first | refine walk (Tryz.ok ..) ?_ | (refine Cnd.mk (fun h => ?_) (fun h => ?_) <;> (first | exact cndT h (by (try dsimp only); omega) | exact cndF h (by (try dsimp only); omega) | (exfalso; simp at h; omega) | simp at h | skip)) | refine side2 ?_ | refine xi _ (And.intro rfl rfl) ?_ | refine xi _ (ro_cellz (j := 0) rfl rfl hrm hcd rfl rfl (kz k 2) hk1) ?_ | fail)
  (conv => whnf)
  intro g18 hg18
  skip
  (conv => whnf)
  intro g19 hg19
  repeat' ((conv => whnf); first | refine walk (Tryz.ok ..) ?_ | refine side2 ?_ | refine xi _ (And.intro rfl rfl) ?_ | refine xi _ (ro_cellz (j := 1) rfl rfl hrm hcd rfl rfl (kz k 2) hk1) ?_ | fail)
  (conv => whnf)
  refine raw_arg rfl rfl aAd hrd ?_
  repeat' ((conv => whnf); first | refine side2 ?_ | fail)
  (conv => whnf)
  intro A19 c19
  repeat' ((conv => whnf); first | refine walk (Tryz.ok ..) ?_ | refine side2 ?_ | refine xi _ (And.intro rfl rfl) ?_ | refine xi _ (ro_cellz (j := 0) rfl rfl hrm hcd rfl rfl (kz k 2) hk1) ?_ | fail)
  (conv => whnf)
  refine called_at (.v (.bool (tagB s.1))) rfl (fun w' hh => by exact rtag_any s.1 w' hfs.tag) ?_
  cases ht : tagB s.1 with
  | false =>
    rw [hfalse (by unfold rightG; rw [ht]; rfl)]
    repeat' ((conv => whnf); first | refine sideL2 ?_ | fail)
    (conv => whnf)
    refine calledQ_at (.v (.bool true)) rfl (fun h _ _ => absurd h Bool.false_ne_true) ?_
    repeat' ((conv => whnf); first | refine walk (Tryz.ok ..) ?_ | (refine Cnd.mk (fun h => ?_) (fun h => ?_) <;> (first | exact cndT h (by (try dsimp only); omega) | exact cndF h (by (try dsimp only); omega) | (exfalso; simp at h; omega) | simp at h | skip)) | refine side2 ?_ | fail)
    exact done_pure rfl rfl rfl
  | true =>
  repeat' ((conv => whnf); first | refine sideL2 ?_ | fail)
  (conv => whnf)
  refine calledQ_at (.v (.bool (rightS ([s.1] :: s.2)))) rfl (fun _ w' hh => by exact rRight_any _ _ w' (nsa_cons (cx := Tryz.cx 49 [] [] [] w) rfl rfl hh (dr := 19) (db := 18) rfl rfl rfl rfl (Nat.add_comm _ _) hxl hxd)) ?_
  cases hr : rightS ([s.1] :: s.2) with
  | false =>
    rw [hfalse (by unfold rightG; rw [hr, Bool.and_false])]
    repeat' ((conv => whnf); first | refine walk (Tryz.ok ..) ?_ | (refine Cnd.mk (fun h => ?_) (fun h => ?_) <;> (first | exact cndT h (by (try dsimp only); omega) | exact cndF h (by (try dsimp only); omega) | (exfalso; simp at h; omega) | simp at h | skip)) | refine side2 ?_ | fail)
    exact done_pure rfl rfl rfl
  | true =>
  repeat' ((conv => whnf); first | refine walk (Tryz.ok ..) ?_ | (refine Cnd.mk (fun h => ?_) (fun h => ?_) <;> (first | exact cndT h (by (try dsimp only); omega) | exact cndF h (by (try dsimp only); omega) | (exfalso; simp at h; omega) | simp at h | skip)) | refine side2 ?_ | refine sideL2 ?_ | fail)
  refine ⟨k + 1, ⟨⟨hk1, allA_step he hs (by unfold rightG; rw [ht, hr]; rfl)⟩, by omega⟩, ?_, ?_, rfl⟩
  all_goals ((repeat' (first | exact trivial | exact rfl | refine And.intro ?_ ?_)) <;> (try (conv => whnf)) <;> (try simp only [SV.real, SV.r2, SV.r1]))
end
section
open Go Sat Go.RowKit Go.PlainAid
theorem number_lit (n : Nat) (w : World) (hn : n ≤ 100000000) : Calls Tryz.prog 35 #[.int .i64 ((n : Int) + 2)] w fun e w' => e = .returned (.string (itB ((n : Int) + 2))) ∧ Below w.heap.size w w' := by
  have h := number_any (n + 2) w (by omega)
  have e : ((n + 2 : Nat) : Int) = (n : Int) + 2 := by omega
  rw [e] at h
  exact h
abbrev outR (n : Nat) (o : OutS) : Heap := [(80, .row o.1 30 1 n o.2.1 o.2.2.1), (77, .own o.2.2.2.2 (Frz o.2.2.2.1 o.2.2.2.2))]
theorem OutOk.all {o : OutS} {l : List Segm} (h : OutOk o l) : allV o.2.2.1 = true := nest_all (R := NS) (fun _ _ _ _ h => nest_cells h) h.len h.got.at_
set_option maxRecDepth 100000 in
set_option maxHeartbeats 16000000 in
theorem rWriteM_any (l : List Msg) (v : Value) (w : World) (hA : NMsgs NSA w (fun _ => True) v l) (hf : ∀ m ∈ l, FewW m) (hmany : (segsL l).length ≤ 1000000) :
    Calls Tryz.prog 15 #[v] w fun e w' => e = .returned (.tuple #[.string (writeG l).1, .int .i64 (writeG l).2]) ∧ Below w.heap.size w w' := by
  obtain ⟨A', A, cA, xs, rfl, aA, hcA, hrA, -, hxA⟩ := hA
  refine calls_sat (cx := Tryz.cx 117 [2, 12, 13, 16, 15, 17, 4] [] [] w) (Tryz.ok ..) Tryz.func15 rfl [.v (.slice A' l.length cA)] rfl (by show 1 ≤ 117; omega) [] (holds_nil (Nat.le_refl _)) ?_
  have hmax : l.length ≤ 9223372036854775807 := Nat.le_trans (Nat.le_trans hcA.1 hcA.2) (by decide)
  repeat' ((conv => whnf); first | refine walk (Tryz.ok ..) ?_ | fail)
  refine sat_fuse 77 [] rfl fun w0 hw0 => ?_
  refine sat_ops (Tryz.ok ..) ?_
  repeat' ((conv => whnf); first | refine walk (Tryz.ok ..) ?_ | fail)
  refine sat_loop (Tryz.ok ..) (α := Nat × List Msg × Nat × OutS) (fun t => ([(0, .yes, .v (.slice A' l.length cA)), (4, .yes, .o 80 t.2.2.2.1 t.2.2.1 t.2.2.2.2.1), (5, .yes, .v (.int .i64 t.1))], outR t.2.2.1 t.2.2.2))
    (fun t => t.1 ≤ l.length ∧ t.2.1 = l.take t.1 ∧ t.2.2.1 = (segsL t.2.1).length ∧ OutOk t.2.2.2 (segsL t.2.1) ∧ okFrom ((t.2.1.map Msg.ref).reverse) (l.drop t.1) = okFrom [] l) (fun t => l.length - t.1) (fun _ => rfl) ?_ ?_
  · refine ⟨(0, [], 0, none, 0, [], w0, []), ⟨Nat.zero_le _, by simp, rfl, ⟨rfl, Got.nil⟩, rfl⟩, ?_, ?_, rfl⟩
    all_goals ((repeat' (first | exact trivial | exact rfl | refine And.intro ?_ ?_)) <;> (try (conv => whnf)) <;> (try simp only [SV.real, SV.r2, SV.r1]))
  rintro ⟨i, done, n, o⟩ ⟨hi, hdone, hn, ho, hok⟩
  dsimp only at hi hdone hn ho hok ⊢
  by_cases hi1 : i < l.length
  case neg =>
    obtain rfl : i = l.length := by omega
    rw [List.take_length] at hdone
    subst hdone
    rw [List.drop_length] at hok
    have hok2 : okFrom [] done = true := by rw [← hok]; rfl
    have hW : writeG done = writeL (segsL done) := by unfold writeG; rw [if_pos hok2]
    rw [hW]
    repeat' ((conv => whnf); first | refine walk (Tryz.ok ..) ?_ | (refine Cnd.mk (fun h => ?_) (fun h => ?_) <;> (first | exact cndT h (by (try dsimp only); omega) | exact cndF h (by (try dsimp only); omega) | (exfalso; simp at h; omega) | simp at h | skip)) | fail)
    (conv => whnf)
    refine called_at (.t [.v (.string (writeL (segsL done)).1), .v (.int .i64 (writeL (segsL done)).2)]) rfl (fun w' hh => by exact rWrite_any (segsL done) _ w' (nl_arg (nest_top ns_stays hh 80 77 rfl rfl ho.got hn))) ?_
    repeat' ((conv => whnf); first | refine walk (Tryz.ok ..) ?_ | fail)
    exact done_pure rfl rfl rfl
  obtain ⟨m, hm⟩ : ∃ m, l[i]? = some m := ⟨_, List.getElem?_eq_getElem hi1⟩
  obtain ⟨vs, hcs, hvs⟩ := hxA i m hm
  have hvs0 := hvs
  obtain ⟨am, Am, cm, xm, rfl, aAm, hcm, hrm, -, hxm⟩ := hvs0
  have hmaxm : m.segs.length ≤ 9223372036854775807 := Nat.le_trans (Nat.le_trans hcm.1 hcm.2) (by decide)
  have hfm := hf m (List.mem_of_getElem? hm)
  obtain ⟨p, rfl, rfl⟩ := some_ofz aA hrA (by omega)
  have hdrop : l.drop i = m :: l.drop (i + 1) := by
    rw [List.drop_eq_getElem_cons hi1]
    congr 1
    exact (List.getElem?_eq_some_iff.1 hm).2
  rw [hdrop, okFrom] at hok
  have hno : okFrom [] l = false → writeG l = (emp, 2) := fun h => by unfold writeG; rw [if_neg (by rw [h]; simp)]
  repeat' ((conv => whnf); first | refine walk (Tryz.ok ..) ?_ | (refine Cnd.mk (fun h => ?_) (fun h => ?_) <;> (first | exact cndT h (by (try dsimp only); omega) | exact cndF h (by (try dsimp only); omega) | (exfalso; simp at h; omega) | simp at h | skip)) | fail)
  refine sat_loop (Tryz.ok ..) (α := Nat) (fun k => ([(0, .yes, .v (.slice (adr (some p)) l.length cA)), (4, .yes, .o 80 o.1 n o.2.1), (5, .yes, .v (.int .i64 i)), (6, .yes, .v (.int .i64 k))], outR n o))
    (fun k => k ≤ i ∧ ∀ (j : Nat) (x : Msg), j < k → l[j]? = some x → x.ref ≠ m.ref) (fun k => i - k) (fun _ => rfl) ?_ ?_
  · refine ⟨0, ⟨Nat.zero_le _, fun j x h => by omega⟩, ?_, ?_, rfl⟩
    all_goals ((repeat' (first | exact trivial | exact rfl | refine And.intro ?_ ?_)) <;> (try (conv => whnf)) <;> (try simp only [SV.real, SV.r2, SV.r1]))
  rintro k ⟨hk, hne⟩
  by_cases hk1 : k < i
  · obtain ⟨x, hx⟩ : ∃ s, l[k]? = some s := ⟨_, List.getElem?_eq_getElem (show k < l.length by omega)⟩
    obtain ⟨vx, hcx, -⟩ := hxA k x hx
    repeat' ((conv => whnf); first | refine walk (Tryz.ok ..) ?_ | (refine Cnd.mk (fun h => ?_) (fun h => ?_) <;> (first | exact cndT h (by (try dsimp only); omega) | exact cndF h (by (try dsimp only); omega) | (exfalso; simp at h; omega) | simp at h | skip)) | refine side2 ?_ | refine sideL2 ?_ | refine xi _ (ro_cellz (j := 1) rfl rfl hrA hcx rfl rfl (kz k 3) (by omega)) ?_ | refine xi _ (ro_cellz (j := 1) rfl rfl hrA hcs rfl rfl (kz i 3) hi1) ?_ | fail)
    · have hin : m.ref ∈ ((done.map Msg.ref)).reverse := by
        rw [List.mem_reverse, hdone]
        refine List.mem_map.2 ⟨x, ?_, by assumption⟩
        exact List.mem_of_getElem? (i := k) (by rw [List.getElem?_take, if_pos hk1, hx])
      rw [decide_eq_true hin] at hok
      rw [hno (by rw [← hok]; simp)]
      exact done_pure rfl rfl rfl
    · refine ⟨k + 1, ⟨⟨hk1, fun j y hj hy => ?_⟩, by omega⟩, ?_, ?_, rfl⟩
      · rcases Nat.lt_or_ge j k with h1 | h1
        · exact hne j y h1 hy
        · obtain rfl : j = k := by omega
          rw [hx] at hy
          cases hy
          assumption
      all_goals ((repeat' (first | exact trivial | exact rfl | refine And.intro ?_ ?_)) <;> (try (conv => whnf)) <;> (try simp only [SV.real, SV.r2, SV.r1]))
  obtain rfl : k = i := by omega
  have hnot : m.ref ∉ ((done.map Msg.ref)).reverse := by
    intro h
    rw [List.mem_reverse, hdone] at h
    obtain ⟨x, hx, hxr⟩ := List.mem_map.1 h
    obtain ⟨j, hj, hjx⟩ := List.getElem_of_mem hx
    rw [List.length_take] at hj
    rw [List.getElem_take] at hjx
    exact hne j x (by omega) (by rw [List.getElem?_eq_getElem (by omega), hjx]) hxr
  rw [decide_eq_false hnot] at hok
  clear hne
  repeat' ((conv => whnf); first | refine walk (Tryz.ok ..) ?_ | (refine Cnd.mk (fun h => ?_) (fun h => ?_) <;> (first | exact cndT h (by (try dsimp only); omega) | exact cndF h (by (try dsimp only); omega) | (exfalso; simp at h; omega) | simp at h | skip)) | refine side2 ?_ | refine xi _ (ro_aggz rfl rfl hrA hcs rfl (kz k 3) hi1) ?_ | fail)
  (conv => whnf)
  refine called_at (.v (.bool (rightM m))) rfl (fun w' hh => by exact rRightM_any m _ w' (lent_nest (nsegs_stays nsa_stays) rfl rfl hvs hh) hfm.m) ?_
  cases hr : rightM m with
  | false =>
    rw [hr] at hok
    rw [hno (by rw [← hok]; rfl)]
    repeat' ((conv => whnf); first | refine walk (Tryz.ok ..) ?_ | (refine Cnd.mk (fun h => ?_) (fun h => ?_) <;> (first | exact cndT h (by (try dsimp only); omega) | exact cndF h (by (try dsimp only); omega) | (exfalso; simp at h; omega) | simp at h | skip)) | fail)
    exact done_pure rfl rfl rfl
  | true =>
  have hpre : n + (m.segs.length + 2) ≤ 1000000 := by
    rw [hn]
    refine Nat.le_trans ?_ hmany
    have e : l = done ++ m :: l.drop (k + 1) := by rw [hdone, ← hdrop, List.take_append_drop]
    have e2 : (segsL l).length = (segsL done).length + (m.segs.length + 2) + (segsL (l.drop (k + 1))).length := by
      rw [e]
      unfold segsL
      rw [List.flatMap_append, List.flatMap_cons, List.length_append, List.length_append]
      have e3 : (segsM m).length = m.segs.length + 2 := by simp [segsM]
      have e4 : l.drop (k + 1) = (done ++ m :: l.drop (k + 1)).drop (k + 1) := by rw [← e]
      rw [← e4, e3]
      omega
    omega
  have hall := ho.all
  repeat' ((conv => whnf); first | refine walk (Tryz.ok ..) ?_ | (refine Cnd.mk (fun h => ?_) (fun h => ?_) <;> (first | exact cndT h (by (try dsimp only); omega) | exact cndF h (by (try dsimp only); omega) | (exfalso; simp at h; omega) | simp at h | skip)) | fail)
  refine sat_join0 (α := Nat × Nat × Nat × Nat × Option (Nat × Nat) × Nat) (fun t => ([(0, .yes, .v (.slice (adr (some p)) l.length cA)), (4, .yes, .o 80 t.2.2.2.2.1 (n + 1) t.2.2.2.2.2), (5, .yes, .v (.int .i64 k))], [(39, .blk t.1 9 [.v (.string hedS)]), (45, .blk t.2.1 9 [.v (.string m.ref)]), (51, .blk t.2.2.1 9 [.v (.string m.kind)]), (52, .blk t.2.2.2.1 22 [.s 39 t.1 0 0 1 1, .s 45 t.2.1 0 0 1 1, .s 51 t.2.2.1 0 0 1 1]), (80, .row t.2.2.2.2.1 30 1 (n + 1) t.2.2.2.2.2 (o.2.2.1 ++ [.slice (some ⟨t.2.2.2.1, 0, none⟩) 3 3])), (77, .own o.2.2.2.2 (Frz o.2.2.2.1 o.2.2.2.2))])) (fun _ => True) (fun _ => rfl) ?_ ?_
  · refine sat_draw (Tryz.ok ..) [] [] (by kernel_rfl) (fun w hw => hw.sub trivial) ?_
    repeat' ((conv => whnf); first | refine tw ?_ ?_ | refine side2 ?_ | refine xi _ (ro_cellz (j := 0) rfl rfl hrA hcs rfl rfl (kz k 3) hi1) ?_ | refine xi _ (ro_cellz (j := 1) rfl rfl hrA hcs rfl rfl (kz k 3) hi1) ?_ | fail)
    · skip
      (conv => whnf)
      intro g39 hg39
      repeat' ((conv => whnf); first | refine kp ?_ ?_ | refine tw ?_ ?_ | exact trivial | fail)
      · skip
        (conv => whnf)
        intro g45 hg45
        repeat' ((conv => whnf); first | refine kp ?_ ?_ | exact trivial | fail)
        (conv => whnf)
        intro g51 hg51
        repeat' ((conv => whnf); first | refine kp ?_ ?_ | exact trivial | fail)
        (conv => whnf)
        intro g52 hg52
        repeat' ((conv => whnf); first | refine kp ?_ ?_ | exact trivial | fail)
        (conv => whnf)
        intro g53 hg53
        repeat' ((conv => whnf); first | refine kp ?_ ?_ | exact trivial | refine side2 ?_ | refine Or.inr ?_ | fail)
        (conv => whnf)
        intro A54 c54
        repeat' ((conv => whnf); first | refine kp ?_ ?_ | exact trivial | fail)
        refine ⟨(g39, g45, g51, g52, A54, c54), trivial, ?_, ?_, rfl⟩
        all_goals ((repeat' (first | exact trivial | exact rfl | refine And.intro ?_ ?_)) <;> (try (conv => whnf)) <;> (try simp only [SV.real, SV.r2, SV.r1]))
      · skip
        (conv => whnf)
        intro g51 hg51
        repeat' ((conv => whnf); first | refine kp ?_ ?_ | exact trivial | fail)
        (conv => whnf)
        intro g45 hg45
        repeat' ((conv => whnf); first | refine kp ?_ ?_ | exact trivial | fail)
        (conv => whnf)
        intro g52 hg52
        repeat' ((conv => whnf); first | refine kp ?_ ?_ | exact trivial | fail)
        (conv => whnf)
        intro g53 hg53
        repeat' ((conv => whnf); first | refine kp ?_ ?_ | exact trivial | refine side2 ?_ | refine Or.inr ?_ | fail)
        (conv => whnf)
        intro A54 c54
        repeat' ((conv => whnf); first | refine kp ?_ ?_ | exact trivial | fail)
        refine ⟨(g39, g45, g51, g52, A54, c54), trivial, ?_, ?_, rfl⟩
        all_goals ((repeat' (first | exact trivial | exact rfl | refine And.intro ?_ ?_)) <;> (try (conv => whnf)) <;> (try simp only [SV.real, SV.r2, SV.r1]))
    · skip
      (conv => whnf)
      intro g45 hg45
      repeat' ((conv => whnf); first | refine kp ?_ ?_ | refine tw ?_ ?_ | exact trivial | fail)
      · skip
        (conv => whnf)
        intro g39 hg39
        repeat' ((conv => whnf); first | refine kp ?_ ?_ | exact trivial | fail)
        (conv => whnf)
        intro g51 hg51
        repeat' ((conv => whnf); first | refine kp ?_ ?_ | exact trivial | fail)
        (conv => whnf)
        intro g52 hg52
        repeat' ((conv => whnf); first | refine kp ?_ ?_ | exact trivial | fail)
        (conv => whnf)
        intro g53 hg53
        repeat' ((conv => whnf); first | refine kp ?_ ?_ | exact trivial | refine side2 ?_ | refine Or.inr ?_ | fail)
        (conv => whnf)
        intro A54 c54
        repeat' ((conv => whnf); first | refine kp ?_ ?_ | exact trivial | fail)
        refine ⟨(g39, g45, g51, g52, A54, c54), trivial, ?_, ?_, rfl⟩
        all_goals ((repeat' (first | exact trivial | exact rfl | refine And.intro ?_ ?_)) <;> (try (conv => whnf)) <;> (try simp only [SV.real, SV.r2, SV.r1]))
      · skip
        (conv => whnf)
        intro g51 hg51
        repeat' ((conv => whnf); first | refine kp ?_ ?_ | exact trivial | fail)
        (conv => whnf)
        intro g39 hg39
        repeat' ((conv => whnf); first | refine kp ?_ ?_ | exact trivial | fail)
        (conv => whnf)
        intro g52 hg52
        repeat' ((conv => whnf); first | refine kp ?_ ?_ | exact trivial | fail)
        (conv => whnf)
        intro g53 hg53
        repeat' ((conv => whnf); first | refine kp ?_ ?_ | exact trivial | refine side2 ?_ | refine Or.inr ?_ | fail)
        (conv => whnf)
        intro A54 c54
        repeat' ((conv => whnf); first | refine kp ?_ ?_ | exact trivial | fail)
        refine ⟨(g39, g45, g51, g52, A54, c54), trivial, ?_, ?_, rfl⟩
        all_goals ((repeat' (first | exact trivial | exact rfl | refine And.intro ?_ ?_)) <;> (try (conv => whnf)) <;> (try simp only [SV.real, SV.r2, SV.r1]))
    · skip
      (conv => whnf)
      intro g51 hg51
      repeat' ((conv => whnf); first | refine kp ?_ ?_ | refine tw ?_ ?_ | exact trivial | fail)
      · skip
        (conv => whnf)
        intro g39 hg39
        repeat' ((conv => whnf); first | refine kp ?_ ?_ | exact trivial | fail)
        (conv => whnf)
        intro g45 hg45
        repeat' ((conv => whnf); first | refine kp ?_ ?_ | exact trivial | fail)
        (conv => whnf)
        intro g52 hg52
        repeat' ((conv => whnf); first | refine kp ?_ ?_ | exact trivial | fail)
        (conv => whnf)
        intro g53 hg53
        repeat' ((conv => whnf); first | refine kp ?_ ?_ | exact trivial | refine side2 ?_ | refine Or.inr ?_ | fail)
        (conv => whnf)
        intro A54 c54
        repeat' ((conv => whnf); first | refine kp ?_ ?_ | exact trivial | fail)
        refine ⟨(g39, g45, g51, g52, A54, c54), trivial, ?_, ?_, rfl⟩
        all_goals ((repeat' (first | exact trivial | exact rfl | refine And.intro ?_ ?_)) <;> (try (conv => whnf)) <;> (try simp only [SV.real, SV.r2, SV.r1]))
      · skip
        (conv => whnf)
        intro g45 hg45
        repeat' ((conv => whnf); first | refine kp ?_ ?_ | exact trivial | fail)
        (conv => whnf)
        intro g39 hg39
        repeat' ((conv => whnf); first | refine kp ?_ ?_ | exact trivial | fail)
        (conv => whnf)
        intro g52 hg52
        repeat' ((conv => whnf); first | refine kp ?_ ?_ | exact trivial | fail)
        (conv => whnf)
        intro g53 hg53
        repeat' ((conv => whnf); first | refine kp ?_ ?_ | exact trivial | refine side2 ?_ | refine Or.inr ?_ | fail)
        (conv => whnf)
        intro A54 c54
        repeat' ((conv => whnf); first | refine kp ?_ ?_ | exact trivial | fail)
        refine ⟨(g39, g45, g51, g52, A54, c54), trivial, ?_, ?_, rfl⟩
        all_goals ((repeat' (first | exact trivial | exact rfl | refine And.intro ?_ ?_)) <;> (try (conv => whnf)) <;> (try simp only [SV.real, SV.r2, SV.r1]))
  rintro ⟨g39, g45, g51, g52, A42, cap42⟩ -
  dsimp only
  repeat' ((conv => whnf); first | refine walk (Tryz.ok ..) ?_ | fail)
  refine sat_fuse 77 [77, 52, 51, 45, 39] rfl fun w3 hw3 => ?_
  have h39 := blk_ownN Text [77, 52, 51, 45, 39] 39 (g := g39) (n := 1) [hedS] [.string hedS] hw3 rfl rfl rfl (by unfold maxLen; simp) rfl ⟨rfl, trivial⟩
  have h45 := blk_ownN Text [77, 52, 51, 45, 39] 45 (g := g45) (n := 1) [m.ref] [.string m.ref] hw3 rfl rfl rfl (by unfold maxLen; simp) rfl ⟨rfl, trivial⟩
  have h51 := blk_ownN Text [77, 52, 51, 45, 39] 51 (g := g51) (n := 1) [m.kind] [.string m.kind] hw3 rfl rfl rfl (by unfold maxLen; simp) rfl ⟨rfl, trivial⟩
  have h52 := blk_ownN NE [77, 52, 51, 45, 39] 52 (g := g52) (n := 3) [[hedS], [m.ref], [m.kind]] [.slice (some ⟨g39, 0, none⟩) 1 1, .slice (some ⟨g45, 0, none⟩) 1 1, .slice (some ⟨g51, 0, none⟩) 1 1] hw3 rfl rfl rfl (by unfold maxLen; simp) rfl ⟨h39, h45, h51, trivial⟩
  have hok3 := ho.step (A := A42) (cap := cap42) (ho.got.fuse ns_stays [77, 52, 51, 45, 39] 77 hw3 rfl rfl) h52
  clear h39 h45 h51 h52
  refine sat_ops (Tryz.ok ..) ?_
  repeat' ((conv => whnf); first | refine walk (Tryz.ok ..) ?_ | fail)
  refine sat_loop (Tryz.ok ..) (α := Nat × OutS) (fun t => ([(0, .yes, .v (.slice (adr (some p)) l.length cA)), (4, .yes, .o 80 t.2.1 (n + 1 + t.1) t.2.2.1), (5, .yes, .v (.int .i64 k)), (7, .yes, .v (.int .i64 t.1))], outR (n + 1 + t.1) t.2))
    (fun t => t.1 ≤ m.segs.length ∧ OutOk t.2 (segsL done ++ [headS m] ++ (m.segs.take t.1).map bodyS)) (fun t => m.segs.length - t.1) (fun _ => rfl) ?_ ?_
  · refine ⟨(0, A42, cap42, _, w3, _), ⟨Nat.zero_le _, by rw [List.take_zero, List.map_nil, List.append_nil]; exact hok3⟩, ?_, ?_, rfl⟩
    all_goals ((repeat' (first | exact trivial | exact rfl | refine And.intro ?_ ?_)) <;> (try (conv => whnf)) <;> (try simp only [SV.real, SV.r2, SV.r1]))
  clear hok3 hw3 ho hall
  rintro ⟨j, o⟩ ⟨hj, ho⟩
  dsimp only at hj ho ⊢
  have hall := ho.all
  by_cases hj1 : j < m.segs.length
  · obtain ⟨s, hs⟩ : ∃ s, m.segs[j]? = some s := ⟨_, List.getElem?_eq_getElem hj1⟩
    obtain ⟨vd, hcd, hvd⟩ := hxm j s hs
    obtain ⟨q, rfl, rfl⟩ := some_ofz aAm hrm (by omega)
    have hfs := hfm.seg s (List.mem_of_getElem? hs)
    have hdat := hfs.1.dat
    have htl := trimS_len s.2
    obtain ⟨ad, nd, cd2, rfl⟩ := nsa_sl _ _ _ _ hvd
    repeat' ((conv => whnf); first | refine walk (Tryz.ok ..) ?_ | (refine Cnd.mk (fun h => ?_) (fun h => ?_) <;> (first | exact cndT h (by (try dsimp only); omega) | exact cndF h (by (try dsimp only); omega) | (exfalso; simp at h; omega) | simp at h | skip)) | refine side2 ?_ | refine xi _ (ro_cellz (j := 2) rfl rfl hrA hcs rfl rfl (kz k 3) hi1) ?_ | fail)
    refine sat_join0 (α := Nat × Option (Nat × Nat) × Nat × World × List Nat × List Value × Option (Nat × Nat) × Nat) (fun t => ([(0, .yes, .v (.slice (adr (some p)) l.length cA)), (4, .yes, .o 80 t.2.2.2.2.2.2.1 (n + 1 + j + 1) t.2.2.2.2.2.2.2), (5, .yes, .v (.int .i64 k)), (7, .yes, .v (.int .i64 j))], [(75, .blk t.1 9 [.v (.string s.1)]), (76, .row t.2.1 22 1 (1 + (trimS s.2).length) t.2.2.1 ([.slice (some ⟨t.1, 0, none⟩) 1 1] ++ t.2.2.2.2.2.1)), (903, .own t.2.2.2.2.1 (Frz t.2.2.2.1 t.2.2.2.2.1)), (80, .row t.2.2.2.2.2.2.1 30 1 (n + 1 + j + 1) t.2.2.2.2.2.2.2 (o.2.2.1 ++ [.slice (adr t.2.1) (1 + (trimS s.2).length) t.2.2.1])), (77, .own o.2.2.2.2 (Frz o.2.2.2.1 o.2.2.2.2))]))
      (fun t => t.2.2.2.2.2.1.length = (trimS s.2).length ∧ ∀ (i : Nat) (x : Value) (a : Elem), t.2.2.2.2.2.1[i]? = some x → (trimS s.2)[i]? = some a → NE t.2.2.2.1 (fun g => g ∈ t.2.2.2.2.1) x a) (fun _ => rfl) ?_ ?_
    · refine sat_draw (Tryz.ok ..) [] [] (by kernel_rfl) (fun w hw => hw.sub trivial) ?_
      repeat' ((conv => whnf); first | refine tw ?_ ?_ | refine side2 ?_ | refine xi _ (ro_cellz (j := 2) rfl rfl hrA hcs rfl rfl (kz k 3) hi1) ?_ | refine xi _ (ro_cellz (j := 0) rfl rfl hrm hcd rfl rfl (kz j 2) hj1) ?_ | refine xi _ (ro_cellz (j := 1) rfl rfl hrm hcd rfl rfl (kz j 2) hj1) ?_ | fail)
      · skip
        (conv => whnf)
        intro g75 hg75
        repeat' ((conv => whnf); first | refine kp ?_ ?_ | refine tw ?_ ?_ | exact trivial | fail)
        · skip
          (conv => whnf)
          intro g76 hg76
          repeat' ((conv => whnf); first | refine kp ?_ ?_ | exact trivial | fail)
          (conv => whnf)
          refine called_nest 903 (mk := id) (Q := fun w B v => NS w B v (trimS s.2)) (fun v => .v v) (fun _ => rfl) (fun w' hh => by exact rtrim_any s.2 _ w' (lent_nest nsa_stays rfl rfl hvd hh) hfs.2) ?_
          intro w1 gs1 v1 h1
          obtain ⟨A1, c1, xs1, rfl, hc1, hr1, hB1, hx1⟩ := h1
          have hr1l : xs1.length = (trimS s.2).length := by rw [hr1.1, Nat.mul_one]
          have hall1 : allV xs1 = true := nest_all (R := NE) (fun _ _ _ _ h => ne_one h) hr1l hx1
          repeat' ((conv => whnf); first | refine kp ?_ ?_ | exact trivial | fail)
          (conv => whnf)
          refine raw_frz (d := 903) hr1 hB1 rfl ?_
          repeat' ((conv => whnf); first | refine side2 ?_ | fail)
          (conv => whnf)
          intro A76 c76
          repeat' ((conv => whnf); first | refine kp ?_ ?_ | exact trivial | fail)
          (conv => whnf)
          intro g88 hg88
          repeat' ((conv => whnf); first | refine kp ?_ ?_ | exact trivial | refine side2 ?_ | refine Or.inr ?_ | fail)
          (conv => whnf)
          intro A89 c89
          repeat' ((conv => whnf); first | refine kp ?_ ?_ | exact trivial | fail)
          refine ⟨(g75, A76, c76, w1, gs1, xs1, A89, c89), ⟨hr1l, hx1⟩, ?_, ?_, rfl⟩
          all_goals ((repeat' (first | exact trivial | exact rfl | refine And.intro ?_ ?_)) <;> (try (conv => whnf)) <;> (try simp only [SV.real, SV.r2, SV.r1]))
        · skip
          (conv => whnf)
          refine called_nest 903 (mk := id) (Q := fun w B v => NS w B v (trimS s.2)) (fun v => .v v) (fun _ => rfl) (fun w' hh => by exact rtrim_any s.2 _ w' (lent_nest nsa_stays rfl rfl hvd hh) hfs.2) ?_
          intro w1 gs1 v1 h1
          obtain ⟨A1, c1, xs1, rfl, hc1, hr1, hB1, hx1⟩ := h1
          have hr1l : xs1.length = (trimS s.2).length := by rw [hr1.1, Nat.mul_one]
          have hall1 : allV xs1 = true := nest_all (R := NE) (fun _ _ _ _ h => ne_one h) hr1l hx1
          repeat' ((conv => whnf); first | refine kp ?_ ?_ | exact trivial | fail)
          (conv => whnf)
          intro g76 hg76
          repeat' ((conv => whnf); first | refine kp ?_ ?_ | exact trivial | fail)
          (conv => whnf)
          refine raw_frz (d := 903) hr1 hB1 rfl ?_
          repeat' ((conv => whnf); first | refine side2 ?_ | fail)
          (conv => whnf)
          intro A76 c76
          repeat' ((conv => whnf); first | refine kp ?_ ?_ | exact trivial | fail)
          (conv => whnf)
          intro g88 hg88
          repeat' ((conv => whnf); first | refine kp ?_ ?_ | exact trivial | refine side2 ?_ | refine Or.inr ?_ | fail)
          (conv => whnf)
          intro A89 c89
          repeat' ((conv => whnf); first | refine kp ?_ ?_ | exact trivial | fail)
          refine ⟨(g75, A76, c76, w1, gs1, xs1, A89, c89), ⟨hr1l, hx1⟩, ?_, ?_, rfl⟩
          all_goals ((repeat' (first | exact trivial | exact rfl | refine And.intro ?_ ?_)) <;> (try (conv => whnf)) <;> (try simp only [SV.real, SV.r2, SV.r1]))
      · skip
        (conv => whnf)
        refine called_nest 903 (mk := id) (Q := fun w B v => NS w B v (trimS s.2)) (fun v => .v v) (fun _ => rfl) (fun w' hh => by exact rtrim_any s.2 _ w' (lent_nest nsa_stays rfl rfl hvd hh) hfs.2) ?_
        intro w1 gs1 v1 h1
        obtain ⟨A1, c1, xs1, rfl, hc1, hr1, hB1, hx1⟩ := h1
        have hr1l : xs1.length = (trimS s.2).length := by rw [hr1.1, Nat.mul_one]
        have hall1 : allV xs1 = true := nest_all (R := NE) (fun _ _ _ _ h => ne_one h) hr1l hx1
        repeat' ((conv => whnf); first | refine kp ?_ ?_ | exact trivial | fail)
        (conv => whnf)
        intro g75 hg75
        repeat' ((conv => whnf); first | refine kp ?_ ?_ | exact trivial | fail)
        (conv => whnf)
        intro g76 hg76
        repeat' ((conv => whnf); first | refine kp ?_ ?_ | exact trivial | fail)
        (conv => whnf)
        refine raw_frz (d := 903) hr1 hB1 rfl ?_
        repeat' ((conv => whnf); first | refine side2 ?_ | fail)
        (conv => whnf)
        intro A76 c76
        repeat' ((conv => whnf); first | refine kp ?_ ?_ | exact trivial | fail)
        (conv => whnf)
        intro g88 hg88
        repeat' ((conv => whnf); first | refine kp ?_ ?_ | exact trivial | refine side2 ?_ | refine Or.inr ?_ | fail)
        (conv => whnf)
        intro A89 c89
        repeat' ((conv => whnf); first | refine kp ?_ ?_ | exact trivial | fail)
        refine ⟨(g75, A76, c76, w1, gs1, xs1, A89, c89), ⟨hr1l, hx1⟩, ?_, ?_, rfl⟩
        all_goals ((repeat' (first | exact trivial | exact rfl | refine And.intro ?_ ?_)) <;> (try (conv => whnf)) <;> (try simp only [SV.real, SV.r2, SV.r1]))
    rintro ⟨g75, A76, c76, w1, gs1, xs1, A89, c89⟩ ⟨hr1l, hx1⟩
    dsimp only at hr1l hx1 ⊢
    repeat' ((conv => whnf); first | refine walk (Tryz.ok ..) ?_ | fail)
    refine sat_fuse 77 [77, 903, 76, 75] rfl fun w3 hw3 => ?_
    have h75 := blk_ownN Text [77, 903, 76, 75] 75 (g := g75) (n := 1) [s.1] [.string s.1] hw3 rfl rfl rfl (by unfold maxLen; simp) rfl ⟨rfl, trivial⟩
    have hg1 : Got NE w1 gs1 xs1 (trimS s.2) := ⟨hx1⟩
    have hg2 := hg1.fuse ne_stays [77, 903, 76, 75] 903 hw3 rfl rfl
    have hg3 : Got NE w3 (gsOf _ [77, 903, 76, 75]) (.slice (some ⟨g75, 0, none⟩) 1 1 :: xs1) (bodyS s) := ⟨fun i x a hx ha => by
      cases i with
      | zero => cases hx; cases ha; exact h75
      | succ i => exact hg2.at_ i x a hx ha⟩
    have h76 := nest_fuseN (R := NE) [77, 903, 76, 75] 76 (l := bodyS s) (Nat.add_comm _ _) hw3 rfl rfl hg3
    have hok3 := ho.step (A := A89) (cap := c89) (ho.got.fuse ns_stays [77, 903, 76, 75] 77 hw3 rfl rfl) h76
    clear hg1 hg2 hg3 h75 h76
    refine sat_ops (Tryz.ok ..) ?_
    repeat' ((conv => whnf); first | refine sideL2 ?_ | fail)
    refine ⟨(j + 1, A89, c89, _, w3, _), ⟨⟨hj1, by rw [List.take_add_one, hs, List.map_append, ← List.append_assoc]; exact hok3⟩, by show m.segs.length - (j + 1) < m.segs.length - j; omega⟩, ?_, ?_, rfl⟩
    all_goals ((repeat' (first | exact trivial | exact rfl | refine And.intro ?_ ?_)) <;> (try (conv => whnf)) <;> (try simp only [SV.real, SV.r2, SV.r1]))
  obtain rfl : j = m.segs.length := by omega
  rw [List.take_length] at ho
  repeat' ((conv => whnf); first | refine walk (Tryz.ok ..) ?_ | (refine Cnd.mk (fun h => ?_) (fun h => ?_) <;> (first | exact cndT h (by (try dsimp only); omega) | exact cndF h (by (try dsimp only); omega) | (exfalso; simp at h; omega) | simp at h | skip)) | refine side2 ?_ | refine xi _ (ro_cellz (j := 2) rfl rfl hrA hcs rfl rfl (kz k 3) hi1) ?_ | fail)
  refine sat_join0 (α := Nat × Nat × Nat × Nat × Option (Nat × Nat) × Nat) (fun t => ([(0, .yes, .v (.slice (adr (some p)) l.length cA)), (4, .yes, .o 80 t.2.2.2.2.1 (n + 1 + m.segs.length + 1) t.2.2.2.2.2), (5, .yes, .v (.int .i64 k))], [(91, .blk t.1 9 [.v (.string endS)]), (100, .blk t.2.1 9 [.v (.string (itB (m.segs.length + 2)))]), (106, .blk t.2.2.1 9 [.v (.string m.ref)]), (107, .blk t.2.2.2.1 22 [.s 91 t.1 0 0 1 1, .s 100 t.2.1 0 0 1 1, .s 106 t.2.2.1 0 0 1 1]), (80, .row t.2.2.2.2.1 30 1 (n + 1 + m.segs.length + 1) t.2.2.2.2.2 (o.2.2.1 ++ [.slice (some ⟨t.2.2.2.1, 0, none⟩) 3 3])), (77, .own o.2.2.2.2 (Frz o.2.2.2.1 o.2.2.2.2))])) (fun _ => True) (fun _ => rfl) ?_ ?_
  · refine sat_draw (Tryz.ok ..) [] [] (by kernel_rfl) (fun w hw => hw.sub trivial) ?_
    repeat' ((conv => whnf); first | refine tw ?_ ?_ | refine side2 ?_ | refine sideL2 ?_ | refine xi _ (ro_cellz (j := 2) rfl rfl hrA hcs rfl rfl (kz k 3) hi1) ?_ | refine xi _ (ro_cellz (j := 1) rfl rfl hrA hcs rfl rfl (kz k 3) hi1) ?_ | fail)
    · skip
      (conv => whnf)
      intro g91 hg91
      repeat' ((conv => whnf); first | refine kp ?_ ?_ | refine tw ?_ ?_ | exact trivial | fail)
      · skip
        (conv => whnf)
        refine called_at (.v (.string (itB (m.segs.length + 2)))) rfl (fun w' hh => by exact number_lit m.segs.length w' (by omega)) ?_
        repeat' ((conv => whnf); first | refine kp ?_ ?_ | refine tw ?_ ?_ | exact trivial | fail)
        · skip
          (conv => whnf)
          intro g100 hg100
          repeat' ((conv => whnf); first | refine kp ?_ ?_ | exact trivial | fail)
          (conv => whnf)
          intro g106 hg106
          repeat' ((conv => whnf); first | refine kp ?_ ?_ | exact trivial | fail)
          (conv => whnf)
          intro g107 hg107
          repeat' ((conv => whnf); first | refine kp ?_ ?_ | exact trivial | fail)
          (conv => whnf)
          intro g108 hg108
          repeat' ((conv => whnf); first | refine kp ?_ ?_ | exact trivial | refine side2 ?_ | refine Or.inr ?_ | fail)
          (conv => whnf)
          intro A109 c109
          repeat' ((conv => whnf); first | refine kp ?_ ?_ | exact trivial | fail)
          refine ⟨(g91, g100, g106, g107, A109, c109), trivial, ?_, ?_, rfl⟩
          all_goals ((repeat' (first | exact trivial | exact rfl | refine And.intro ?_ ?_)) <;> (try (conv => whnf)) <;> (try simp only [SV.real, SV.r2, SV.r1]))
        · skip
          (conv => whnf)
          intro g106 hg106
          repeat' ((conv => whnf); first | refine kp ?_ ?_ | exact trivial | fail)
          (conv => whnf)
          intro g100 hg100
          repeat' ((conv => whnf); first | refine kp ?_ ?_ | exact trivial | fail)
          (conv => whnf)
          intro g107 hg107
          repeat' ((conv => whnf); first | refine kp ?_ ?_ | exact trivial | fail)
          (conv => whnf)
          intro g108 hg108
          repeat' ((conv => whnf); first | refine kp ?_ ?_ | exact trivial | refine side2 ?_ | refine Or.inr ?_ | fail)
          (conv => whnf)
          intro A109 c109
          repeat' ((conv => whnf); first | refine kp ?_ ?_ | exact trivial | fail)
          refine ⟨(g91, g100, g106, g107, A109, c109), trivial, ?_, ?_, rfl⟩
          all_goals ((repeat' (first | exact trivial | exact rfl | refine And.intro ?_ ?_)) <;> (try (conv => whnf)) <;> (try simp only [SV.real, SV.r2, SV.r1]))
      · skip
        (conv => whnf)
        intro g106 hg106
        repeat' ((conv => whnf); first | refine kp ?_ ?_ | exact trivial | fail)
        (conv => whnf)
        refine called_at (.v (.string (itB (m.segs.length + 2)))) rfl (fun w' hh => by exact number_lit m.segs.length w' (by omega)) ?_
        repeat' ((conv => whnf); first | refine kp ?_ ?_ | exact trivial | fail)
        (conv => whnf)
        intro g100 hg100
        repeat' ((conv => whnf); first | refine kp ?_ ?_ | exact trivial | fail)
        (conv => whnf)
        intro g107 hg107
        repeat' ((conv => whnf); first | refine kp ?_ ?_ | exact trivial | fail)
        (conv => whnf)
        intro g108 hg108
        repeat' ((conv => whnf); first | refine kp ?_ ?_ | exact trivial | refine side2 ?_ | refine Or.inr ?_ | fail)
        (conv => whnf)
        intro A109 c109
        repeat' ((conv => whnf); first | refine kp ?_ ?_ | exact trivial | fail)
        refine ⟨(g91, g100, g106, g107, A109, c109), trivial, ?_, ?_, rfl⟩
        all_goals ((repeat' (first | exact trivial | exact rfl | refine And.intro ?_ ?_)) <;> (try (conv => whnf)) <;> (try simp only [SV.real, SV.r2, SV.r1]))
    · skip
      (conv => whnf)
      refine called_at (.v (.string (itB (m.segs.length + 2)))) rfl (fun w' hh => by exact number_lit m.segs.length w' (by omega)) ?_
      repeat' ((conv => whnf); first | refine kp ?_ ?_ | refine tw ?_ ?_ | exact trivial | fail)
      · skip
        (conv => whnf)
        intro g91 hg91
        repeat' ((conv => whnf); first | refine kp ?_ ?_ | refine tw ?_ ?_ | exact trivial | fail)
        · skip
          (conv => whnf)
          intro g100 hg100
          repeat' ((conv => whnf); first | refine kp ?_ ?_ | exact trivial | fail)
          (conv => whnf)
          intro g106 hg106
          repeat' ((conv => whnf); first | refine kp ?_ ?_ | exact trivial | fail)
          (conv => whnf)
          intro g107 hg107
          repeat' ((conv => whnf); first | refine kp ?_ ?_ | exact trivial | fail)
          (conv => whnf)
          intro g108 hg108
          repeat' ((conv => whnf); first | refine kp ?_ ?_ | exact trivial | refine side2 ?_ | refine Or.inr ?_ | fail)
          (conv => whnf)
          intro A109 c109
          repeat' ((conv => whnf); first | refine kp ?_ ?_ | exact trivial | fail)
          refine ⟨(g91, g100, g106, g107, A109, c109), trivial, ?_, ?_, rfl⟩
          all_goals ((repeat' (first | exact trivial | exact rfl | refine And.intro ?_ ?_)) <;> (try (conv => whnf)) <;> (try simp only [SV.real, SV.r2, SV.r1]))
        · skip
          (conv => whnf)
          intro g106 hg106
          repeat' ((conv => whnf); first | refine kp ?_ ?_ | exact trivial | fail)
          (conv => whnf)
          intro g100 hg100
          repeat' ((conv => whnf); first | refine kp ?_ ?_ | exact trivial | fail)
          (conv => whnf)
          intro g107 hg107
          repeat' ((conv => whnf); first | refine kp ?_ ?_ | exact trivial | fail)
          (conv => whnf)
          intro g108 hg108
          repeat' ((conv => whnf); first | refine kp ?_ ?_ | exact trivial | refine side2 ?_ | refine Or.inr ?_ | fail)
          (conv => whnf)
          intro A109 c109
          repeat' ((conv => whnf); first | refine kp ?_ ?_ | exact trivial | fail)
          refine ⟨(g91, g100, g106, g107, A109, c109), trivial, ?_, ?_, rfl⟩
          all_goals ((repeat' (first | exact trivial | exact rfl | refine And.intro ?_ ?_)) <;> (try (conv => whnf)) <;> (try simp only [SV.real, SV.r2, SV.r1]))
      · skip
        (conv => whnf)
        intro g100 hg100
        repeat' ((conv => whnf); first | refine kp ?_ ?_ | refine tw ?_ ?_ | exact trivial | fail)
        · skip
          (conv => whnf)
          intro g91 hg91
          repeat' ((conv => whnf); first | refine kp ?_ ?_ | exact trivial | fail)
          (conv => whnf)
          intro g106 hg106
          repeat' ((conv => whnf); first | refine kp ?_ ?_ | exact trivial | fail)
          (conv => whnf)
          intro g107 hg107
          repeat' ((conv => whnf); first | refine kp ?_ ?_ | exact trivial | fail)
          (conv => whnf)
          intro g108 hg108
          repeat' ((conv => whnf); first | refine kp ?_ ?_ | exact trivial | refine side2 ?_ | refine Or.inr ?_ | fail)
          (conv => whnf)
          intro A109 c109
          repeat' ((conv => whnf); first | refine kp ?_ ?_ | exact trivial | fail)
          refine ⟨(g91, g100, g106, g107, A109, c109), trivial, ?_, ?_, rfl⟩
          all_goals ((repeat' (first | exact trivial | exact rfl | refine And.intro ?_ ?_)) <;> (try (conv => whnf)) <;> (try simp only [SV.real, SV.r2, SV.r1]))
        · skip
          (conv => whnf)
          intro g106 hg106
          repeat' ((conv => whnf); first | refine kp ?_ ?_ | exact trivial | fail)
          (conv => whnf)
          intro g91 hg91
          repeat' ((conv => whnf); first | refine kp ?_ ?_ | exact trivial | fail)
          (conv => whnf)
          intro g107 hg107
          repeat' ((conv => whnf); first | refine kp ?_ ?_ | exact trivial | fail)
          (conv => whnf)
          intro g108 hg108
          repeat' ((conv => whnf); first | refine kp ?_ ?_ | exact trivial | refine side2 ?_ | refine Or.inr ?_ | fail)
          (conv => whnf)
          intro A109 c109
          repeat' ((conv => whnf); first | refine kp ?_ ?_ | exact trivial | fail)
          refine ⟨(g91, g100, g106, g107, A109, c109), trivial, ?_, ?_, rfl⟩
          all_goals ((repeat' (first | exact trivial | exact rfl | refine And.intro ?_ ?_)) <;> (try (conv => whnf)) <;> (try simp only [SV.real, SV.r2, SV.r1]))
      · skip
        (conv => whnf)
        intro g106 hg106
        repeat' ((conv => whnf); first | refine kp ?_ ?_ | refine tw ?_ ?_ | exact trivial | fail)
        · skip
          (conv => whnf)
          intro g91 hg91
          repeat' ((conv => whnf); first | refine kp ?_ ?_ | exact trivial | fail)
          (conv => whnf)
          intro g100 hg100
          repeat' ((conv => whnf); first | refine kp ?_ ?_ | exact trivial | fail)
          (conv => whnf)
          intro g107 hg107
          repeat' ((conv => whnf); first | refine kp ?_ ?_ | exact trivial | fail)
          (conv => whnf)
          intro g108 hg108
          repeat' ((conv => whnf); first | refine kp ?_ ?_ | exact trivial | refine side2 ?_ | refine Or.inr ?_ | fail)
          (conv => whnf)
          intro A109 c109
          repeat' ((conv => whnf); first | refine kp ?_ ?_ | exact trivial | fail)
          refine ⟨(g91, g100, g106, g107, A109, c109), trivial, ?_, ?_, rfl⟩
          all_goals ((repeat' (first | exact trivial | exact rfl | refine And.intro ?_ ?_)) <;> (try (conv => whnf)) <;> (try simp only [SV.real, SV.r2, SV.r1]))
        · skip
          (conv => whnf)
          intro g100 hg100
          repeat' ((conv => whnf); first | refine kp ?_ ?_ | exact trivial | fail)
          (conv => whnf)
          intro g91 hg91
          repeat' ((conv => whnf); first | refine kp ?_ ?_ | exact trivial | fail)
          (conv => whnf)
          intro g107 hg107
          repeat' ((conv => whnf); first | refine kp ?_ ?_ | exact trivial | fail)
          (conv => whnf)
          intro g108 hg108
          repeat' ((conv => whnf); first | refine kp ?_ ?_ | exact trivial | refine side2 ?_ | refine Or.inr ?_ | fail)
          (conv => whnf)
          intro A109 c109
          repeat' ((conv => whnf); first | refine kp ?_ ?_ | exact trivial | fail)
          refine ⟨(g91, g100, g106, g107, A109, c109), trivial, ?_, ?_, rfl⟩
          all_goals ((repeat' (first | exact trivial | exact rfl | refine And.intro ?_ ?_)) <;> (try (conv => whnf)) <;> (try simp only [SV.real, SV.r2, SV.r1]))
    · skip
      (conv => whnf)
      intro g106 hg106
      repeat' ((conv => whnf); first | refine kp ?_ ?_ | refine tw ?_ ?_ | exact trivial | fail)
      · skip
        (conv => whnf)
        intro g91 hg91
        repeat' ((conv => whnf); first | refine kp ?_ ?_ | exact trivial | fail)
        (conv => whnf)
        refine called_at (.v (.string (itB (m.segs.length + 2)))) rfl (fun w' hh => by exact number_lit m.segs.length w' (by omega)) ?_
        repeat' ((conv => whnf); first | refine kp ?_ ?_ | exact trivial | fail)
        (conv => whnf)
        intro g100 hg100
        repeat' ((conv => whnf); first | refine kp ?_ ?_ | exact trivial | fail)
        (conv => whnf)
        intro g107 hg107
        repeat' ((conv => whnf); first | refine kp ?_ ?_ | exact trivial | fail)
        (conv => whnf)
        intro g108 hg108
        repeat' ((conv => whnf); first | refine kp ?_ ?_ | exact trivial | refine side2 ?_ | refine Or.inr ?_ | fail)
        (conv => whnf)
        intro A109 c109
        repeat' ((conv => whnf); first | refine kp ?_ ?_ | exact trivial | fail)
        refine ⟨(g91, g100, g106, g107, A109, c109), trivial, ?_, ?_, rfl⟩
        all_goals ((repeat' (first | exact trivial | exact rfl | refine And.intro ?_ ?_)) <;> (try (conv => whnf)) <;> (try simp only [SV.real, SV.r2, SV.r1]))
      · skip
        (conv => whnf)
        refine called_at (.v (.string (itB (m.segs.length + 2)))) rfl (fun w' hh => by exact number_lit m.segs.length w' (by omega)) ?_
        repeat' ((conv => whnf); first | refine kp ?_ ?_ | refine tw ?_ ?_ | exact trivial | fail)
        · skip
          (conv => whnf)
          intro g91 hg91
          repeat' ((conv => whnf); first | refine kp ?_ ?_ | exact trivial | fail)
          (conv => whnf)
          intro g100 hg100
          repeat' ((conv => whnf); first | refine kp ?_ ?_ | exact trivial | fail)
          (conv => whnf)
          intro g107 hg107
          repeat' ((conv => whnf); first | refine kp ?_ ?_ | exact trivial | fail)
          (conv => whnf)
          intro g108 hg108
          repeat' ((conv => whnf); first | refine kp ?_ ?_ | exact trivial | refine side2 ?_ | refine Or.inr ?_ | fail)
          (conv => whnf)
          intro A109 c109
          repeat' ((conv => whnf); first | refine kp ?_ ?_ | exact trivial | fail)
          refine ⟨(g91, g100, g106, g107, A109, c109), trivial, ?_, ?_, rfl⟩
          all_goals ((repeat' (first | exact trivial | exact rfl | refine And.intro ?_ ?_)) <;> (try (conv => whnf)) <;> (try simp only [SV.real, SV.r2, SV.r1]))
        · skip
          (conv => whnf)
          intro g100 hg100
          repeat' ((conv => whnf); first | refine kp ?_ ?_ | exact trivial | fail)
          (conv => whnf)
          intro g91 hg91
          repeat' ((conv => whnf); first | refine kp ?_ ?_ | exact trivial | fail)
          (conv => whnf)
          intro g107 hg107
          repeat' ((conv => whnf); first | refine kp ?_ ?_ | exact trivial | fail)
          (conv => whnf)
          intro g108 hg108
          repeat' ((conv => whnf); first | refine kp ?_ ?_ | exact trivial | refine side2 ?_ | refine Or.inr ?_ | fail)
          (conv => whnf)
          intro A109 c109
          repeat' ((conv => whnf); first | refine kp ?_ ?_ | exact trivial | fail)
          refine ⟨(g91, g100, g106, g107, A109, c109), trivial, ?_, ?_, rfl⟩
          all_goals ((repeat' (first | exact trivial | exact rfl | refine And.intro ?_ ?_)) <;> (try (conv => whnf)) <;> (try simp only [SV.real, SV.r2, SV.r1]))
  rintro ⟨g91, g100, g106, g107, A42, cap42⟩ -
  dsimp only
  repeat' ((conv => whnf); first | refine walk (Tryz.ok ..) ?_ | fail)
  refine sat_fuse 77 [77, 107, 106, 100, 91] rfl fun w3 hw3 => ?_
  have h91 := blk_ownN Text [77, 107, 106, 100, 91] 91 (g := g91) (n := 1) [endS] [.string endS] hw3 rfl rfl rfl (by unfold maxLen; simp) rfl ⟨rfl, trivial⟩
  have h100 := blk_ownN Text [77, 107, 106, 100, 91] 100 (g := g100) (n := 1) [itB (m.segs.length + 2)] [.string (itB (m.segs.length + 2))] hw3 rfl rfl rfl (by unfold maxLen; simp) rfl ⟨rfl, trivial⟩
  have h106 := blk_ownN Text [77, 107, 106, 100, 91] 106 (g := g106) (n := 1) [m.ref] [.string m.ref] hw3 rfl rfl rfl (by unfold maxLen; simp) rfl ⟨rfl, trivial⟩
  have h107 := blk_ownN NE [77, 107, 106, 100, 91] 107 (g := g107) (n := 3) [[endS], [itB (m.segs.length + 2)], [m.ref]] [.slice (some ⟨g91, 0, none⟩) 1 1, .slice (some ⟨g100, 0, none⟩) 1 1, .slice (some ⟨g106, 0, none⟩) 1 1] hw3 rfl rfl rfl (by unfold maxLen; simp) rfl ⟨h91, h100, h106, trivial⟩
  have hok3 := ho.step (A := A42) (cap := cap42) (ho.got.fuse ns_stays [77, 107, 106, 100, 91] 77 hw3 rfl rfl) h107
  clear h91 h100 h106 h107
  have hok4 := hok3.cast (l' := segsL (done ++ [m])) (by rw [segsL_snoc]; simp [segsM, tailS])
  refine sat_ops (Tryz.ok ..) ?_
  repeat' ((conv => whnf); first | refine sideL2 ?_ | fail)
  refine ⟨(k + 1, done ++ [m], n + 1 + m.segs.length + 1, A42, cap42, _, w3, _), ⟨⟨hi1, ?_, ?_, hok4, ?_⟩, by show l.length - (k + 1) < l.length - k; omega⟩, ?_, ?_, rfl⟩
  · rw [List.take_add_one, hm, hdone]; rfl
  · show n + 1 + m.segs.length + 1 = (segsL (done ++ [m])).length
    rw [segsL_snoc, List.length_append, segsM_len, ← hn]; omega
  · rw [List.map_append, List.reverse_append]; rw [← hok]; simp [hr]
  all_goals ((repeat' (first | exact trivial | exact rfl | refine And.intro ?_ ?_)) <;> (try (conv => whnf)) <;> (try simp only [SV.real, SV.r2, SV.r1]))
end
end Go.Proofs.YtdohcglpcgahaaaGreatDoor
