/-
  The walks of the reference's reader: worse, end, cut.
-/
import Derived.Test.YtdejcgmaphmjbaaDoorRV
import Derived.Test.YtdejcgmaphmjbaaDoorV1
set_option linter.unusedSimpArgs false
set_option linter.unusedVariables false
namespace Go.Proofs.YtdejcgmaphmjbaaDoor
open Go Sat Go.RowKit Go.PlainAid
def fC (f : Flt) : List SV := [.v (.int .i64 f.at_), .v (.int .i64 f.rank), .v (.int .i64 f.e)]
def fV (f : Flt) : Value := .agg #[.int .i64 f.at_, .int .i64 f.rank, .int .i64 f.e]
set_option maxRecDepth 100000 in
set_option maxHeartbeats 8000000 in
theorem worse_any (a b : Flt) (w : World) : Calls Tryd.prog 34 #[fV a, fV b] w fun e w' => e = .returned (fV (worseF a b)) ∧ Below w.heap.size w w' := by
  obtain ⟨aa, ar, ae⟩ := a
  obtain ⟨ba, br, be⟩ := b
  refine calls_sat (cx := Tryd.cx 36 [] [] [] w) (Tryd.ok ..) Tryd.func34 rfl [.a (fC ⟨aa, ar, ae⟩), .a (fC ⟨ba, br, be⟩)] rfl (by show 2 ≤ 36; omega) [] (holds_nil (Nat.le_refl _)) ?_
  repeat' ((conv => whnf); first | refine walk (Tryd.ok ..) ?_ | (refine Cnd.mk (fun h => ?_) (fun h => ?_) <;> (first | exact cndT h (by (try dsimp only); omega) | exact cndF h (by (try dsimp only); omega) | (exfalso; simp at h; omega) | simp at h | skip)) | refine kp ?_ ?_ | refine tw ?_ ?_ | refine appnil rfl ?_ | refine rawnil rfl ?_ | exact trivial | refine side2 ?_ | refine sideL2 ?_ | refine Or.inr ?_ | refine sat_drawH (Tryd.ok ..) (by kernel_rfl) ?_ | refine xi _ (And.intro rfl rfl) ?_ | refine xi _ (fun _ => And.intro rfl rfl) ?_ | refine xi _ rfl ?_ | intro g hg)
  · have e1 : worseF ⟨aa, ar, ae⟩ ⟨ba, br, be⟩ = ⟨ba, br, be⟩ := if_pos h
    rw [e1]
    exact done_pure rfl rfl rfl
  · have e1 : worseF ⟨aa, ar, ae⟩ ⟨ba, br, be⟩ = ⟨aa, ar, ae⟩ := if_neg (by unfold worseC; dsimp only; omega)
    rw [e1]
    exact done_pure rfl rfl rfl
theorem endQ_end {l : List UInt8} {k : Nat} (h : l.length ≤ k) : endQ (l.drop k) = 0 := by rw [List.drop_eq_nil_of_le h]; rfl
theorem endQ_stop {l : List UInt8} {k : Nat} (h : l[k]? = some 39) : endQ (l.drop k) = 0 := by rw [drop_at h]; unfold endQ; rw [if_pos rfl]
theorem endQ_step {l : List UInt8} {k : Nat} {c : UInt8} (h : l[k]? = some c) (h1 : c ≠ 39) (h2 : c ≠ 63) : endQ (l.drop k) = 1 + endQ (l.drop (k + 1)) := by
  rw [drop_at h]
  conv => lhs; unfold endQ
  rw [if_neg h1, if_neg h2]
theorem endQ_two {l : List UInt8} {k : Nat} (h : l[k]? = some 63) : endQ (l.drop k) = if k + 1 < l.length then 2 + endQ (l.drop (k + 2)) else 1 := by
  rw [drop_at h]
  conv => lhs; unfold endQ
  rw [if_neg (by decide), if_pos rfl]
  by_cases hk : k + 1 < l.length
  · rw [if_pos hk, List.drop_eq_getElem_cons hk]
  · rw [if_neg hk, List.drop_eq_nil_of_le (by omega)]
/-- where the search for a segment's end is -/
structure AtEnd (l : List UInt8) (r k : Nat) : Prop where
  le : k ≤ l.length + 1
  go : k ≤ l.length → r = k + endQ (l.drop k)
  out : k = l.length + 1 → r = l.length
set_option maxRecDepth 100000 in
set_option maxHeartbeats 8000000 in
theorem end_any (s : ByteArray) (i : Nat) (hi : i ≤ s.size) (hs : s.size ≤ 100000) (w : World) : Calls Tryd.prog 32 #[.string s, .int .i64 i] w fun e w' => e = .returned (.int .i64 ((i + endQ (s.data.toList.drop i) : Nat) : Int)) ∧ Below w.heap.size w w' := by
  refine calls_sat (cx := Tryd.cx 30 [] [] [] w) (Tryd.ok ..) Tryd.func32 rfl [.v (.string s), .v (.int .i64 i)] rfl (by show 2 ≤ 30; omega) [] (holds_nil (Nat.le_refl _)) ?_
  generalize hr : i + endQ (s.data.toList.drop i) = r
  have hsz : s.size = s.data.toList.length := rfl
  repeat' ((conv => whnf); first | refine walk (Tryd.ok ..) ?_ | (refine Cnd.mk (fun h => ?_) (fun h => ?_) <;> (first | exact cndT h (by (try dsimp only); omega) | exact cndF h (by (try dsimp only); omega) | (exfalso; simp at h; omega) | simp at h | skip)) | refine kp ?_ ?_ | refine tw ?_ ?_ | refine appnil rfl ?_ | refine rawnil rfl ?_ | exact trivial | refine side2 ?_ | refine sideL2 ?_ | refine Or.inr ?_ | refine sat_drawH (Tryd.ok ..) (by kernel_rfl) ?_ | refine xi _ (And.intro rfl rfl) ?_ | refine xi _ (fun _ => And.intro rfl rfl) ?_ | refine xi _ rfl ?_)
  refine sat_loop (Tryd.ok ..) (α := Nat) (fun k => ([(0, .yes, .v (.string s)), (1, .yes, .v (.int .i64 k))], []))
    (fun k => AtEnd s.data.toList r k) (fun k => s.size + 1 - k) (fun _ => rfl) ?_ ?_
  · refine ⟨i, ⟨by omega, fun _ => hr.symm, fun h => by omega⟩, ?_, ?_, rfl⟩
    all_goals ((repeat' (first | exact trivial | exact rfl | refine And.intro ?_ ?_)) <;> (try (conv => whnf)) <;> (try simp only [SV.real, SV.r2, SV.r1]))
  rintro k ⟨h1, h2, h3⟩
  by_cases hk : k < s.size
  case neg =>
    have e1 : r = s.size := by
      by_cases hk2 : k = s.size
      · rw [h2 (by omega), endQ_end (by omega)]
        omega
      · exact h3 (by omega)
    rw [e1]
    by_cases hk2 : k = s.size
    · subst hk2
      repeat' ((conv => whnf); first | refine walk (Tryd.ok ..) ?_ | (refine Cnd.mk (fun h => ?_) (fun h => ?_) <;> (first | exact cndT h (by (try dsimp only); omega) | exact cndF h (by (try dsimp only); omega) | (exfalso; simp at h; omega) | simp at h | skip)) | refine kp ?_ ?_ | refine tw ?_ ?_ | refine appnil rfl ?_ | refine rawnil rfl ?_ | exact trivial | refine side2 ?_ | refine sideL2 ?_ | refine Or.inr ?_ | refine sat_drawH (Tryd.ok ..) (by kernel_rfl) ?_ | refine xi _ (And.intro rfl rfl) ?_ | refine xi _ (fun _ => And.intro rfl rfl) ?_ | refine xi _ rfl ?_)
      all_goals exact done_pure rfl rfl rfl
    · repeat' ((conv => whnf); first | refine walk (Tryd.ok ..) ?_ | (refine Cnd.mk (fun h => ?_) (fun h => ?_) <;> (first | exact cndT h (by (try dsimp only); omega) | exact cndF h (by (try dsimp only); omega) | (exfalso; simp at h; omega) | simp at h | skip)) | refine kp ?_ ?_ | refine tw ?_ ?_ | refine appnil rfl ?_ | refine rawnil rfl ?_ | exact trivial | refine side2 ?_ | refine sideL2 ?_ | refine Or.inr ?_ | refine sat_drawH (Tryd.ok ..) (by kernel_rfl) ?_ | refine xi _ (And.intro rfl rfl) ?_ | refine xi _ (fun _ => And.intro rfl rfl) ?_ | refine xi _ rfl ?_)
      all_goals exact done_pure rfl rfl rfl
  obtain ⟨c, hc⟩ : ∃ c, s.data.toList[k]? = some c := ⟨_, List.getElem?_eq_getElem hk⟩
  have hbt : bt s (k : Int).toNat = (c.toNat : Int) := bt_at hc
  have hbt2 : bt s k = (c.toNat : Int) := bt_at hc
  have hr2 := h2 (by omega)
  clear h2 h3
  by_cases h39 : c = 39
  · have hn : (c.toNat : Int) = 39 := by rw [h39]; rfl
    rw [endQ_stop (by rw [← h39]; exact hc)] at hr2
    rw [hr2]
    repeat' ((conv => whnf); first | refine walk (Tryd.ok ..) ?_ | (refine Cnd.mk (fun h => ?_) (fun h => ?_) <;> (first | exact cndT h (by (try dsimp only); omega) | exact cndF h (by (try dsimp only); omega) | (exfalso; simp at h; omega) | simp at h | skip)) | refine kp ?_ ?_ | refine tw ?_ ?_ | refine appnil rfl ?_ | refine rawnil rfl ?_ | exact trivial | refine side2 ?_ | refine sideL2 ?_ | refine Or.inr ?_ | refine sat_drawH (Tryd.ok ..) (by kernel_rfl) ?_ | refine xi _ (And.intro rfl rfl) ?_ | refine xi _ (fun _ => And.intro rfl rfl) ?_ | refine xi _ rfl ?_)
    all_goals exact done_pure rfl rfl rfl
  have hn39 : (c.toNat : Int) ≠ 39 := fun e => h39 (UInt8.toNat_inj.1 (by rw [show (39 : UInt8).toNat = 39 from rfl]; omega))
  by_cases h63 : c = 63
  · have hn : (c.toNat : Int) = 63 := by rw [h63]; rfl
    rw [endQ_two (by rw [← h63]; exact hc)] at hr2
    repeat' ((conv => whnf); first | refine walk (Tryd.ok ..) ?_ | (refine Cnd.mk (fun h => ?_) (fun h => ?_) <;> (first | exact cndT h (by (try dsimp only); omega) | exact cndF h (by (try dsimp only); omega) | (exfalso; simp at h; omega) | simp at h | skip)) | refine kp ?_ ?_ | refine tw ?_ ?_ | refine appnil rfl ?_ | refine rawnil rfl ?_ | exact trivial | refine side2 ?_ | refine sideL2 ?_ | refine Or.inr ?_ | refine sat_drawH (Tryd.ok ..) (by kernel_rfl) ?_ | refine xi _ (And.intro rfl rfl) ?_ | refine xi _ (fun _ => And.intro rfl rfl) ?_ | refine xi _ rfl ?_)
    refine ⟨k + 2, ⟨⟨by omega, fun h => by rw [if_pos (by omega)] at hr2; omega, fun h => by rw [if_neg (by omega)] at hr2; omega⟩, by omega⟩, ?_, ?_, rfl⟩
    all_goals ((repeat' (first | exact trivial | exact rfl | refine And.intro ?_ ?_)) <;> (try (conv => whnf)) <;> (try simp only [SV.real, SV.r2, SV.r1]))
  have hn63 : (c.toNat : Int) ≠ 63 := fun e => h63 (UInt8.toNat_inj.1 (by rw [show (63 : UInt8).toNat = 63 from rfl]; omega))
  rw [endQ_step hc h39 h63] at hr2
  repeat' ((conv => whnf); first | refine walk (Tryd.ok ..) ?_ | (refine Cnd.mk (fun h => ?_) (fun h => ?_) <;> (first | exact cndT h (by (try dsimp only); omega) | exact cndF h (by (try dsimp only); omega) | (exfalso; simp at h; omega) | simp at h | skip)) | refine kp ?_ ?_ | refine tw ?_ ?_ | refine appnil rfl ?_ | refine rawnil rfl ?_ | exact trivial | refine side2 ?_ | refine sideL2 ?_ | refine Or.inr ?_ | refine sat_drawH (Tryd.ok ..) (by kernel_rfl) ?_ | refine xi _ (And.intro rfl rfl) ?_ | refine xi _ (fun _ => And.intro rfl rfl) ?_ | refine xi _ rfl ?_)
  refine ⟨k + 1, ⟨⟨by omega, fun h => by omega, fun h => by omega⟩, by omega⟩, ?_, ?_, rfl⟩
  all_goals ((repeat' (first | exact trivial | exact rfl | refine And.intro ?_ ?_)) <;> (try (conv => whnf)) <;> (try simp only [SV.real, SV.r2, SV.r1]))
end Go.Proofs.YtdejcgmaphmjbaaDoor
