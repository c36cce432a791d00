/-
  The call that a text holds, by its pieces between blanks. No program in sight.
-/
import Derived.Test.YtbpklalkoocneaaDoorParse
import Derived.Lib.AtoiAll
import Derived.Test.YtbpklalkoocneaaDoorSatB
set_option linter.unusedSimpArgs false
set_option linter.unusedVariables false
namespace Go.Proofs.YtbpklalkoocneaaDoor
open Go.RowKit Go.PlainAid Go.Lib
def pieces (s : ByteArray) : List ByteArray := splitB ⟨#[32]⟩ 0 (countB s ⟨#[32]⟩) s
theorem pieces_data (s : ByteArray) : (pieces s).map (·.data.toList) = cutAt 32 s.data.toList := by
  unfold pieces
  rw [splitB_data]
  have h : countB s ⟨#[32]⟩ = s.data.toList.count 32 := by
    show count s.data.toList [32] = _
    exact count_one _ _
  rw [h]
  exact split_cut 32 _ _ (Nat.le_refl _)
theorem pieces_len (s : ByteArray) : (pieces s).length = countB s ⟨#[32]⟩ + 1 := splitB_all _ (by show 1 ≤ 1; omega) 0 _ s rfl
theorem pieces_wr {s : ByteArray} {c : Cl} (h1 : rightC c = true) (h2 : wrB c = s) : pieces s = [c.p, itB c.t, itB c.d] := by
  have h := pieces_data s
  rw [← h2, wr_cut h1] at h
  rw [h2] at h
  have hl := congrArg List.length h
  rw [List.length_map] at hl
  match hp : pieces s, hl with
  | [a, b, c'], _ =>
    rw [hp] at h
    simp only [List.map_cons, List.map_nil, List.cons.injEq, and_true] at h
    rw [ba_ext (a := a) (b := c.p) h.1, ba_ext (a := b) (b := itB c.t) (by rw [h.2.1]; simp [itB]), ba_ext (a := c') (b := itB c.d) (by rw [h.2.2]; simp [itB])]
theorem wr_pieces {s p a d : ByteArray} {v1 v2 : Int} (h : pieces s = [p, a, d]) (h1 : itB v1 = a) (h2 : itB v2 = d) : wrB ⟨p, v1, v2⟩ = s := by
  have hd := pieces_data s
  rw [h] at hd
  obtain ⟨e, _⟩ := cutAt_three hd.symm
  apply ba_ext
  rw [wrB_data]
  unfold wrL
  rw [e, ← h1, ← h2]
  simp [itB]
def atN (x : ByteArray) : Int := match atoiAll x.data.toList with
  | .ok v => v
  | .range => atoiSat x.data.toList
  | _ => 0
theorem atoi_cases (l : List UInt8) : (∃ v, atoiAll l = .ok v) ∨ atoiAll l = atoiAll [] ∨ atoiAll l = .range := by
  cases atoiAll l
  all_goals first
  | exact .inl ⟨_, rfl⟩
  | exact .inr (.inl rfl)
  | exact .inr (.inr rfl)
def atF (x : ByteArray) : Bool := match atoiAll x.data.toList with
  | .ok v => itB v == x
  | _ => false
theorem atoi_bd {l : List UInt8} {v : Int} (h : atoiAll l = .ok v) : -9223372036854775808 ≤ v ∧ v ≤ 9223372036854775807 := by
  unfold atoiAll at h
  split at h
  · cases h
  · dsimp only at h
    split at h
    · cases h
    · cases h
    · split at h
      · cases h
      · split at h
        · cases h
        · injection h with h
          split at h <;> omega
theorem at_bd (x : ByteArray) : -9223372036854775808 ≤ atN x ∧ atN x ≤ 9223372036854775807 := by
  unfold atN
  split
  · rename_i h; exact atoi_bd h
  · unfold atoiSat; split <;> omega
  · omega
theorem dv_app (a l : List UInt8) : dv a ≤ dv (a ++ l) := by
  revert a
  intro a
  revert l
  refine snoc_ind (by simp) ?_
  intro l b ih
  rw [← List.append_assoc, dv_snoc]
  omega
theorem parse_dv : ∀ (l a : List UInt8), (∀ b ∈ l, isD b = true) → dv (a ++ l) ≤ 1000000000000 → parseUint10 (dv a) l = .ok (dv (a ++ l)) := by
  intro l
  induction l with
  | nil => intro a _ _; simp [parseUint10]
  | cons c l ih =>
    intro a hd hv
    have hc := hd c (by simp)
    unfold isD at hc
    simp at hc
    have e : a ++ c :: l = (a ++ [c]) ++ l := by simp
    have hs := dv_snoc a c
    have h1 := dv_app (a ++ [c]) l
    rw [e] at hv ⊢
    unfold parseUint10
    rw [if_pos hc, if_neg (by omega), if_neg (by omega), show dv a * 10 + (c.toNat - 48) = dv (a ++ [c]) by omega]
    exact ih _ (fun b hb => hd b (by simp [hb])) hv
theorem atoi_of {n : Int} (h0 : 0 ≤ n) (h1 : n ≤ 100000000) : atoiAll (itoa n) = .ok n := by
  rw [itoa_pos h0]
  have hd := dec_isD n.toNat
  have hn := dec_ne n.toNat
  have hv := dv_dec n.toNat
  have hp := parse_dv (decDigits n.toNat) [] hd (by rw [List.nil_append, hv]; omega)
  rw [List.nil_append, hv] at hp
  cases hl : decDigits n.toNat with
  | nil => exact absurd hl hn
  | cons b r =>
    rw [hl] at hd hp
    have hb := hd b (by simp)
    unfold isD at hb
    simp at hb
    unfold atoiAll
    dsimp only
    rw [if_neg (by omega)]
    unfold parseMag
    rw [if_neg (by simp), show (0 : Nat) = dv [] from rfl, hp]
    dsimp only
    rw [if_neg (by omega), if_neg (by omega), if_neg (by omega)]
    congr 1
    omega
theorem at_itB {n : Int} (h0 : 0 ≤ n) (h1 : n ≤ 100000000) : atN (itB n) = n ∧ atF (itB n) = true := by
  have h : atoiAll (itB n).data.toList = .ok n := by
    show atoiAll (itoa n).toArray.toList = .ok n
    rw [List.toList_toArray]
    exact atoi_of h0 h1
  unfold atN atF
  rw [h]
  exact ⟨rfl, by simp⟩
theorem at_back {x : ByteArray} (h : atF x = true) : itB (atN x) = x := by
  unfold atF atN at *
  split at h
  · rename_i e
    rw [e]
    simpa using h
  · cases h
end Go.Proofs.YtbpklalkoocneaaDoor
