/-
  Texts of fractions: what is written is read; what differs is not. No program in sight.
-/
import Derived.Test.YtlkhafpkcfdlcaaDoorN20
import Derived.Test.YtlkhafpkcfdlcaaDoorFG
set_option linter.unusedSimpArgs false
set_option linter.unusedVariables false
namespace Go.Proofs.YtlkhafpkcfdlcaaDoor
open Go Go.RowKit Go.PlainAid
theorem sidx_free {c : UInt8} {l : List UInt8} (h : c ∉ l) : Lib.index l [c] = -1 := by
  induction l with
  | nil => rfl
  | cons b l ih =>
    simp only [List.mem_cons, not_or] at h
    have hp : [c].isPrefixOf (b :: l) = false := by simp [List.isPrefixOf, h.1]
    unfold Lib.index
    rw [hp, ih h.2]
    rfl
theorem sidx_app {c : UInt8} {a r : List UInt8} (h : c ∉ a) : Lib.index (a ++ c :: r) [c] = a.length := by
  induction a with
  | nil => simp [Lib.index, List.isPrefixOf]
  | cons b a ih =>
    simp only [List.mem_cons, not_or] at h
    have hp : [c].isPrefixOf (b :: (a ++ c :: r)) = false := by simp [List.isPrefixOf, h.1]
    rw [List.cons_append]
    unfold Lib.index
    rw [hp, ih h.2]
    have : ((a.length : Int) == -1) = false := by simp
    rw [this]
    simp
abbrev bs (l : List UInt8) : ByteArray := ⟨l.toArray⟩
theorem bs_inj {l m : List UInt8} : bs l = bs m ↔ l = m := ⟨fun h => by injection h with h; injection h, fun h => by rw [h]⟩
theorem bs_app (l m : List UInt8) : bs l ++ bs m = bs (l ++ m) := by
  apply ByteArray.ext
  rw [ByteArray.data_append]
  simp
theorem cut_some {a b : List UInt8} (h : (47 : UInt8) ∉ a) : ab (bs (a ++ 47 :: b)) = bs a ∧ be (bs (a ++ 47 :: b)) = bs b ∧ sm (bs (a ++ 47 :: b)) = true := by
  have e : Lib.cut (a ++ 47 :: b) [47] = (a, b, true) := by
    unfold Lib.cut
    rw [sidx_app h, if_pos (by omega), Int.toNat_natCast, List.take_left]
    have : (a ++ 47 :: b).drop (a.length + [(47 : UInt8)].length) = b := by
      rw [← List.drop_drop, List.drop_left]
      rfl
    rw [this]
  unfold ab be sm
  rw [show (bs (a ++ 47 :: b)).data.toList = a ++ 47 :: b from rfl, e]
  exact ⟨rfl, rfl, rfl⟩
theorem cut_no {a : List UInt8} (h : (47 : UInt8) ∉ a) : ab (bs a) = bs a ∧ sm (bs a) = false := by
  have e : Lib.cut a [47] = (a, [], false) := by
    unfold Lib.cut
    rw [sidx_free h, if_neg (by omega)]
  unfold ab sm
  rw [show (bs a).data.toList = a from rfl, e]
  exact ⟨rfl, rfl⟩
theorem pre_of (neg : Bool) {m : List UInt8} (h : m.head? ≠ some 45) : pre (bs ((if neg = true then [45] else []) ++ m)) = bs m ∧ ng (bs ((if neg = true then [45] else []) ++ m)) = neg := by
  unfold pre ng
  cases neg
  · have e : Lib.hasPrefix m [45] = false := by
      cases m with
      | nil => rfl
      | cons a m =>
        have : a ≠ 45 := fun e => h (by rw [e]; rfl)
        simp [Lib.hasPrefix, List.isPrefixOf, Ne.symm this]
    rw [if_neg (by decide), List.nil_append, show (bs m).data.toList = m from rfl]
    unfold Lib.trimPrefix
    rw [e]
    exact ⟨rfl, rfl⟩
  · rw [if_pos rfl, show (bs ([45] ++ m)).data.toList = 45 :: m from rfl]
    have e : Lib.hasPrefix (45 :: m) [45] = true := by simp [Lib.hasPrefix, List.isPrefixOf]
    unfold Lib.trimPrefix
    rw [e]
    exact ⟨rfl, rfl⟩
theorem tx_all (n : Nat) : ∀ c ∈ txL n, isD c = true := by
  have h := digB_tx n
  unfold digB at h
  simp only [Bool.and_eq_true] at h
  exact List.all_eq_true.1 h.2.1
theorem tx_free {n : Nat} {c : UInt8} (h : isD c = false) : c ∉ txL n := fun hc => by
  rw [tx_all n c hc] at h
  cases h
theorem tx_ne (n : Nat) : txL n ≠ [] := by
  have h := digB_tx n
  intro e
  rw [e] at h
  exact absurd h (by decide)
theorem tx_head {n : Nat} {r : List UInt8} {c : UInt8} (h : isD c = false) : (txL n ++ r).head? ≠ some c := by
  have hf := tx_free (n := n) h
  have hn := tx_ne n
  cases ht : txL n with
  | nil => exact absurd ht hn
  | cons a l =>
    rw [ht] at hf
    intro e
    rw [List.cons_append, List.head?_cons] at e
    injection e with e
    exact hf (by rw [e]; exact List.mem_cons_self)
theorem dB_bs (l : List UInt8) : dB (bs l) = digB l := rfl
theorem not_digB {l : List UInt8} {c : UInt8} (hc : c ∈ l) (h : isD c = false) : digB l = false := by
  unfold digB
  have : l.all isD = false := by
    rw [List.all_eq_false]
    exact ⟨c, hc, by rw [h]; decide⟩
  rw [this]
  simp
def dl (d : Nat) : List UInt8 := if d = 1 then [] else 47 :: txL d
def tl (f : Fr) : List UInt8 := (if f.neg = true then [45] else []) ++ (txL f.num ++ dl f.den)
theorem textF_tl (f : Fr) : textF f = bs (tl f) := by
  unfold textF tx1 tl dl txN
  split <;> split
  · rw [show (⟨#[45]⟩ : ByteArray) = bs [45] from rfl, bs_app, List.append_nil]
  · rw [List.nil_append, List.append_nil]
  · rw [show (⟨#[45]⟩ : ByteArray) = bs [45] from rfl, show (⟨#[47]⟩ : ByteArray) = bs [47] from rfl, bs_app, bs_app, bs_app, List.append_assoc, List.singleton_append (x := (47 : UInt8))]
  · rw [show (⟨#[47]⟩ : ByteArray) = bs [47] from rfl, bs_app, bs_app, List.nil_append, List.singleton_append (x := (47 : UInt8))]
theorem slash_no : isD 47 = false := by decide
theorem minus_no : isD 45 = false := by decide
theorem blank_no : isD 32 = false := by decide
theorem tl_parts (f : Fr) : pre (bs (tl f)) = bs (txL f.num ++ dl f.den) ∧ ng (bs (tl f)) = f.neg := pre_of f.neg (tx_head minus_no)
theorem lo_tx (n d : Nat) : ab (bs (txL n ++ dl d)) = bs (txL n) ∧ lo (bs (txL n ++ dl d)) = bs (txL d) := by
  unfold lo dl
  split
  · rename_i h
    subst h
    rw [List.append_nil]
    obtain ⟨h1, h2⟩ := cut_no (tx_free (n := n) slash_no)
    rw [h1, h2]
    exact ⟨rfl, rfl⟩
  · obtain ⟨h1, h2, h3⟩ := cut_some (b := txL d) (tx_free (n := n) slash_no)
    rw [h1, h3, h2]
    exact ⟨rfl, rfl⟩
theorem tx_zero {d : Nat} (h : 0 < d) : txL d ≠ [48] := fun e => by
  have := dval_tx d
  rw [e] at this
  exact absurd this (by simp [dval]; omega)
theorem okS_tx {n d : Nat} (h : 0 < d) : okS (bs (txL n)) (bs (txL d)) = true := by
  unfold okS
  rw [dB_bs, dB_bs, digB_tx, digB_tx]
  have : (bs (txL d) == (⟨#[48]⟩ : ByteArray)) = false := by
    rw [beq_eq_false_iff_ne]
    exact fun e => tx_zero h (bs_inj.1 e)
  rw [this]
  rfl
theorem fits_tx {n : Nat} (h : n < big) : fits (bs (txL n)) = true := by
  unfold fits
  rw [decide_eq_true (show (bs (txL n)).size ≤ 78 from txN_size h), show (bs (txL n)).data.toList = txL n from rfl, dval_tx, decide_eq_true h]
  rfl
theorem rd_tx (neg : Bool) {s : ByteArray} {n d : Nat} (h1 : ng s = neg) (h2 : ab (pre s) = bs (txL n)) (h3 : lo (pre s) = bs (txL d)) : rdF s = (fitF neg n d).1 := by
  unfold rdF
  rw [h1, h2, h3, show (bs (txL n)).data.toList = txL n from rfl, show (bs (txL d)).data.toList = txL d from rfl, dval_tx, dval_tx]
theorem fit_same {f : Fr} (hf : RightP f) (hb : f.num < big ∧ f.den < big) : fitF f.neg f.num f.den = (f, 0) := by
  unfold fitF
  rw [hf.cop, Nat.div_one, Nat.div_one, if_pos hb]
  have : (f.neg && decide (f.num ≠ 0)) = f.neg := by
    cases hn : f.neg
    · rfl
    · rw [decide_eq_true (hf.zero hn)]; rfl
  rw [this]
theorem textE_right {f : Fr} (hf : RightP f) : textE f = (textF f, 0) := by
  unfold textE
  rw [if_pos (right_iff.2 hf)]
/-- what is written is read -/
theorem read_text {f : Fr} (hf : RightP f) (hb : f.num < big ∧ f.den < big) : readE (textF f) = (f, 0) := by
  rw [textF_tl]
  obtain ⟨h1, h2⟩ := tl_parts f
  obtain ⟨h3, h4⟩ := lo_tx f.num f.den
  have h5 := rd_tx f.neg (s := bs (tl f)) h2 (by rw [h1]; exact h3) (by rw [h1]; exact h4)
  rw [fit_same hf hb] at h5
  unfold readE
  rw [h1, h3, h4, okS_tx hf.den, if_pos rfl, fits_tx hb.1, fits_tx hb.2, h5, textE_right hf, textF_tl, if_pos (by rfl), if_pos (by rfl)]
theorem text_inj {f g : Fr} (hf : RightP f) (hg : RightP g) (hb : f.num < big ∧ f.den < big) (hc : g.num < big ∧ g.den < big) : textF f = textF g ↔ f = g := by
  constructor
  · intro h
    have h1 := read_text hf hb
    rw [h, read_text hg hc] at h1
    injection h1 with h1
    exact h1.symm
  · rintro rfl
    rfl
theorem readE_no {s : ByteArray} (h : okS (ab (pre s)) (lo (pre s)) = false) : readE s = (zeroF, 10) := by
  unfold readE
  rw [h]
  rfl
theorem okS_left {a b : ByteArray} (h : dB a = false) : okS a b = false := by unfold okS; rw [h]; rfl
theorem okS_right {a b : ByteArray} (h : dB b = false) : okS a b = false := by unfold okS; rw [h]; simp
/-- a zero ahead -/
theorem read_zero (f : Fr) : readE (bs [48] ++ textF f) = (zeroF, 10) := by
  rw [textF_tl, bs_app, List.singleton_append]
  refine readE_no (okS_left ?_)
  obtain ⟨h1, _⟩ := pre_of false (m := 48 :: tl f) (by simp)
  rw [if_neg (by decide), List.nil_append] at h1
  rw [h1]
  have key : ∀ u : List UInt8, (47 : UInt8) ∉ u → ab (bs (u ++ dl f.den)) = bs u := by
    intro u hu
    unfold dl
    split
    · rw [List.append_nil]; exact (cut_no hu).1
    · exact (cut_some hu).1
  unfold tl
  cases hn : f.neg
  · rw [if_neg (by decide), List.nil_append, ← List.cons_append, key _ (by simp only [List.mem_cons, not_or]; exact ⟨by decide, tx_free slash_no⟩), dB_bs]
    unfold digB
    have h2 : ((48 :: txL f.num) == [48]) = false := by
      rw [beq_eq_false_iff_ne]
      intro e
      injection e with _ e
      exact tx_ne _ e
    rw [h2, List.head?_cons]
    simp
  · rw [if_pos rfl, ← List.append_assoc, ← List.cons_append, key _ (by simp only [List.singleton_append, List.mem_cons, not_or]; exact ⟨by decide, by decide, tx_free slash_no⟩), dB_bs]
    exact not_digB (c := 45) (by simp) minus_no
theorem pre_app (f : Fr) (r : List UInt8) : pre (bs (tl f ++ r)) = bs (txL f.num ++ (dl f.den ++ r)) ∧ ng (bs (tl f ++ r)) = f.neg := by
  unfold tl
  rw [List.append_assoc, List.append_assoc]
  exact pre_of f.neg (tx_head minus_no)
/-- a blank behind -/
theorem read_blank (f : Fr) : readE (textF f ++ bs [32]) = (zeroF, 10) := by
  rw [textF_tl, bs_app]
  refine readE_no ?_
  rw [(pre_app f _).1]
  unfold dl
  split
  · refine okS_left ?_
    rw [List.nil_append, (cut_no (a := txL f.num ++ [32]) (by simp only [List.mem_append, List.mem_singleton, not_or]; exact ⟨tx_free slash_no, by decide⟩)).1, dB_bs]
    exact not_digB (c := 32) (by simp) blank_no
  · refine okS_right ?_
    obtain ⟨_, h2, h3⟩ := cut_some (b := txL f.den ++ [32]) (tx_free (n := f.num) slash_no)
    unfold lo
    rw [List.cons_append, h3, if_pos rfl, h2, dB_bs]
    exact not_digB (c := 32) (by simp) blank_no
/-- a denominator of 1 behind -/
theorem read_one {f : Fr} (hf : RightP f) (hb : f.num < big ∧ f.den < big) : readE (textF f ++ bs [47, 49]) = (zeroF, if f.den = 1 then 11 else 10) := by
  rw [textF_tl, bs_app]
  by_cases h : f.den = 1
  · rw [if_pos h]
    obtain ⟨h1, h2⟩ := pre_app f [47, 49]
    have e1 : dl f.den = [] := by unfold dl; rw [if_pos h]
    rw [e1, List.nil_append] at h1
    obtain ⟨h3, h4, h5⟩ := cut_some (b := [49]) (tx_free (n := f.num) slash_no)
    have e2 : lo (bs (txL f.num ++ [47, 49])) = bs (txL 1) := by
      unfold lo
      rw [h5, if_pos rfl, h4]
      rfl
    have h6 := rd_tx f.neg (s := bs (tl f ++ [47, 49])) h2 (by rw [h1]; exact h3) (by rw [h1]; exact e2)
    have h7 := fit_same hf hb
    rw [h] at h7
    rw [h7] at h6
    unfold readE
    rw [h1, h3, e2, okS_tx (by omega), if_pos rfl, fits_tx hb.1, fits_tx (by decide), h6, textE_right hf, textF_tl]
    have : bs (tl f) ≠ bs (tl f ++ [47, 49]) := fun e => by
      have := congrArg List.length (bs_inj.1 e)
      rw [List.length_append] at this
      exact absurd this (by show ¬ (tl f).length = (tl f).length + 2; omega)
    rw [if_pos (by rfl), if_neg this]
  · rw [if_neg h]
    refine readE_no (okS_right ?_)
    rw [(pre_app f _).1]
    have e1 : dl f.den = 47 :: txL f.den := by unfold dl; rw [if_neg h]
    obtain ⟨_, h2, h3⟩ := cut_some (b := txL f.den ++ [47, 49]) (tx_free (n := f.num) slash_no)
    unfold lo
    rw [e1, List.cons_append, h3, if_pos rfl, h2, dB_bs]
    exact not_digB (c := 47) (by simp) slash_no
theorem has_slash (f : Fr) : Lib.contains (textF f).data.toList [47] = decide (f.den ≠ 1) := by
  rw [textF_tl, show (bs (tl f)).data.toList = tl f from rfl]
  unfold Lib.contains tl dl
  have h1 : (47 : UInt8) ∉ (if f.neg = true then [(45 : UInt8)] else []) ++ txL f.num := by
    rw [List.mem_append, not_or]
    refine ⟨?_, tx_free slash_no⟩
    split <;> simp
  by_cases h : f.den = 1
  · rw [if_pos h, List.append_nil, sidx_free h1]
    simp [h]
  · rw [if_neg h, ← List.append_assoc, sidx_app h1, decide_eq_true (by omega), decide_eq_true h]
end Go.Proofs.YtlkhafpkcfdlcaaDoor
