/-
  A quotient of two numbers by digits: what each step leaves. No program in sight.
-/
import Derived.Test.YtomhfakkebaciaaN6
set_option linter.unusedSimpArgs false
set_option linter.unusedVariables false
namespace Go.Proofs.Ytomhfakkebaciaa
open Go.RowKit Go.PlainAid
theorem dgs_mod (k a b : Nat) (h : a % bb ^ k = b % bb ^ k) : dgs k a = dgs k b :=
  nv_inj (B := bb) (by rw [dgs_len, dgs_len]) (dgs_lt _ _) (dgs_lt _ _) (by rw [nv_dgs, nv_dgs, h])
def upd (j : Nat) (u l : List Nat) : List Nat := u.take j ++ l ++ u.drop (j + l.length)
theorem upd_len {j : Nat} {u l : List Nat} (h : j + l.length ≤ u.length) : (upd j u l).length = u.length := by
  unfold upd
  simp only [List.length_append, List.length_take, List.length_drop]
  omega
theorem upd_lt {j : Nat} {u l : List Nat} (hu : ∀ x ∈ u, x < bb) (hl : ∀ x ∈ l, x < bb) : ∀ x ∈ upd j u l, x < bb := by
  intro x hx
  unfold upd at hx
  rcases List.mem_append.1 hx with h | h
  · rcases List.mem_append.1 h with h | h
    · exact hu x (List.mem_of_mem_take h)
    · exact hl x h
  · exact hu x (List.mem_of_mem_drop h)
theorem upd_take {j : Nat} {u l : List Nat} (h : j + l.length ≤ u.length) : (upd j u l).take j = u.take j := by
  unfold upd
  rw [List.append_assoc, List.take_append_of_le_length (by rw [List.length_take]; omega), List.take_of_length_le (by rw [List.length_take]; omega)]
theorem upd_win {j : Nat} {u l : List Nat} (h : j + l.length ≤ u.length) : ((upd j u l).drop j).take l.length = l := by
  unfold upd
  have e : (u.take j).length = j := by rw [List.length_take]; omega
  rw [List.append_assoc]
  conv => lhs; rw [show ∀ q : List Nat, (u.take j ++ q).drop j = q from fun q => by
    have := List.drop_left (l₁ := u.take j) (l₂ := q)
    rw [e] at this
    exact this]
  rw [List.take_left]
theorem upd_drop {j : Nat} {u l : List Nat} (h : j + l.length ≤ u.length) : (upd j u l).drop (j + l.length) = u.drop (j + l.length) := by
  unfold upd
  have e : (u.take j ++ l).length = j + l.length := by rw [List.length_append, List.length_take]; omega
  have := List.drop_left (l₁ := u.take j ++ l) (l₂ := u.drop (j + l.length))
  rw [e] at this
  exact this
theorem upd_upd {j : Nat} {u l m : List Nat} (h : j + l.length ≤ u.length) (hm : m.length = l.length) : upd j (upd j u l) m = upd j u m := by
  have e : upd j (upd j u l) m = (upd j u l).take j ++ m ++ (upd j u l).drop (j + m.length) := rfl
  rw [e, upd_take h, hm, upd_drop h]
  unfold upd
  rw [hm]
theorem nv_upd {j : Nat} {u l : List Nat} (h : j ≤ u.length) : nv bb (upd j u l) = nv bb (u.take j) + bb ^ j * (nv bb l + bb ^ l.length * nv bb (u.drop (j + l.length))) := by
  unfold upd
  rw [List.append_assoc, nv_app, nv_app, List.length_take, Nat.min_eq_left h]
theorem lt_top (y : Nat) {p : Nat} (hp : 0 < p) : y < (y / p + 1) * p := by
  have h1 := Nat.div_add_mod y p
  have h2 := Nat.mod_lt y hp
  rw [Nat.add_mul, Nat.one_mul, Nat.mul_comm (y / p)]
  omega
/-- what a step of the division begins with -/
structure DivAt (x by' V la n t : Nat) (u q : List Nat) : Prop where
  lu : u.length = la + 1
  lq : q.length = la - n + 1
  bu : ∀ z ∈ u, z < bb
  bq : ∀ z ∈ q, z < bb
  zq : ∀ i, i < t → q[i]? = some 0
  sum : nv bb u + V * nv bb q = x * by'
  lt : nv bb u < V * bb ^ t
/-- of the divisor -/
structure DivBy (V n : Nat) : Prop where
  n2 : 2 ≤ n
  len : (dg bb V).length = n
theorem DivBy.lt {V n : Nat} (h : DivBy V n) : V < bb ^ n := by
  have := dg_upper (B := bb) (by decide) V
  rw [h.len] at this
  exact this
theorem DivBy.ge {V n : Nat} (h : DivBy V n) : bb ^ (n - 1) ≤ V := dg_lower (B := bb) (by decide) (by have := h.len; have := h.n2; omega)
theorem DivBy.top {V n : Nat} (h : DivBy V n) : (dg bb V)[n - 1]? = some (V / bb ^ (n - 1)) ∧ 0 < V / bb ^ (n - 1) ∧ V / bb ^ (n - 1) < bb := by
  have h1 := dg_get (B := bb) (by decide) (n - 1) V (by have := h.len; have := h.n2; omega)
  have hp : 0 < bb ^ (n - 1) := Nat.pow_pos (by decide)
  have h2 : V / bb ^ (n - 1) < bb := by
    rw [Nat.div_lt_iff_lt_mul hp, ← Nat.pow_succ', show (n - 1).succ = n by have := h.n2; omega]
    exact h.lt
  rw [Nat.mod_eq_of_lt h2] at h1
  exact ⟨h1, Nat.div_pos h.ge hp, h2⟩
/-- the window of a step -/
structure DivWin (V n j : Nat) (u : List Nat) (W : Nat) : Prop where
  win : nv bb ((u.drop j).take (n + 1)) = W
  len : ((u.drop j).take (n + 1)).length = n + 1
  eq : W = nv bb u / bb ^ j
  lt : W < V * bb
  hi : (u[j + n]?) = some (W / bb ^ n)
  lo : (u[j + n - 1]?) = some (W / bb ^ (n - 1) % bb)
  top : W / bb ^ n * bb + W / bb ^ (n - 1) % bb = W / bb ^ (n - 1)
  hib : W / bb ^ n < bb
  rest : nv bb (u.drop (j + (n + 1))) = 0
theorem div_win {x by' V la n j : Nat} {u q : List Nat} (hV : DivBy V n) (h : DivAt x by' V la n (j + 1) u q) (hj : j + n ≤ la) : DivWin V n j u (nv bb u / bb ^ j) := by
  have hb : (2 : Nat) ≤ bb := by decide
  have hb0 : 0 < bb := by decide
  have h1 : nv bb u < bb ^ (j + (n + 1)) := by
    have h2 : V * bb ^ (j + 1) < bb ^ n * bb ^ (j + 1) := Nat.mul_lt_mul_of_pos_right hV.lt (Nat.pow_pos hb0)
    rw [← Nat.pow_add, show n + (j + 1) = j + (n + 1) by omega] at h2
    exact Nat.lt_trans h.lt h2
  have hu := h.lu
  have h3 := (nv_drop hb h.bu j (by omega)).1
  have h4 := (nv_drop hb h.bu (j + (n + 1)) (by omega)).1
  rw [Nat.div_eq_of_lt h1] at h4
  have h5 : nv bb u / bb ^ j < bb ^ (n + 1) := by
    rw [Nat.div_lt_iff_lt_mul (Nat.pow_pos hb0), ← Nat.pow_add, show n + 1 + j = j + (n + 1) by omega]
    exact h1
  have h6 := (nv_drop hb (l := u.drop j) (fun z hz => h.bu z (List.mem_of_mem_drop hz)) (n + 1) (by rw [List.length_drop]; omega)).2
  rw [h3, Nat.mod_eq_of_lt h5] at h6
  have hn2 := hV.n2
  have h7 : nv bb u / bb ^ j / bb ^ n < bb := by
    rw [Nat.div_lt_iff_lt_mul (Nat.pow_pos hb0), ← Nat.pow_succ']
    exact h5
  have dd : ∀ k, nv bb u / bb ^ j / bb ^ k = nv bb u / bb ^ (j + k) := fun k => by rw [Nat.div_div_eq_div_mul, ← Nat.pow_add]
  refine ⟨h6, by rw [List.length_take, List.length_drop]; omega, rfl, (rest_step hb0 h.lt).1, ?_, ?_, ?_, h7, h4⟩
  · obtain ⟨a, ha⟩ : ∃ a, u[j + n]? = some a := ⟨_, List.getElem?_eq_getElem (by omega)⟩
    have := nv_get hb h.bu ha
    rw [ha, this, ← dd, Nat.mod_eq_of_lt h7]
  · obtain ⟨a, ha⟩ : ∃ a, u[j + n - 1]? = some a := ⟨_, List.getElem?_eq_getElem (by omega)⟩
    have := nv_get hb h.bu ha
    rw [ha, this, show j + n - 1 = j + (n - 1) by omega, ← dd]
  · have := div_split bb (nv bb u / bb ^ j) (n - 1)
    rw [show n - 1 + 1 = n by omega] at this
    rw [Nat.mul_comm]
    exact this.symm
/-- the estimate is not too small -/
theorem div_guess {V n j : Nat} {u : List Nat} {W : Nat} (hV : DivBy V n) (h : DivWin V n j u W) : W / V ≤ min (W / bb ^ (n - 1) / (V / bb ^ (n - 1))) 4294967295 := by
  have hp : 0 < bb ^ (n - 1) := Nat.pow_pos (by decide)
  have h1 : V / bb ^ (n - 1) * bb ^ (n - 1) ≤ V := Nat.div_mul_le_self _ _
  have h2 : W < (W / bb ^ (n - 1) + 1) * bb ^ (n - 1) := by
    exact lt_top _ hp
  have h3 := guess_ge h1 h2 hV.top.2.1
  have h4 : W / V < bb := by
    rw [Nat.div_lt_iff_lt_mul (by have := hV.ge; omega), Nat.mul_comm]
    exact h.lt
  unfold bb at h4
  omega
/-- behind a step -/
theorem div_step {x by' V la n j : Nat} {u q : List Nat} (hV : DivBy V n) (h : DivAt x by' V la n (j + 1) u q) (hj : j + n ≤ la) :
    DivAt x by' V la n j (upd j u (dgs (n + 1) (nv bb u / bb ^ j % V))) (q.set j (nv bb u / bb ^ j / V)) := by
  have hb0 : 0 < bb := by decide
  have hw := div_win hV h hj
  obtain ⟨W, eW⟩ : ∃ W, W = nv bb u / bb ^ j := ⟨_, rfl⟩
  have hr := rest_step hb0 h.lt
  rw [← eW] at hw hr ⊢
  have hl := h.lu
  have hq := h.lq
  have hjl : j + (dgs (n + 1) (W % V)).length ≤ u.length := by rw [dgs_len]; omega
  have hV0 : 0 < V := by have := hV.ge; have : 0 < bb ^ (n - 1) := Nat.pow_pos hb0; omega
  have hWV : W % V < bb ^ (n + 1) := by
    have h1 := Nat.mod_lt W hV0
    have h2 := hV.lt
    have h3 : bb ^ n ≤ bb ^ (n + 1) := Nat.pow_le_pow_right hb0 (by omega)
    omega
  have hval : nv bb (upd j u (dgs (n + 1) (W % V))) = nv bb u % bb ^ j + bb ^ j * (W % V) := by
    rw [nv_upd (by omega), (nv_drop (by decide) h.bu j (by omega)).2, dgs_len, hw.rest, nv_dgs, Nat.mod_eq_of_lt hWV, Nat.mul_zero, Nat.add_zero]
  have hz := h.zq j (by omega)
  have hs := nv_set (B := bb) (x := W / V) hz
  rw [Nat.mul_zero, Nat.add_zero] at hs
  have hqb : W / V < bb := by
    rw [Nat.div_lt_iff_lt_mul hV0, Nat.mul_comm]
    exact hr.1
  refine ⟨by rw [upd_len hjl]; exact hl, by rw [List.length_set]; exact hq, upd_lt h.bu (dgs_lt _ _), all_set h.bq hqb, fun i hi => ?_, ?_, by rw [hval]; exact hr.2.2⟩
  · rw [List.getElem?_set_ne (by omega)]
    exact h.zq i (by omega)
  · have h1 := h.sum
    have h2 : V * (bb ^ j * (W / V)) = bb ^ j * (W / V * V) := by rw [Nat.mul_left_comm, Nat.mul_comm V]
    rw [hval, hs, Nat.mul_add, h2]
    have h3 := hr.2.1
    omega
/-- the two steps of the estimate -/
theorem win_eq {V n W gs : Nat} (h1 : W / V ≤ gs) (h2 : ¬ W < gs * V) (hV : 0 < V) : gs = W / V := by
  have : gs ≤ W / V := by rw [Nat.le_div_iff_mul_le hV]; omega
  omega
theorem win_mod {V n W : Nat} (hV : 0 < V) : dgs (n + 1) (W + bb ^ (n + 1) - W / V * V) = dgs (n + 1) (W % V) := by
  refine dgs_mod _ _ _ ?_
  have h1 := Nat.div_add_mod W V
  rw [Nat.mul_comm] at h1
  rw [show W + bb ^ (n + 1) - W / V * V = W % V + bb ^ (n + 1) by omega, Nat.add_mod_right]
/-- the beginning -/
theorem div_begin {x y la n by' : Nat} (hla : (dg bb x).length = la) (hn : (dg bb y).length = n) (hn2 : 2 ≤ n) (hyx : n ≤ la) (hby : by' = bb / (y / bb ^ (n - 1) + 1)) :
    DivBy (y * by') n ∧ 0 < by' ∧ by' < bb ∧ (dg bb (x * by')).length ≤ la + 1 ∧ DivAt x by' (y * by') la n (la - n + 1) (dg bb (x * by') ++ List.replicate (la + 1 - (dg bb (x * by')).length) 0) (List.replicate (la - n + 1) 0) := by
  have hb0 : 0 < bb := by decide
  have hb2 : (2 : Nat) ≤ bb := by decide
  have hy : DivBy y n := ⟨hn2, hn⟩
  obtain ⟨_, ht0, htb⟩ := hy.top
  have hp : 0 < bb ^ (n - 1) := Nat.pow_pos hb0
  have hb : y < (y / bb ^ (n - 1) + 1) * bb ^ (n - 1) := by
    exact lt_top _ hp
  obtain ⟨h1, h2⟩ := norm_lt (B := bb) hb hby (by omega)
  rw [← Nat.pow_succ', show (n - 1).succ = n by omega] at h1
  have h3 : by' < bb := by
    rw [hby]
    exact Nat.div_lt_self hb0 (by omega)
  have hge : bb ^ (n - 1) ≤ y * by' := Nat.le_trans hy.ge (Nat.le_mul_of_pos_right _ h2)
  have hlen : (dg bb (y * by')).length = n := by
    have h4 := (dg_len hb2 n (y * by')).2 h1
    rcases Nat.lt_or_ge (dg bb (y * by')).length n with h5 | h5
    · have := (dg_len hb2 (n - 1) (y * by')).1 (by omega)
      omega
    · omega
  have hx1 : x < bb ^ la := by rw [← hla]; exact dg_upper hb2 x
  have hx2 : x * by' < bb ^ (la + 1) := by
    rw [Nat.pow_succ]
    exact Nat.lt_of_le_of_lt (Nat.mul_le_mul_left _ (Nat.le_of_lt h3)) (Nat.mul_lt_mul_of_pos_right hx1 hb0)
  have hxl := (dg_len hb2 (la + 1) (x * by')).2 hx2
  refine ⟨⟨hn2, hlen⟩, h2, h3, hxl, ⟨?_, List.length_replicate .., ?_, ?_, fun i hi => by rw [List.getElem?_replicate, if_pos hi], ?_, ?_⟩⟩
  · rw [List.length_append, List.length_replicate]; omega
  · intro z hz
    rcases List.mem_append.1 hz with h | h
    · exact dg_lt hb2 _ z h
    · rw [(List.mem_replicate.1 h).2]; exact hb0
  · intro z hz
    rw [(List.mem_replicate.1 hz).2]; exact hb0
  · rw [nv_rep, nv_app, nv_rep, nv_dg hb2]; omega
  · rw [nv_app, nv_rep, nv_dg hb2, Nat.mul_zero, Nat.add_zero]
    have h4 : x < y * bb ^ (la - n + 1) := by
      have h5 : bb ^ (n - 1) * bb ^ (la - n + 1) ≤ y * bb ^ (la - n + 1) := Nat.mul_le_mul_right _ hy.ge
      rw [← Nat.pow_add, show n - 1 + (la - n + 1) = la by omega] at h5
      omega
    rw [Nat.mul_right_comm]
    exact Nat.mul_lt_mul_of_pos_right h4 h2
/-- the end -/
theorem div_end {x y by' la n : Nat} {u q : List Nat} (hV : DivBy (y * by') n) (h0 : 0 < by') (h : DivAt x by' (y * by') la n 0 u q) (hn : n ≤ la) :
    nv bb q = x / y ∧ nv bb (u.take n) / by' = x % y ∧ (dg bb (x % y)).length ≤ n := by
  have hb2 : (2 : Nat) ≤ bb := by decide
  have hlt := h.lt
  rw [Nat.pow_zero, Nat.mul_one] at hlt
  have hs := h.sum
  have h1 : x * by' / (y * by') = nv bb q := by
    rw [← hs, Nat.add_mul_div_left _ _ (by omega), Nat.div_eq_of_lt hlt, Nat.zero_add]
  have h2 : x * by' % (y * by') = nv bb u := by
    rw [← hs, Nat.add_mul_mod_self_left, Nat.mod_eq_of_lt hlt]
  rw [Nat.mul_div_mul_right _ _ h0] at h1
  rw [Nat.mul_mod_mul_right] at h2
  have h3 := (nv_drop hb2 h.bu n (by have := h.lu; omega)).2
  rw [Nat.mod_eq_of_lt (Nat.lt_trans hlt hV.lt), ← h2] at h3
  refine ⟨h1.symm, by rw [h3, Nat.mul_div_cancel _ h0], ?_⟩
  rw [dg_len hb2]
  have h4 : x % y ≤ nv bb u := by rw [← h2]; exact Nat.le_mul_of_pos_right _ h0
  have := hV.lt
  omega
end Go.Proofs.Ytomhfakkebaciaa
