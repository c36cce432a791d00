/-
  A slice of slices among a law's arguments, opened as a nest, what it holds bounded. No walk.
-/
import Derived.Test.YtdejcgmaphmjbaaON
import Derived.Test.YtdejcgmaphmjbaaBK
import Derived.Test.YtdejcgmaphmjbaaRows
set_option linter.unusedSimpArgs false
set_option linter.unusedVariables false
namespace Go.Proofs.Ytdejcgmaphmjbaa
set_option maxRecDepth 100000
open Go.ChangeShapes Go.WideShapes Go.ChangeAt Go.WideMaps Go.WideElems Go.RowKit Sat
section
variable {H : Type} {enc : TypeId × Value → H} {P : Program} {w : World} {base : Nat} {spare : Nat → Bool} {held : Bool}
theorem bulk_mem {d : DataW H} : ∀ {l : List (DataW H)}, d ∈ l → Rows.uptoBulk d ≤ Rows.uptoBulkAll l
  | [], h => by cases h
  | x :: r, h => by
    simp only [Rows.uptoBulkAll]
    rcases List.mem_cons.1 h with rfl | h
    · omega
    · have := bulk_mem h
      omega
theorem bulk_at (j : Nat) {d : DataW H} {l : List (DataW H)} (hk : Rows.uptoSmall H l = true) (h : l[j]? = some d) : Rows.uptoBulk d ≤ 1048576 := by
  have h1 := bulk_mem (List.mem_of_getElem? h)
  have h2 : Rows.uptoBulkAll l ≤ 1048576 := of_decide_eq_true hk
  omega
theorem trod_nestm {α : Type} {R : Lies α} {I : α → Prop} {m1 : α → Nat} {t e : TypeId} {b : Nat} (ht : P.underlying t = some (.slice e)) (hc : P.cellsOf e = 1) (hb : P.bytesOf e = b)
    (each : ∀ n u y, DataW.trod enc P w base spare held n e [u] = some y → Light P e y.1 → ∃ a, R w (fun _ => True) u a ∧ I a ∧ m1 a + 1 ≤ Rows.uptoBulk y.1)
    {n : Nat} {cs : List Value} {y : DataW H × List MemPlace} (h : DataW.trod enc P w base spare held n t cs = some y) (hw : Light P t y.1) :
    ∃ v l, cs = [v] ∧ NestA R w (fun _ => True) v l ∧ (∀ a ∈ l, I a) ∧ l.length * b ≤ 140737488355328 ∧ sumW m1 l + 1 ≤ Rows.uptoBulk y.1 := by
  rcases DataW.trod_slice ht h with ⟨rfl, rfl⟩ | ⟨a, len, cap, elems, rest, m, _, rfl, rfl, hba, hl, hm, hlen, hel, _, _⟩
  · exact ⟨_, [], rfl, ⟨none, none, 0, [], rfl, ⟨fun h => absurd h (by simp)⟩, ⟨Nat.le_refl _, Nat.zero_le _⟩, Ro.nil_ _ _ _, fun _ _ _ => trivial, fun i x a h => (by cases h)⟩, by simp, by simp, by simp [Rows.uptoBulk, sumW]⟩
  · have hwd : (elems.length + rest.length) * b ≤ reachBytes ∧ ∀ z ∈ elems, Light P e z.1 := by
      unfold Light at hw
      dsimp only at hw
      unfold DataW.weights at hw
      rw [ht] at hw
      dsimp only at hw
      rw [List.length_map, List.length_map, hb] at hw
      refine ⟨hw _ List.mem_cons_self, fun z hz x hx => hw x (List.mem_cons_of_mem _ (List.mem_append_left _ (weights_all (List.mem_map_of_mem hz) x hx)))⟩
    obtain ⟨L, hL, hR⟩ := choose_list (α := Value × α) (fun i x => w.cell? (a.add i) = some x.1 ∧ R w (fun _ => True) x.1 x.2 ∧ I x.2 ∧ ∀ z, elems[i]? = some z → m1 x.2 + 1 ≤ Rows.uptoBulk z.1) len (fun i hi => by
      have h1 := hel i hi
      rw [hc, Nat.mul_one, List.getElem?_eq_getElem (by omega)] at h1
      rw [Option.bind_eq_some_iff] at h1
      obtain ⟨cs, h2, h3⟩ := h1
      obtain ⟨_, h4, h5⟩ := World.cells?_some h2
      obtain ⟨u, rfl⟩ : ∃ u, cs = [u] := by
        cases cs with
        | nil => simp at h4
        | cons u r => cases r with
          | nil => exact ⟨u, rfl⟩
          | cons _ _ => simp at h4
      obtain ⟨x, h6, h7, h9⟩ := each _ _ _ h3 (hwd.2 _ (List.getElem_mem _))
      have h8 := h5 0 Nat.one_pos
      refine ⟨(u, x), ?_, h6, h7, fun z hz => by rw [List.getElem?_eq_getElem (by omega)] at hz; cases hz; exact h9⟩
      simpa [Addr.add] using h8)
    have hll : (L.map Prod.snd).length = len := by rw [List.length_map]; exact hL
    have hspot : 0 < len → a.spot = none := fun h0 => by
      have := World.cell?_spot (hR 0 L[0] (List.getElem?_eq_getElem (by omega))).1
      simpa [Addr.add] using this
    refine ⟨_, L.map Prod.snd, rfl, ⟨some a, some (a.block, a.off), cap, L.map Prod.fst, by rw [hll], ⟨fun h0 => ?_⟩, ⟨by rw [hll]; exact hl, hm⟩, ⟨by rw [List.length_map, hll, Nat.mul_one]; exact hL, fun h0 => ⟨_, rfl, ?_, fun j u hu => ?_⟩⟩, fun _ _ _ => trivial, fun i x c hx hy => ?_⟩, fun c hx => ?_, ?_, ?_⟩
    · rw [hll] at h0
      have := hspot h0
      obtain ⟨g, o, s⟩ := a
      simp only at this
      subst this
      rfl
    · rw [hll] at h0
      have h1 := (hR 0 L[0] (List.getElem?_eq_getElem (by omega))).1
      unfold World.cell? at h1
      split at h1
      · rename_i e
        have := heap_lt e
        simpa [Addr.add] using this
      · cases h1
    · rw [hll] at h0
      rw [List.getElem?_map, Option.map_eq_some_iff] at hu
      obtain ⟨z, hz, rfl⟩ := hu
      have h1 := (hR j z hz).1
      have := hspot h0
      obtain ⟨g, o, s⟩ := a
      simp only at this
      subst this
      rw [add_mk] at h1
      exact h1
    · rw [List.getElem?_map, Option.map_eq_some_iff] at hx hy
      obtain ⟨z, hz, rfl⟩ := hx
      obtain ⟨z2, hz2, rfl⟩ := hy
      rw [hz] at hz2
      cases hz2
      exact (hR i z hz).2.1
    · obtain ⟨z, hz, rfl⟩ := List.mem_map.1 hx
      obtain ⟨i, hi⟩ := List.getElem?_of_mem hz
      exact (hR i z hi).2.2.1
    · rw [hll, ← hlen]
      have h1 := hwd.1
      have h2 : elems.length * b ≤ (elems.length + rest.length) * b := Nat.mul_le_mul_right _ (by omega)
      have h3 : reachBytes = 140737488351232 := rfl
      omega
    · have key : ∀ (L : List (Value × α)) (E : List (DataW H × List MemPlace)), L.length = E.length → (∀ (i : Nat) (x : Value × α) (z : DataW H × List MemPlace), L[i]? = some x → E[i]? = some z → m1 x.2 + 1 ≤ Rows.uptoBulk z.1) → sumW m1 (L.map Prod.snd) ≤ Rows.uptoBulkAll (E.map (·.1)) := by
        intro L
        induction L with
        | nil => intro E _ _; exact Nat.zero_le _
        | cons x L ih =>
          intro E hE hz
          cases E with
          | nil => cases hE
          | cons z E =>
            have h1 := hz 0 x z rfl rfl
            have h2 := ih E (by simpa using hE) fun i y z h3 h4 => hz (i + 1) y z h3 h4
            simp only [List.map_cons, sumW, Rows.uptoBulkAll]
            omega
      have h1 := key L elems (by omega) fun i x z h2 h3 => (hR i x h2).2.2.2 z h3
      simp only [Rows.uptoBulk]
      omega
end
section
variable {H : Type} {enc : TypeId × Value → H} {w : World} {base : Nat} {spare : Nat → Bool} {held : Bool}
theorem trodm_str {n : Nat} {u : Value} {y : DataW H × List MemPlace} (h : DataW.trod enc Try.prog w base spare held n 9 [u] = some y) : ∃ s, Text w (fun _ => True) u s ∧ True ∧ mC s + 1 ≤ Rows.uptoBulk y.1 := by
  obtain ⟨s, h1, rfl, h2⟩ := DataW.trod_string Try.underlying9 h
  exact ⟨s, (List.cons.inj h1).1, trivial, by simp only [Rows.uptoBulk]; exact Nat.le_refl _⟩
theorem trodm_strs {n : Nat} {u : Value} {y : DataW H × List MemPlace} (h : DataW.trod enc Try.prog w base spare held n 43 [u] = some y) (hw : Light Try.prog 43 y.1) : ∃ e, NEA w (fun _ => True) u e ∧ e.length * 16 ≤ 140737488355328 ∧ mE e + 1 ≤ Rows.uptoBulk y.1 := by
  obtain ⟨v, l, h1, h2, _, h3, h4⟩ := trod_nestm (R := Text) (I := fun _ => True) (m1 := mC) Try.underlying43 (show Try.prog.cellsOf 9 = 1 by kernel_rfl) (show Try.prog.bytesOf 9 = 16 by kernel_rfl) (fun _ _ _ h _ => trodm_str h) h hw
  cases h1
  exact ⟨l, h2, h3, h4⟩
theorem trodm_seg {n : Nat} {u : Value} {y : DataW H × List MemPlace} (h : DataW.trod enc Try.prog w base spare held n 31 [u] = some y) (hw : Light Try.prog 31 y.1) : ∃ s, NSA w (fun _ => True) u s ∧ ((∀ e ∈ s, e.length * 16 ≤ 140737488355328) ∧ s.length * 24 ≤ 140737488355328) ∧ mS s + 1 ≤ Rows.uptoBulk y.1 := by
  obtain ⟨v, l, h1, h2, h4, h3, h5⟩ := trod_nestm (R := NEA) (I := fun e => e.length * 16 ≤ 140737488355328) (m1 := mE) Try.underlying31 (show Try.prog.cellsOf 43 = 1 by kernel_rfl) (show Try.prog.bytesOf 43 = 24 by kernel_rfl) (fun _ _ _ h hw => trodm_strs h hw) h hw
  cases h1
  exact ⟨l, h2, ⟨h4, h3⟩, h5⟩
theorem sumW_mem {α : Type} (m : α → Nat) : ∀ {l : List α} {x : α}, x ∈ l → m x + 1 ≤ sumW m l
  | [], x, h => by cases h
  | y :: l, x, h => by
    unfold sumW
    rcases List.mem_cons.1 h with rfl | h
    · omega
    · have := sumW_mem m h
      omega
theorem open_segsm {d : DataW H} (hw : Light Try.prog 24 d) (hb : Rows.uptoBulk d ≤ 1048576) {r : Reach} {b0 : Nat} {v : Value} {p : List MemPlace} (hval : Value.okWide Try.prog w r b0 24 v) (h : DataW.Trod enc Try.prog w base spare held 24 v d p) :
    ∃ l, NLA w (fun _ => True) v l ∧ FewL l ∧ ∀ s ∈ l, mS s ≤ 1000000000000 := by
  obtain ⟨fuel, hf⟩ := h
  obtain ⟨a, len, cap, rfl⟩ := okWide_slice Try.underlying24 hval
  simp only [Value.cells] at hf
  obtain ⟨v, l, h1, h2, h4, h3, h5⟩ := trod_nestm (R := NSA) (I := fun s => (∀ e ∈ s, e.length * 16 ≤ 140737488355328) ∧ s.length * 24 ≤ 140737488355328) (m1 := mS) Try.underlying24 (show Try.prog.cellsOf 31 = 1 by kernel_rfl) (show Try.prog.bytesOf 31 = 24 by kernel_rfl) (fun _ _ _ h hw => trodm_seg h hw) hf hw
  cases h1
  exact ⟨l, h2, ⟨h3, fun s hs => (h4 s hs).2, fun s hs => (h4 s hs).1⟩, fun s hs => by
    have := sumW_mem mS hs
    dsimp only at h5
    omega⟩
/-- bytes among a law's arguments -/
theorem open_bytes {d : DataW H} (hw : Light Try.prog 37 d) {r : Reach} {b0 : Nat} {v : Value} {p : List MemPlace} (hval : Value.okWide Try.prog w r b0 37 v) (h : DataW.Trod enc Try.prog w base spare held 37 v d p) :
    ∃ B cB, ∃ bs : List UInt8, v = .slice (adr B) bs.length cB ∧ Ro w B bs.length 1 (uB bs) ∧ bs.length ≤ 9223372036854775807 := by
  have h0 := h
  obtain ⟨A, cap, l, rfl, h2, h3, h4⟩ := open_ints_ro Try.underlying37 Try.underlying5 (show Try.prog.cellsOf 5 = 1 by kernel_rfl) hval h
  obtain ⟨bs, hbs⟩ : ∃ bs : List UInt8, l = bs.map fun b => (b.toNat : Int) := ⟨l.map fun x => UInt8.ofNat x.toNat, by
    rw [List.map_map]
    conv => lhs; rw [← List.map_id l]
    refine List.map_congr_left fun x hx => ?_
    have h5 := h3 x hx
    have h6 : 0 ≤ x ∧ x ≤ 255 := by
      simp [Lit.wf, IntKind.min, IntKind.max, IntKind.signed, IntKind.bits] at h5
      omega
    show x = ((UInt8.ofNat x.toNat).toNat : Int)
    rw [UInt8.toNat_ofNat']
    omega⟩
  subst hbs
  rw [List.length_map] at *
  exact ⟨A, cap, bs, rfl, by rw [List.map_map] at h2; exact h2, Nat.le_trans h4 (by decide)⟩
end
end Go.Proofs.Ytdejcgmaphmjbaa
