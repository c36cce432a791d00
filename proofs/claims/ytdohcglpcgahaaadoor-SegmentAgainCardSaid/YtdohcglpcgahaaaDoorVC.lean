/-
  A nest of one's own in which strings are written over.
-/
import Derived.Test.YtdohcglpcgahaaaDoorNR
set_option linter.unusedSimpArgs false
set_option linter.unusedVariables false
namespace Go.Proofs.YtdohcglpcgahaaaDoor
open Go Sat Go.RowKit Go.PlainAid
def isStr : Value → Bool
  | .string _ => true
  | _ => false
/-- the blocks are as in another world, but for strings where strings were -/
def StrMod (w0 : World) (gs : List Nat) : World → Prop := fun w => ∀ g, g ∈ gs → ∀ cur ty, w0.heap[g]? = some (.cells cur ty (0, 0)) → ∃ cur' : Array Value, w.heap[g]? = some (.cells cur' ty (0, 0)) ∧ cur'.size = cur.size ∧
  ∀ (i : Nat) (x : Value), cur[i]? = some x → ∃ y, cur'[i]? = some y ∧ isStr y = isStr x ∧ (isStr x = false → y = x)
theorem strMod_refl (w : World) (gs : List Nat) : StrMod w gs w := fun g _ cur ty h => ⟨cur, h, rfl, fun i x hx => ⟨x, hx, rfl, fun _ => rfl⟩⟩
theorem strMod_stay {w0 w w' : World} {gs : List Nat} (h : StrMod w0 gs w) (hk : ∀ g, g ∈ gs → w'.heap[g]? = w.heap[g]?) : StrMod w0 gs w' := fun g hg cur ty hc => by
  obtain ⟨cur', h1, h2⟩ := h g hg cur ty hc
  exact ⟨cur', (hk g hg).trans h1, h2⟩
/-- what is known of an entry is told less of -/
theorem sat_less {cx : Cx} {c : Code} {K : Exit → Env → Heap → Prop} {f : Env} {H : Heap} (d : Nat) {w0 : World} {gs : List Nat} (hf : hfind H d = some (.own gs (Frz w0 gs))) (h : Sat cx c K f ((d, .own gs (StrMod w0 gs)) :: hdel H d)) : Sat cx c K f H := by
  refine ⟨fun a w hfit hw => h.out a w hfit ?_⟩
  have ho : (HB.own gs (Frz w0 gs)).holds cx w := hw.at_ hf
  refine hw.turn d _ (Keep.refl _ _ _) ⟨ho.1, strMod_stay (strMod_refl w0 gs) ho.2.1, fun w' hk => strMod_stay (strMod_stay (strMod_refl w0 gs) ho.2.1) hk⟩ fun x hx g hg => ⟨rfl, fun hm => ?_⟩
  exact hw.sep _ _ _ _ (hdel_mem hx).1 (hfind_mem hf) (hdel_mem hx).2 g hg hm
theorem mod_of {cx : Cx} {H : Heap} {d : Nat} {w0 : World} {gs : List Nat} (hf : hfind H d = some (.own gs (StrMod w0 gs))) {w : World} (hw : Holds cx H w) : StrMod w0 gs w := by
  have h : (HB.own gs (StrMod w0 gs)).holds cx w := hw.at_ hf
  exact h.2.1
theorem cell_in {w : World} {g o : Nat} {cur : Array Value} {ty : TypeId} {fr : Nat × Nat} (h : w.heap[g]? = some (.cells cur ty fr)) : w.cell? ⟨g, o, none⟩ = cur[o]? := by
  unfold World.cell?
  rw [h]
  rfl
/-- a cell that is no string is read -/
theorem mod_at {cx : Cx} {A : Option (Nat × Nat)} {n d : Nat} {w0 : World} {gs : List Nat} {xs : List Value} {k : Nat} {i : Int} {x : Value} (h : Ro w0 A n 1 xs) (hB : ∀ p, A = some p → 0 < n → p.1 ∈ gs ∧ Cells0 w0 p.1) (hx : xs[k]? = some x) (hns : isStr x = false) (hi : i = k) {H : Heap} (hf : hfind H d = some (.own gs (StrMod w0 gs))) : ∀ (w : World), Holds cx H w → w.cell? (adAt (adr A) (mulS i.toNat 1)) = some x := by
  intro w hw
  have hk : k < xs.length := (List.getElem?_eq_some_iff.1 hx).1
  rw [h.1] at hk
  obtain ⟨p, rfl, hl, hc⟩ := h.2 (by omega)
  have h2 := hc k x hx
  obtain ⟨hg, cur, ty, hcell⟩ := hB p rfl (by omega)
  obtain ⟨cur', h3, h4, h5⟩ := mod_of hf hw p.1 hg cur ty hcell
  rw [cell_in hcell] at h2
  obtain ⟨y, h6, h7, h8⟩ := h5 _ x h2
  rw [mulS_eq, hi, Int.toNat_natCast, Nat.mul_one, ad_some, cell_in h3, h6, h8 hns]
/-- a string is written over another one -/
theorem mod_store {cx : Cx} {A : Option (Nat × Nat)} {n d T : Nat} {w0 : World} {gs : List Nat} {xs : List Value} {k : Nat} {i : Int} {x : Value} {H : Heap} {K : SV → Heap → Prop} {s : ByteArray} (h : Ro w0 A n 1 xs) (hB : ∀ p, A = some p → 0 < n → p.1 ∈ gs ∧ Cells0 w0 p.1) (hx : xs[k]? = some x) (hns : isStr x = true) (hi : i = k)
    (hT : ∃ j, tfind cx.T T = some j ∧ j.size = 1) (hf : hfind H d = some (.own gs (StrMod w0 gs))) (hk : K (.v undef) ((d, .own gs (StrMod w0 gs)) :: hdel H d)) : RawStore cx H T (.v (.pointer (some (adAt (adr A) (mulS i.toNat 1))))) (.v (.string s)) K := by
  have hk2 : k < xs.length := (List.getElem?_eq_some_iff.1 hx).1
  rw [h.1] at hk2
  obtain ⟨p, rfl, hl, hc⟩ := h.2 (by omega)
  have h2 := hc k x hx
  obtain ⟨hg, cur, ty, hcell⟩ := hB p rfl (by omega)
  rw [cell_in hcell] at h2
  have had : adAt (adr (some p)) (mulS i.toNat 1) = ⟨p.1, p.2 + k, none⟩ := by rw [mulS_eq, hi, Int.toNat_natCast, Nat.mul_one, ad_some]
  rw [had]
  refine ⟨.inr ⟨p.1, p.2 + k, d, gs, _, StrMod w0 gs, rfl, hT, rfl, hf, hg, fun w hw => ?_, fun w cur2 ty2 hw hc2 ho g hg2 cur3 ty3 h3 => ?_, fun w w' hw hk => strMod_stay hw hk, hk⟩⟩
  · obtain ⟨cur', h3, h4, h5⟩ := mod_of hf hw p.1 hg cur ty hcell
    refine ⟨cur', ty, h3, ?_⟩
    rw [h4]
    exact (Array.getElem?_eq_some_iff.1 h2).1
  · obtain ⟨cur', h4, h5, h6⟩ := mod_of hf hw g hg2 cur3 ty3 h3
    by_cases hgp : g = p.1
    · subst hgp
      rw [hcell] at h3
      cases h3
      rw [hc2] at h4
      cases h4
      refine ⟨(cur2.toList.set (p.2 + k) (SV.v (.string s)).r1).toArray, setRow_heap w p.1 _ _ _ _ hc2, by simp [h5], fun j y hy => ?_⟩
      by_cases hj : j = p.2 + k
      · subst hj
        rw [h2] at hy
        cases hy
        refine ⟨.string s, ?_, (show isStr (.string s) = true from rfl).trans hns.symm, fun h => by rw [hns] at h; cases h⟩
        simp only [List.getElem?_toArray]
        rw [List.getElem?_set_self (by simpa using ho)]
        rfl
      · obtain ⟨z, h7, h8⟩ := h6 j y hy
        refine ⟨z, ?_, h8⟩
        rw [← h7]
        simp [List.getElem?_set, Ne.symm hj]
    · exact ⟨cur', by rw [setRow_other w p.1 g _ hgp]; exact h4, h5, h6⟩
end Go.Proofs.YtdohcglpcgahaaaDoor
