/-
  The walks of the route package's reference: a number at the beginning of a text.
-/
import Derived.Test.YtbpklalkoocneaaDoorS
import Derived.Test.YtbpklalkoocneaaDoorNum
namespace Go.Proofs.YtbpklalkoocneaaDoor
open Go Sat Go.RowKit Go.PlainAid
set_option linter.unusedSimpArgs false
set_option linter.unusedVariables false
theorem isD_iff {b : UInt8} : isD b = true ↔ 48 ≤ b.toNat ∧ b.toNat ≤ 57 := by unfold isD; simp
def nTo (s : ByteArray) (k : Nat) : Nat := dv ((digs s.data.toList).take k)
theorem nTo_succ {s : ByteArray} {k : Nat} {b : UInt8} (h : (digs s.data.toList)[k]? = some b) : nTo s (k + 1) = 10 * nTo s k + (b.toNat - 48) := by
  unfold nTo
  rw [List.take_add_one, h]
  exact dv_snoc _ _
theorem nTo_small (s : ByteArray) {k : Nat} (h : k ≤ 10) : nTo s k ≤ 9999999999 :=
  dv_small (fun b hb => digs_all _ b (List.mem_of_mem_take hb)) (by rw [List.length_take]; omega)
theorem numBad {s : ByteArray} (h : badD (digs s.data.toList) = true) : numN s = 0 ∧ numK s = 0 := by unfold numN numK; rw [if_pos h, if_pos h]; exact ⟨rfl, rfl⟩
theorem numGood {s : ByteArray} (h : badD (digs s.data.toList) = false) : numN s = nTo s (digs s.data.toList).length ∧ numK s = (digs s.data.toList).length := by
  unfold numN numK nTo
  rw [h, List.take_length]
  exact ⟨rfl, rfl⟩
theorem head48 {s : ByteArray} (h : 0 < (digs s.data.toList).length) : bt s 0 = 48 ↔ (digs s.data.toList).head? = some 48 := by
  obtain ⟨b, hb⟩ : ∃ b, (digs s.data.toList)[0]? = some b := ⟨_, List.getElem?_eq_getElem h⟩
  have hbt := bt_at (by rw [← digs_get h]; exact hb)
  rw [List.head?_eq_getElem?, hb, hbt]
  simp only [Option.some.injEq]
  constructor
  · intro e
    exact UInt8.toNat_inj.1 (show b.toNat = (48 : UInt8).toNat by simp; omega)
  · rintro rfl
    rfl
theorem digs_stop {s : ByteArray} (h : (digs s.data.toList).length < s.size) : bt s (digs s.data.toList).length < 48 ∨ 57 < bt s (digs s.data.toList).length := by
  obtain ⟨b, hb, hn⟩ := digs_end (l := s.data.toList) (by simpa using h)
  rw [bt_at hb]
  rw [← Bool.not_eq_true, isD_iff] at hn
  omega
set_option maxRecDepth 100000 in
set_option maxHeartbeats 8000000 in
theorem number_any (s : ByteArray) (w : World) (hs : s.size ≤ 9223372036854775807) : Calls Tryd.prog 53 #[.string s] w fun e w' => e = .returned (.tuple #[.int .i64 (numN s), .int .i64 (numK s)]) ∧ Below w.heap.size w w' := by
  refine calls_sat (cx := Tryd.cx 45 [] [] [] w) (Tryd.ok ..) Tryd.func53 rfl [.v (.string s)] rfl (by show 1 ≤ 45; omega) [] (holds_nil (Nat.le_refl _)) ?_
  repeat' ((conv => whnf); first
    | refine walk (Tryd.ok ..) ?_
    | refine walk (COk.with_ (Tryd.ok ..) _ _) ?_
    | refine walk (COk.with_ (COk.with_ (Tryd.ok ..) _ _) _ _) ?_
    | (refine Cnd.mk (fun h => ?_) (fun h => ?_) <;> (first | (exfalso; simp only [decide_eq_true_eq, decide_eq_false_iff_not, Bool.not_eq_true', Bool.not_eq_false'] at h; omega) | (exfalso; simp at h; omega) | simp at h | skip))
    | refine And.intro (Kept.mk ?_) ?_
    | refine Two.mk (And.intro ?_ ?_)
    | exact trivial
    | refine side ?_
    | refine sideL ?_
    | refine Or.inr ?_
    | refine sat_drawH (Tryd.ok ..) (by kernel_rfl) ?_
    | refine sat_drawH (COk.with_ (Tryd.ok ..) _ _) (by kernel_rfl) ?_
    | refine sat_drawH (COk.with_ (COk.with_ (Tryd.ok ..) _ _) _ _) (by kernel_rfl) ?_
    | refine Exists.intro [_] (And.intro (one_byte rfl) ?_)
    | refine Exists.intro [_] (And.intro (fun _ => one_byte rfl) ?_)
    | refine Exists.intro _ (And.intro (And.intro rfl rfl) ?_)
    | refine Exists.intro _ (And.intro (fun _ => And.intro rfl rfl) ?_)
    | refine Exists.intro _ (And.intro rfl ?_))
  have hsz : s.data.toList.length = s.size := by simp
  refine sat_loop (Tryd.ok ..) (α := Nat) (fun x => ([(0, .yes, .v (.string s)), (4, .yes, .v (.int .i64 (nTo s x))), (5, .yes, .v (.int .i64 x))], [])) (fun x => x ≤ (digs s.data.toList).length ∧ x ≤ 10 ∧ (1 < x → (digs s.data.toList).head? ≠ some 48)) (fun x => s.size - x) (fun _ => rfl) ?_ ?_
  · refine ⟨0, ⟨by omega, by omega, fun h => absurd h (by omega)⟩, ?_, ?_, rfl⟩
    all_goals ((repeat' (first | exact trivial | exact rfl | refine And.intro ?_ ?_)) <;> (try (conv => whnf)) <;> (try simp only [SV.real, SV.r2, SV.r1]))
  rintro x ⟨hx, hx10, hz⟩
  have hle := digs_le s.data.toList
  have hsm := nTo_small s hx10
  by_cases hx1 : x < (digs s.data.toList).length
  · obtain ⟨b, hb⟩ : ∃ b, (digs s.data.toList)[x]? = some b := ⟨_, List.getElem?_eq_getElem hx1⟩
    have hbt := bt_at (by rw [← digs_get hx1]; exact hb)
    have hbd := isD_iff.1 (digs_all _ b (List.mem_of_getElem? hb))
    have hn := nTo_succ hb
    have h48 : 48 ≤ bt s x := by omega
    have h57 : bt s x ≤ 57 := by omega
    have hxs : x < s.size := by omega
    have hcast : ((nTo s (x + 1) : Nat) : Int) = 10 * (nTo s x : Nat) + bt s x - 48 := by omega
    have h0 := head48 (s := s) (by omega)
    repeat' ((conv => whnf); first
      | refine walk (Tryd.ok ..) ?_
      | refine walk (COk.with_ (Tryd.ok ..) _ _) ?_
      | refine walk (COk.with_ (COk.with_ (Tryd.ok ..) _ _) _ _) ?_
      | (refine Cnd.mk (fun h => ?_) (fun h => ?_) <;> (first | (exfalso; simp only [decide_eq_true_eq, decide_eq_false_iff_not, Bool.not_eq_true', Bool.not_eq_false'] at h; omega) | (exfalso; simp at h; omega) | simp at h | skip))
      | refine And.intro (Kept.mk ?_) ?_
      | refine Two.mk (And.intro ?_ ?_)
      | exact trivial
      | refine side ?_
      | refine sideL ?_
      | refine Or.inr ?_
      | refine sat_drawH (Tryd.ok ..) (by kernel_rfl) ?_
      | refine sat_drawH (COk.with_ (Tryd.ok ..) _ _) (by kernel_rfl) ?_
      | refine sat_drawH (COk.with_ (COk.with_ (Tryd.ok ..) _ _) _ _) (by kernel_rfl) ?_
      | refine Exists.intro [_] (And.intro (one_byte rfl) ?_)
      | refine Exists.intro [_] (And.intro (fun _ => one_byte rfl) ?_)
      | refine Exists.intro _ (And.intro (And.intro rfl rfl) ?_)
      | refine Exists.intro _ (And.intro (fun _ => And.intro rfl rfl) ?_)
      | refine Exists.intro _ (And.intro rfl ?_))
    · have hbad : badD (digs s.data.toList) = true := by
        unfold badD
        rcases h with h | h
        · rw [decide_eq_true (by omega)]; rfl
        · rw [decide_eq_true (show 1 < (digs s.data.toList).length by omega), h0.1 h.2]; simp
      obtain ⟨e1, e2⟩ := numBad hbad
      exact done_pure rfl rfl (by rw [e1, e2]; rfl)
    · refine ⟨x + 1, ⟨⟨by omega, by omega, fun h1 => ?_⟩, by omega⟩, ?_, ?_, rfl⟩
      · intro e
        exact h.2 (by omega) (h0.2 e)
      · dsimp only
        rw [hcast]
        ((repeat' (first | exact trivial | exact rfl | refine And.intro ?_ ?_)) <;> (try (conv => whnf)) <;> (try simp only [SV.real, SV.r2, SV.r1]))
      · ((repeat' (first | exact trivial | exact rfl | refine And.intro ?_ ?_)) <;> (try (conv => whnf)) <;> (try simp only [SV.real, SV.r2, SV.r1]))
  · obtain rfl : x = (digs s.data.toList).length := by omega
    have hstop := digs_stop (s := s)
    repeat' ((conv => whnf); first
      | refine walk (Tryd.ok ..) ?_
      | refine walk (COk.with_ (Tryd.ok ..) _ _) ?_
      | refine walk (COk.with_ (COk.with_ (Tryd.ok ..) _ _) _ _) ?_
      | (refine Cnd.mk (fun h => ?_) (fun h => ?_) <;> (first | (exfalso; simp only [decide_eq_true_eq, decide_eq_false_iff_not, Bool.not_eq_true', Bool.not_eq_false'] at h; omega) | (exfalso; simp at h; omega) | simp at h | skip))
      | refine And.intro (Kept.mk ?_) ?_
      | refine Two.mk (And.intro ?_ ?_)
      | exact trivial
      | refine side ?_
      | refine sideL ?_
      | refine Or.inr ?_
      | refine sat_drawH (Tryd.ok ..) (by kernel_rfl) ?_
      | refine sat_drawH (COk.with_ (Tryd.ok ..) _ _) (by kernel_rfl) ?_
      | refine sat_drawH (COk.with_ (COk.with_ (Tryd.ok ..) _ _) _ _) (by kernel_rfl) ?_
      | refine Exists.intro [_] (And.intro (one_byte rfl) ?_)
      | refine Exists.intro [_] (And.intro (fun _ => one_byte rfl) ?_)
      | refine Exists.intro _ (And.intro (And.intro rfl rfl) ?_)
      | refine Exists.intro _ (And.intro (fun _ => And.intro rfl rfl) ?_)
      | refine Exists.intro _ (And.intro rfl ?_))
    have hbad : badD (digs s.data.toList) = false := by
      unfold badD
      rw [decide_eq_false (by omega)]
      cases h1 : decide (1 < (digs s.data.toList).length)
      · rfl
      · have := hz (of_decide_eq_true h1)
        simpa using this
    obtain ⟨e1, e2⟩ := numGood hbad
    exact done_pure rfl rfl (by rw [e1, e2]; rfl)
end Go.Proofs.YtbpklalkoocneaaDoor

