/-
  The walks of the reference: a number is read. The walks of the reference: a text is read. The walks of the reference: a text is read.
-/
import Derived.Test.YtmekcdjaafegaaaGreatDoorRF
import Derived.Test.YtmekcdjaafegaaaGreatDoorN18
import Derived.Test.YtmekcdjaafegaaaGreatDoorFW
set_option linter.unusedSimpArgs false
set_option linter.unusedVariables false
namespace Go.Proofs.YtmekcdjaafegaaaGreatDoor
section
open Go Sat Go.RowKit Go.PlainAid
set_option linter.unusedSimpArgs false
set_option linter.unusedVariables false
theorem bt_at {s : ByteArray} {k : Nat} {b : UInt8} (h : s.data.toList[k]? = some b) : bt s k = (b.toNat : Int) := by
  have hk : k < s.size := by
    have := (List.getElem?_eq_some_iff.1 h).1
    simpa using this
  unfold bt
  rw [dif_pos hk]
  have : s.data.toList[k]'(by simpa using hk) = b := (List.getElem?_eq_some_iff.1 h).2
  rw [← this]
  rfl
theorem fold_ge : ∀ (m : List UInt8) (v : Nat), v ≤ m.foldl (fun v c => 10 * v + (c.toNat - 48)) v
  | [], v => Nat.le_refl v
  | c :: m, v => Nat.le_trans (by omega) (fold_ge m (10 * v + (c.toNat - 48)))
theorem dval_mono (l : List UInt8) (k : Nat) : dval (l.take k) ≤ dval l := by
  have h : dval l = (l.drop k).foldl (fun v c => 10 * v + (c.toNat - 48)) (dval (l.take k)) := by
    unfold dval
    rw [← List.foldl_append, List.take_append_drop]
  rw [h]
  exact fold_ge _ _
theorem dB_nil : dB ⟨#[]⟩ = false := rfl
theorem dB_iff {s : ByteArray} (h0 : s ≠ ⟨#[]⟩) : dB s = true ↔ (∀ c ∈ s.data.toList, isD c = true) ∧ (s = ⟨#[48]⟩ ∨ bt s 0 ≠ 48) := by
  obtain ⟨⟨l⟩⟩ := s
  cases l with
  | nil => exact absurd rfl h0
  | cons a l =>
    have e5 : bt (⟨⟨a :: l⟩⟩ : ByteArray) 0 = (a.toNat : Int) := rfl
    have e6 : ((⟨⟨a :: l⟩⟩ : ByteArray) = ⟨#[48]⟩) ↔ a :: l = [48] := ba_eq
    have e7 : (a.toNat : Int) ≠ 48 ↔ a ≠ 48 := by
      constructor
      · rintro h rfl; exact h rfl
      · intro h e
        exact h (UInt8.toNat_inj.1 (show a.toNat = 48 by omega))
    rw [e5, e6, e7]
    unfold dB digB
    simp only [List.isEmpty_cons, Bool.not_false, Bool.true_and, Bool.and_eq_true, Bool.or_eq_true, beq_iff_eq, bne_iff_ne, List.head?_cons, ne_eq, Option.some.injEq, List.all_eq_true]
theorem len_pos {s : ByteArray} (h0 : s ≠ ⟨#[]⟩) : 0 < s.size := Nat.pos_of_ne_zero fun h => h0 (ba_eq.2 (List.eq_nil_of_length_eq_zero h))
set_option maxRecDepth 100000 in
set_option maxHeartbeats 8000000 in
theorem rnumber_no (s : ByteArray) (w : World) (hs : s.size ≤ 4294967280) (hd : dB s = false) :
    Calls Tryz.prog 45 #[.string s] w fun e w' => e = .returned (.tuple #[.slice none 0 0, .int .i64 1]) ∧ Below w.heap.size w w' := by
  refine calls_sat (cx := Tryz.cx 53 [12, 13] [] [] w) (Tryz.ok ..) Tryz.func45 rfl [.v (.string s)] rfl (by show 1 ≤ 53; omega) [] (holds_nil (Nat.le_refl _)) ?_
  by_cases h0 : s = ⟨#[]⟩
  · subst h0
    repeat' ((conv => whnf); first | refine walk (Tryz.ok ..) ?_ | (refine Cnd.mk (fun h => ?_) (fun h => ?_) <;> (first | exact cndT h (by (try dsimp only); omega) | exact cndF h (by (try dsimp only); omega) | (exfalso; simp at h; omega) | simp at h | skip)) | refine side2 ?_ | fail)
    exact done_pure rfl rfl rfl
  have hl := len_pos h0
  have hsz : s.data.toList.length = s.size := by simp
  have hiff := dB_iff h0
  repeat' ((conv => whnf); first | refine walk (Tryz.ok ..) ?_ | (refine Cnd.mk (fun h => ?_) (fun h => ?_) <;> (first | exact cndT h (by (try dsimp only); omega) | exact cndF h (by (try dsimp only); omega) | (exfalso; simp at h; omega) | simp at h | skip)) | refine side2 ?_ | fail)
  · exact done_pure rfl rfl rfl
  have hor : s = ⟨#[48]⟩ ∨ bt s 0 ≠ 48 := by
    by_cases h1 : bt s 0 = 48
    · exact .inl (h.2 h1)
    · exact .inr h1
  refine sat_loop (Tryz.ok ..) (α := Nat) (fun k => ([(0, .yes, .v (.string s)), (4, .yes, .v (.int .i64 k))], [])) (fun k => k ≤ s.size ∧ ∀ i b, i < k → s.data.toList[i]? = some b → isD b = true) (fun k => s.size - k) (fun _ => rfl) ?_ ?_
  · refine ⟨0, ⟨Nat.zero_le _, fun i b hi _ => absurd hi (Nat.not_lt_zero _)⟩, ?_, ?_, rfl⟩
    all_goals ((repeat' (first | exact trivial | exact rfl | refine And.intro ?_ ?_)) <;> (try (conv => whnf)) <;> (try simp only [SV.real, SV.r2, SV.r1]))
  rintro k ⟨hk, hkd⟩
  by_cases hks : k < s.size
  · obtain ⟨b, hb⟩ : ∃ b, s.data.toList[k]? = some b := ⟨_, List.getElem?_eq_getElem (show k < s.data.toList.length by omega)⟩
    have hbt := bt_at hb
    by_cases hbd : isD b = true
    · have hc := isD_iff.1 hbd
      have e1 : 48 ≤ bt s k := by omega
      have e2 : bt s k ≤ 57 := by omega
      repeat' ((conv => whnf); first | refine walk (Tryz.ok ..) ?_ | (refine Cnd.mk (fun h => ?_) (fun h => ?_) <;> (first | exact cndT h (by (try dsimp only); omega) | exact cndF h (by (try dsimp only); omega) | (exfalso; simp at h; omega) | simp at h | skip)) | refine side2 ?_ | refine sideL2 ?_ | fail)
      refine ⟨k + 1, ⟨⟨by omega, fun i b' hi hb' => ?_⟩, by omega⟩, ?_, ?_, rfl⟩
      · rcases Nat.lt_or_ge i k with h1 | h1
        · exact hkd i b' h1 hb'
        · obtain rfl : i = k := by omega
          rw [hb] at hb'
          injection hb' with hb'
          rw [← hb']
          exact hbd
      · ((repeat' (first | exact trivial | exact rfl | refine And.intro ?_ ?_)) <;> (try (conv => whnf)) <;> (try simp only [SV.real, SV.r2, SV.r1]))
      · ((repeat' (first | exact trivial | exact rfl | refine And.intro ?_ ?_)) <;> (try (conv => whnf)) <;> (try simp only [SV.real, SV.r2, SV.r1]))
    · have hc : bt s k < 48 ∨ 57 < bt s k := by
        have := mt isD_iff.2 hbd
        omega
      repeat' ((conv => whnf); first | refine walk (Tryz.ok ..) ?_ | (refine Cnd.mk (fun h => ?_) (fun h => ?_) <;> (first | exact cndT h (by (try dsimp only); omega) | exact cndF h (by (try dsimp only); omega) | (exfalso; simp at h; omega) | simp at h | skip)) | refine side2 ?_ | fail)
      exact done_pure rfl rfl rfl
  · exfalso
    have : dB s = true := hiff.2 ⟨fun c hc => by
      obtain ⟨i, hi, rfl⟩ := List.mem_iff_getElem.1 hc
      exact hkd i _ (by omega) (List.getElem?_eq_getElem hi), hor⟩
    rw [this] at hd
    cases hd
theorem dg16 {n : Nat} : (dg b6 n).length ≤ 16 ↔ n < big := by
  have := dg_len (B := b6) b6_2 16 n
  rw [← big_b6] at this
  exact this
set_option maxRecDepth 100000 in
set_option maxHeartbeats 8000000 in
theorem rnumber_any (s : ByteArray) (w : World) (hs : s.size ≤ 4294967280) (hd : dB s = true) (hv : dval s.data.toList < big) :
    Calls Tryz.prog 45 #[.string s] w fun e w' => ∃ v, e = .returned (.tuple #[v, .int .i64 0]) ∧ w'.ownsRow w.heap.size 3 1 v (dg b6 (dval s.data.toList)).length (iv (dg b6 (dval s.data.toList))) ∧ Below w.heap.size w w' := by
  have h0 : s ≠ ⟨#[]⟩ := fun e => by rw [e] at hd; cases hd
  have hl := len_pos h0
  have hsz : s.data.toList.length = s.size := by simp
  obtain ⟨hall, hor⟩ := (dB_iff h0).1 hd
  refine calls_sat (cx := Tryz.cx 53 [12, 13] [] [] w) (Tryz.ok ..) Tryz.func45 rfl [.v (.string s)] rfl (by show 1 ≤ 53; omega) [] (holds_nil (Nat.le_refl _)) ?_
  repeat' ((conv => whnf); first | refine walk (Tryz.ok ..) ?_ | (refine Cnd.mk (fun h => ?_) (fun h => ?_) <;> (first | exact cndT h (by (try dsimp only); omega) | exact cndF h (by (try dsimp only); omega) | (exfalso; simp at h; omega) | simp at h | skip)) | refine side2 ?_ | fail)
  · exact (h.elim (fun e => h0 e) (fun e => hor.elim e.2 (fun e' => e' e.1))).elim
  refine sat_loop (Tryz.ok ..) (α := Nat) (fun k => ([(0, .yes, .v (.string s)), (4, .yes, .v (.int .i64 k))], [])) (fun k => k ≤ s.size ∧ ∀ i b, i < k → s.data.toList[i]? = some b → isD b = true) (fun k => s.size - k) (fun _ => rfl) ?_ ?_
  · refine ⟨0, ⟨Nat.zero_le _, fun i b hi _ => absurd hi (Nat.not_lt_zero _)⟩, ?_, ?_, rfl⟩
    all_goals ((repeat' (first | exact trivial | exact rfl | refine And.intro ?_ ?_)) <;> (try (conv => whnf)) <;> (try simp only [SV.real, SV.r2, SV.r1]))
  rintro k ⟨hk, hkd⟩
  by_cases hks : k < s.size
  · obtain ⟨b, hb⟩ : ∃ b, s.data.toList[k]? = some b := ⟨_, List.getElem?_eq_getElem (show k < s.data.toList.length by omega)⟩
    have hbt := bt_at hb
    have hbd : isD b = true := hall b (List.mem_of_getElem? hb)
    have hc := isD_iff.1 hbd
    have e1 : 48 ≤ bt s k := by omega
    have e2 : bt s k ≤ 57 := by omega
    repeat' ((conv => whnf); first | refine walk (Tryz.ok ..) ?_ | (refine Cnd.mk (fun h => ?_) (fun h => ?_) <;> (first | exact cndT h (by (try dsimp only); omega) | exact cndF h (by (try dsimp only); omega) | (exfalso; simp at h; omega) | simp at h | skip)) | refine side2 ?_ | refine sideL2 ?_ | fail)
    refine ⟨k + 1, ⟨⟨by omega, fun i b' hi hb' => ?_⟩, by omega⟩, ?_, ?_, rfl⟩
    · rcases Nat.lt_or_ge i k with h1 | h1
      · exact hkd i b' h1 hb'
      · obtain rfl : i = k := by omega
        rw [hb] at hb'
        injection hb' with hb'
        rw [← hb']
        exact hbd
    · ((repeat' (first | exact trivial | exact rfl | refine And.intro ?_ ?_)) <;> (try (conv => whnf)) <;> (try simp only [SV.real, SV.r2, SV.r1]))
    · ((repeat' (first | exact trivial | exact rfl | refine And.intro ?_ ?_)) <;> (try (conv => whnf)) <;> (try simp only [SV.real, SV.r2, SV.r1]))
  obtain rfl : k = s.size := by omega
  repeat' ((conv => whnf); first | refine walk (Tryz.ok ..) ?_ | (refine Cnd.mk (fun h => ?_) (fun h => ?_) <;> (first | exact cndT h (by (try dsimp only); omega) | exact cndF h (by (try dsimp only); omega) | (exfalso; simp at h; omega) | simp at h | skip)) | fail)
  obtain ⟨l, el⟩ : ∃ l, l = s.data.toList := ⟨_, rfl⟩
  rw [← el] at hsz hall hv
  try rw [← el]
  refine sat_loop (Tryz.ok ..) (α := Nat × Option (Nat × Nat) × Nat) (fun t => ([(0, .yes, .v (.string s)), (5, .yes, .o 48 t.2.1 (dg b6 (dval (l.take t.1))).length t.2.2), (6, .yes, .v (.int .i64 t.1))], [(48, .row t.2.1 3 1 (dg b6 (dval (l.take t.1))).length t.2.2 (iv (dg b6 (dval (l.take t.1)))))]))
    (fun t => t.1 ≤ l.length ∧ dval (l.take t.1) < big) (fun t => l.length - t.1) (fun _ => rfl) ?_ ?_
  · refine ⟨(0, none, 0), ⟨Nat.zero_le _, by show (0 : Nat) < big; decide⟩, ?_, ?_, rfl⟩
    all_goals ((repeat' (first | exact trivial | exact rfl | refine And.intro ?_ ?_)) <;> (try (conv => whnf)) <;> (try simp only [SV.real, SV.r2, SV.r1]))
  rintro ⟨k, A, cap⟩ ⟨hk, hkb⟩
  dsimp only at hk hkb ⊢
  by_cases hks : k < l.length
  · obtain ⟨b, hb⟩ : ∃ b, l[k]? = some b := ⟨_, List.getElem?_eq_getElem hks⟩
    have hbt := bt_at (s := s) (k := k) (b := b) (by rw [← el]; exact hb)
    have hc := isD_iff.1 (hall b (List.mem_of_getElem? hb))
    have hvt := dval_take hb
    have hmono := dval_mono l (k + 1)
    obtain ⟨d, hdd⟩ : ∃ d, d = b.toNat - 48 := ⟨_, rfl⟩
    obtain ⟨V, hV⟩ : ∃ V, V = dval (l.take k) := ⟨_, rfl⟩
    rw [← hV] at hkb hvt ⊢
    rw [← hdd] at hvt
    have e1 : 48 ≤ bt s k := by omega
    have e2 : bt s k ≤ 57 := by omega
    have e3 : bt s k = 48 + (d : Int) := by omega
    have hks2 : k < s.size := by omega
    have hVl := dg16.2 hkb
    have hd4 : (dg b6 d).length ≤ 1 := (dg_len b6_2 1 d).2 (by rw [Nat.pow_one]; show d < 65536; omega)
    have hm17 : (dg b6 (V * 10)).length ≤ 17 := (dg_len b6_2 17 (V * 10)).2 (by
      have h1 : b6 ^ 17 = b6 ^ 16 * 65536 := Nat.pow_succ ..
      rw [h1, ← big_b6]
      omega)
    repeat' ((conv => whnf); first | refine walk (Tryz.ok ..) ?_ | (refine Cnd.mk (fun h => ?_) (fun h => ?_) <;> (first | exact cndT h (by (try dsimp only); omega) | exact cndF h (by (try dsimp only); omega) | (exfalso; simp at h; omega) | simp at h | skip)) | fail)
    refine sat_draw (Tryz.ok ..) [] [(48, .row A 3 1 (dg b6 V).length cap (iv (dg b6 V)))] (by kernel_rfl) (fun w hw => hw.sub ?_) ?_
    · ((repeat' (first | exact trivial | exact rfl | refine And.intro ?_ ?_)) <;> (try (conv => whnf)) <;> (try simp only [SV.real, SV.r2, SV.r1]))
    repeat' ((conv => whnf); first | refine side2 ?_ | refine sideL2 ?_ | fail)
    refine called_row 41 (xs := iv (dg b6 (V * 10))) (m := (dg b6 (V * 10)).length) (fun v => v) (fun A cap => .o 41 A (dg b6 (V * 10)).length cap) (fun _ _ => rfl) (fun w' hh => by exact rscale_any V 10 A cap w' (by omega) (ro_of_row hh (id := 48) rfl) (by omega)) ?_
    intro A1 c1
    repeat' ((conv => whnf); first | refine kp ?_ ?_ | exact trivial | refine side2 ?_ | fail)
    refine called_args [.v (.int .u64 (d : Int))] (congrArg (fun x => [Value.int .u64 x]) (by first | (show (d : Int) = bt s k - 48; omega) | (show bt s k - 48 = (d : Int); omega))) ?_
    refine called_row 47 (xs := iv (dg b6 d)) (m := (dg b6 d).length) (fun v => v) (fun A cap => .o 47 A (dg b6 d).length cap) (fun _ _ => rfl) (fun w' hh => by exact whole_any d w' (by omega)) ?_
    intro A2 c2
    repeat' ((conv => whnf); first | refine kp ?_ ?_ | exact trivial | refine side2 ?_ | fail)
    refine called_row 49 (xs := iv (dg b6 (V * 10 + d))) (m := (dg b6 (V * 10 + d)).length) (fun v => v) (fun A cap => .o 49 A (dg b6 (V * 10 + d)).length cap) (fun _ _ => rfl) (fun w' hh => by exact radd_any (V * 10) d A1 A2 c1 c2 w' (ro_of_row hh (id := 41) rfl) (ro_of_row hh (id := 47) rfl) (by omega) (by omega)) ?_
    intro A3 c3
    repeat' ((conv => whnf); first | refine walk (Tryz.ok ..) ?_ | refine kp ?_ ?_ | exact trivial | refine side2 ?_ | fail)
    refine sat_ren [(0, .yes, .v (.string s)), (5, .yes, .o 48 A3 (dg b6 (V * 10 + d)).length c3), (6, .yes, .v (.int .i64 k))] [(48, 49, .row A3 3 1 (dg b6 (V * 10 + d)).length c3 (iv (dg b6 (V * 10 + d))))] ?_ rfl rfl rfl ?_ ?_
    · rfl
    · ((repeat' (first | exact trivial | exact rfl | refine And.intro ?_ ?_)) <;> (try (conv => whnf)) <;> (try simp only [SV.real, SV.r2, SV.r1]))
    refine sat_ops (Tryz.ok ..) ?_
    have hl16 : (dg b6 (V * 10 + d)).length ≤ 16 := dg16.2 (by omega)
    repeat' ((conv => whnf); first | refine walk (Tryz.ok ..) ?_ | (refine Cnd.mk (fun h => ?_) (fun h => ?_) <;> (first | exact cndT h (by (try dsimp only); omega) | exact cndF h (by (try dsimp only); omega) | (exfalso; simp at h; omega) | simp at h | skip)) | refine sideL2 ?_ | fail)
    refine ⟨(k + 1, A3, c3), ⟨⟨hks, by dsimp only; omega⟩, by dsimp only; omega⟩, ?_, ?_, rfl⟩
    · dsimp only
      rw [hvt, Nat.mul_comm 10 V]
      ((repeat' (first | exact trivial | exact rfl | refine And.intro ?_ ?_)) <;> (try (conv => whnf)) <;> (try simp only [SV.real, SV.r2, SV.r1]))
    · dsimp only
      rw [hvt, Nat.mul_comm 10 V]
      ((repeat' (first | exact trivial | exact rfl | refine And.intro ?_ ?_)) <;> (try (conv => whnf)) <;> (try simp only [SV.real, SV.r2, SV.r1]))
  · obtain rfl : k = l.length := by omega
    rw [List.take_length]
    repeat' ((conv => whnf); first | refine walk (Tryz.ok ..) ?_ | (refine Cnd.mk (fun h => ?_) (fun h => ?_) <;> (first | exact cndT h (by (try dsimp only); omega) | exact cndF h (by (try dsimp only); omega) | (exfalso; simp at h; omega) | simp at h | skip)) | fail)
    exact done_row (mk := fun v => .tuple #[v, .int .i64 0]) rfl rfl 48 A cap rfl rfl
set_option maxRecDepth 100000 in
set_option maxHeartbeats 8000000 in
theorem rnumber_big (s : ByteArray) (w : World) (hs : s.size ≤ 4294967280) (hd : dB s = true) (hv : big ≤ dval s.data.toList) :
    Calls Tryz.prog 45 #[.string s] w fun e w' => e = .returned (.tuple #[.slice none 0 0, .int .i64 2]) ∧ Below w.heap.size w w' := by
  have h0 : s ≠ ⟨#[]⟩ := fun e => by rw [e] at hd; cases hd
  have hl := len_pos h0
  have hsz : s.data.toList.length = s.size := by simp
  obtain ⟨hall, hor⟩ := (dB_iff h0).1 hd
  refine calls_sat (cx := Tryz.cx 53 [12, 13] [] [] w) (Tryz.ok ..) Tryz.func45 rfl [.v (.string s)] rfl (by show 1 ≤ 53; omega) [] (holds_nil (Nat.le_refl _)) ?_
  repeat' ((conv => whnf); first | refine walk (Tryz.ok ..) ?_ | (refine Cnd.mk (fun h => ?_) (fun h => ?_) <;> (first | exact cndT h (by (try dsimp only); omega) | exact cndF h (by (try dsimp only); omega) | (exfalso; simp at h; omega) | simp at h | skip)) | refine side2 ?_ | fail)
  · exact (h.elim (fun e => h0 e) (fun e => hor.elim e.2 (fun e' => e' e.1))).elim
  refine sat_loop (Tryz.ok ..) (α := Nat) (fun k => ([(0, .yes, .v (.string s)), (4, .yes, .v (.int .i64 k))], [])) (fun k => k ≤ s.size ∧ ∀ i b, i < k → s.data.toList[i]? = some b → isD b = true) (fun k => s.size - k) (fun _ => rfl) ?_ ?_
  · refine ⟨0, ⟨Nat.zero_le _, fun i b hi _ => absurd hi (Nat.not_lt_zero _)⟩, ?_, ?_, rfl⟩
    all_goals ((repeat' (first | exact trivial | exact rfl | refine And.intro ?_ ?_)) <;> (try (conv => whnf)) <;> (try simp only [SV.real, SV.r2, SV.r1]))
  rintro k ⟨hk, hkd⟩
  by_cases hks : k < s.size
  · obtain ⟨b, hb⟩ : ∃ b, s.data.toList[k]? = some b := ⟨_, List.getElem?_eq_getElem (show k < s.data.toList.length by omega)⟩
    have hbt := bt_at hb
    have hbd : isD b = true := hall b (List.mem_of_getElem? hb)
    have hc := isD_iff.1 hbd
    have e1 : 48 ≤ bt s k := by omega
    have e2 : bt s k ≤ 57 := by omega
    repeat' ((conv => whnf); first | refine walk (Tryz.ok ..) ?_ | (refine Cnd.mk (fun h => ?_) (fun h => ?_) <;> (first | exact cndT h (by (try dsimp only); omega) | exact cndF h (by (try dsimp only); omega) | (exfalso; simp at h; omega) | simp at h | skip)) | refine side2 ?_ | refine sideL2 ?_ | fail)
    refine ⟨k + 1, ⟨⟨by omega, fun i b' hi hb' => ?_⟩, by omega⟩, ?_, ?_, rfl⟩
    · rcases Nat.lt_or_ge i k with h1 | h1
      · exact hkd i b' h1 hb'
      · obtain rfl : i = k := by omega
        rw [hb] at hb'
        injection hb' with hb'
        rw [← hb']
        exact hbd
    · ((repeat' (first | exact trivial | exact rfl | refine And.intro ?_ ?_)) <;> (try (conv => whnf)) <;> (try simp only [SV.real, SV.r2, SV.r1]))
    · ((repeat' (first | exact trivial | exact rfl | refine And.intro ?_ ?_)) <;> (try (conv => whnf)) <;> (try simp only [SV.real, SV.r2, SV.r1]))
  obtain rfl : k = s.size := by omega
  repeat' ((conv => whnf); first | refine walk (Tryz.ok ..) ?_ | (refine Cnd.mk (fun h => ?_) (fun h => ?_) <;> (first | exact cndT h (by (try dsimp only); omega) | exact cndF h (by (try dsimp only); omega) | (exfalso; simp at h; omega) | simp at h | skip)) | fail)
  obtain ⟨l, el⟩ : ∃ l, l = s.data.toList := ⟨_, rfl⟩
  rw [← el] at hsz hall hv
  try rw [← el]
  refine sat_loop (Tryz.ok ..) (α := Nat × Option (Nat × Nat) × Nat) (fun t => ([(0, .yes, .v (.string s)), (5, .yes, .o 48 t.2.1 (dg b6 (dval (l.take t.1))).length t.2.2), (6, .yes, .v (.int .i64 t.1))], [(48, .row t.2.1 3 1 (dg b6 (dval (l.take t.1))).length t.2.2 (iv (dg b6 (dval (l.take t.1)))))]))
    (fun t => t.1 ≤ l.length ∧ dval (l.take t.1) < big) (fun t => l.length - t.1) (fun _ => rfl) ?_ ?_
  · refine ⟨(0, none, 0), ⟨Nat.zero_le _, by show (0 : Nat) < big; decide⟩, ?_, ?_, rfl⟩
    all_goals ((repeat' (first | exact trivial | exact rfl | refine And.intro ?_ ?_)) <;> (try (conv => whnf)) <;> (try simp only [SV.real, SV.r2, SV.r1]))
  rintro ⟨k, A, cap⟩ ⟨hk, hkb⟩
  dsimp only at hk hkb ⊢
  by_cases hks : k < l.length
  · obtain ⟨b, hb⟩ : ∃ b, l[k]? = some b := ⟨_, List.getElem?_eq_getElem hks⟩
    have hbt := bt_at (s := s) (k := k) (b := b) (by rw [← el]; exact hb)
    have hc := isD_iff.1 (hall b (List.mem_of_getElem? hb))
    have hvt := dval_take hb
    have hmono := dval_mono l (k + 1)
    obtain ⟨d, hdd⟩ : ∃ d, d = b.toNat - 48 := ⟨_, rfl⟩
    obtain ⟨V, hV⟩ : ∃ V, V = dval (l.take k) := ⟨_, rfl⟩
    rw [← hV] at hkb hvt ⊢
    rw [← hdd] at hvt
    have e1 : 48 ≤ bt s k := by omega
    have e2 : bt s k ≤ 57 := by omega
    have e3 : bt s k = 48 + (d : Int) := by omega
    have hks2 : k < s.size := by omega
    have hVl := dg16.2 hkb
    have hd4 : (dg b6 d).length ≤ 1 := (dg_len b6_2 1 d).2 (by rw [Nat.pow_one]; show d < 65536; omega)
    have hm17 : (dg b6 (V * 10)).length ≤ 17 := (dg_len b6_2 17 (V * 10)).2 (by
      have h1 : b6 ^ 17 = b6 ^ 16 * 65536 := Nat.pow_succ ..
      rw [h1, ← big_b6]
      omega)
    repeat' ((conv => whnf); first | refine walk (Tryz.ok ..) ?_ | (refine Cnd.mk (fun h => ?_) (fun h => ?_) <;> (first | exact cndT h (by (try dsimp only); omega) | exact cndF h (by (try dsimp only); omega) | (exfalso; simp at h; omega) | simp at h | skip)) | fail)
    refine sat_draw (Tryz.ok ..) [] [(48, .row A 3 1 (dg b6 V).length cap (iv (dg b6 V)))] (by kernel_rfl) (fun w hw => hw.sub ?_) ?_
    · ((repeat' (first | exact trivial | exact rfl | refine And.intro ?_ ?_)) <;> (try (conv => whnf)) <;> (try simp only [SV.real, SV.r2, SV.r1]))
    repeat' ((conv => whnf); first | refine side2 ?_ | refine sideL2 ?_ | fail)
    refine called_row 41 (xs := iv (dg b6 (V * 10))) (m := (dg b6 (V * 10)).length) (fun v => v) (fun A cap => .o 41 A (dg b6 (V * 10)).length cap) (fun _ _ => rfl) (fun w' hh => by exact rscale_any V 10 A cap w' (by omega) (ro_of_row hh (id := 48) rfl) (by omega)) ?_
    intro A1 c1
    repeat' ((conv => whnf); first | refine kp ?_ ?_ | exact trivial | refine side2 ?_ | fail)
    refine called_args [.v (.int .u64 (d : Int))] (congrArg (fun x => [Value.int .u64 x]) (by first | (show (d : Int) = bt s k - 48; omega) | (show bt s k - 48 = (d : Int); omega))) ?_
    refine called_row 47 (xs := iv (dg b6 d)) (m := (dg b6 d).length) (fun v => v) (fun A cap => .o 47 A (dg b6 d).length cap) (fun _ _ => rfl) (fun w' hh => by exact whole_any d w' (by omega)) ?_
    intro A2 c2
    repeat' ((conv => whnf); first | refine kp ?_ ?_ | exact trivial | refine side2 ?_ | fail)
    refine called_row 49 (xs := iv (dg b6 (V * 10 + d))) (m := (dg b6 (V * 10 + d)).length) (fun v => v) (fun A cap => .o 49 A (dg b6 (V * 10 + d)).length cap) (fun _ _ => rfl) (fun w' hh => by exact radd_any (V * 10) d A1 A2 c1 c2 w' (ro_of_row hh (id := 41) rfl) (ro_of_row hh (id := 47) rfl) (by omega) (by omega)) ?_
    intro A3 c3
    repeat' ((conv => whnf); first | refine walk (Tryz.ok ..) ?_ | refine kp ?_ ?_ | exact trivial | refine side2 ?_ | fail)
    refine sat_ren [(0, .yes, .v (.string s)), (5, .yes, .o 48 A3 (dg b6 (V * 10 + d)).length c3), (6, .yes, .v (.int .i64 k))] [(48, 49, .row A3 3 1 (dg b6 (V * 10 + d)).length c3 (iv (dg b6 (V * 10 + d))))] ?_ rfl rfl rfl ?_ ?_
    · rfl
    · ((repeat' (first | exact trivial | exact rfl | refine And.intro ?_ ?_)) <;> (try (conv => whnf)) <;> (try simp only [SV.real, SV.r2, SV.r1]))
    refine sat_ops (Tryz.ok ..) ?_
    by_cases hbg : V * 10 + d < big
    · have hl16 : (dg b6 (V * 10 + d)).length ≤ 16 := dg16.2 (by omega)
      repeat' ((conv => whnf); first | refine walk (Tryz.ok ..) ?_ | (refine Cnd.mk (fun h => ?_) (fun h => ?_) <;> (first | exact cndT h (by (try dsimp only); omega) | exact cndF h (by (try dsimp only); omega) | (exfalso; simp at h; omega) | simp at h | skip)) | refine sideL2 ?_ | fail)
      refine ⟨(k + 1, A3, c3), ⟨⟨hks, by dsimp only; omega⟩, by dsimp only; omega⟩, ?_, ?_, rfl⟩
      · dsimp only
        rw [hvt, Nat.mul_comm 10 V]
        ((repeat' (first | exact trivial | exact rfl | refine And.intro ?_ ?_)) <;> (try (conv => whnf)) <;> (try simp only [SV.real, SV.r2, SV.r1]))
      · dsimp only
        rw [hvt, Nat.mul_comm 10 V]
        ((repeat' (first | exact trivial | exact rfl | refine And.intro ?_ ?_)) <;> (try (conv => whnf)) <;> (try simp only [SV.real, SV.r2, SV.r1]))
    · have hl16 : ¬ (dg b6 (V * 10 + d)).length ≤ 16 := mt dg16.1 hbg
      repeat' ((conv => whnf); first | refine walk (Tryz.ok ..) ?_ | (refine Cnd.mk (fun h => ?_) (fun h => ?_) <;> (first | exact cndT h (by (try dsimp only); omega) | exact cndF h (by (try dsimp only); omega) | (exfalso; simp at h; omega) | simp at h | skip)) | fail)
      exact done_pure rfl rfl rfl
  · obtain rfl : k = l.length := by omega
    rw [List.take_length] at hkb
    omega
end
section
open Go Sat Go.RowKit Go.PlainAid
set_option linter.unusedSimpArgs false
set_option linter.unusedVariables false
/-- what the reference's number answers, and the value of its digits -/
def numC (s : ByteArray) : Int := if dB s = true then if dval s.data.toList < big then 0 else 2 else 1
def numV (s : ByteArray) : Nat := if dB s = true then if dval s.data.toList < big then dval s.data.toList else 0 else 0
theorem num_cases (s : ByteArray) : (dB s = false ∧ numC s = 1 ∧ numV s = 0) ∨ (dB s = true ∧ big ≤ dval s.data.toList ∧ numC s = 2 ∧ numV s = 0) ∨ (dB s = true ∧ dval s.data.toList < big ∧ numC s = 0 ∧ numV s = dval s.data.toList) := by
  unfold numC numV
  cases h : dB s
  · exact .inl ⟨rfl, rfl, rfl⟩
  · by_cases h2 : dval s.data.toList < big
    · rw [if_pos rfl, if_pos h2, if_pos rfl, if_pos h2]
      exact .inr (.inr ⟨rfl, h2, rfl, rfl⟩)
    · rw [if_pos rfl, if_neg h2, if_pos rfl, if_neg h2]
      exact .inr (.inl ⟨rfl, by omega, rfl, rfl⟩)
theorem num_lt (s : ByteArray) : numV s < big := by
  have hb : 0 < big := by decide
  rcases num_cases s with ⟨_, _, h⟩ | ⟨_, _, _, h⟩ | ⟨_, h1, _, h⟩ <;> omega
theorem rnumber_all (s : ByteArray) (w : World) (hs : s.size ≤ 4294967280) :
    Calls Tryz.prog 45 #[.string s] w fun e w' => ∃ v, e = .returned (.tuple #[v, .int .i64 (numC s)]) ∧ w'.ownsRow w.heap.size 3 1 v (dg b6 (numV s)).length (iv (dg b6 (numV s))) ∧ Below w.heap.size w w' := by
  rcases num_cases s with ⟨h1, h2, h3⟩ | ⟨h1, h0, h2, h3⟩ | ⟨h1, h0, h2, h3⟩
  · rw [h2, h3]
    exact (rnumber_no s w hs h1).mono fun e w' ⟨h, b⟩ => ⟨.slice none 0 0, h, ⟨rfl, .inl ⟨rfl, rfl⟩⟩, b⟩
  · rw [h2, h3]
    exact (rnumber_big s w hs h1 h0).mono fun e w' ⟨h, b⟩ => ⟨.slice none 0 0, h, ⟨rfl, .inl ⟨rfl, rfl⟩⟩, b⟩
  · rw [h2, h3]
    exact rnumber_any s w hs h1 h0
/-- digits without a zero ahead that are many mean a great number -/
theorem fold_pow : ∀ (m : List UInt8) (v : Nat), v * 10 ^ m.length ≤ m.foldl (fun v c => 10 * v + (c.toNat - 48)) v
  | [], v => by simp
  | c :: m, v => by
    have h := fold_pow m (10 * v + (c.toNat - 48))
    refine Nat.le_trans ?_ h
    rw [List.length_cons, Nat.pow_succ, Nat.mul_comm (10 ^ m.length) 10, ← Nat.mul_assoc, Nat.mul_comm v 10]
    exact Nat.mul_le_mul_right _ (Nat.le_add_right _ _)
theorem fits_dB {s : ByteArray} (h : dB s = true) : fits s = decide (dval s.data.toList < big) := by
  unfold fits
  by_cases h2 : dval s.data.toList < big
  · rw [decide_eq_true h2, Bool.and_true]
    refine decide_eq_true ?_
    obtain ⟨⟨l⟩⟩ := s
    show l.length ≤ 78
    have h2 : dval l < big := h2
    rcases Nat.lt_or_ge 78 l.length with h3 | h3
    · exfalso
      unfold dB digB at h
      cases l with
      | nil => cases h
      | cons a m =>
        simp only [List.isEmpty_cons, Bool.not_false, Bool.true_and, Bool.and_eq_true, Bool.or_eq_true, beq_iff_eq, bne_iff_ne, List.head?_cons, ne_eq, Option.some.injEq] at h
        have ha := isD_iff.1 (List.all_eq_true.1 h.1 a List.mem_cons_self)
        have hm : m ≠ [] := fun e => by rw [e] at h3; simp at h3
        have h4 : a ≠ 48 := by
          rcases h.2 with h4 | h4
          · injection h4 with _ h5; exact absurd h5 hm
          · exact h4
        have h5 : a.toNat ≠ 48 := fun e => h4 (UInt8.toNat_inj.1 e)
        have h6 := fold_pow m (10 * 0 + (a.toNat - 48))
        have h7 : 10 ^ 78 ≤ 10 ^ m.length := Nat.pow_le_pow_right (by decide) (by simp at h3; omega)
        have h8 : 1 * 10 ^ m.length ≤ (10 * 0 + (a.toNat - 48)) * 10 ^ m.length := Nat.mul_le_mul_right _ (by omega)
        have h9 : big ≤ 10 ^ 78 := by decide
        have h10 : dval (a :: m) = m.foldl (fun v c => 10 * v + (c.toNat - 48)) (10 * 0 + (a.toNat - 48)) := rfl
        omega
    · exact h3
  · rw [decide_eq_false h2, Bool.and_false]
/-- the first stroke from a place on -/
def sl (l : List UInt8) (n : Nat) : Int := if Lib.index (l.drop n) [47] = -1 then -1 else Lib.index (l.drop n) [47] + n
theorem pfx1 (c a : UInt8) (l : List UInt8) : List.isPrefixOf [c] (a :: l) = decide (a = c) := by
  have h : List.isPrefixOf [c] (a :: l) = (c == a) := by
    show (c == a && true) = _
    rw [Bool.and_true]
  rw [h]
  by_cases e : a = c
  · rw [decide_eq_true e, e]
    exact beq_self_eq_true c
  · rw [decide_eq_false e]
    exact beq_eq_false_iff_ne.2 fun h => e h.symm
theorem sl_end (l : List UInt8) : sl l l.length = -1 := by
  unfold sl
  rw [List.drop_length]
  rfl
theorem sl_at {l : List UInt8} {n : Nat} {b : UInt8} (h : l[n]? = some b) : sl l n = if b = 47 then (n : Int) else sl l (n + 1) := by
  have hn : n < l.length := (List.getElem?_eq_some_iff.1 h).1
  have hb : l[n] = b := (List.getElem?_eq_some_iff.1 h).2
  have hd : l.drop n = b :: l.drop (n + 1) := by rw [List.drop_eq_getElem_cons hn, hb]
  have hi : Lib.index (b :: l.drop (n + 1)) [47] = if b = 47 then 0 else if Lib.index (l.drop (n + 1)) [47] = -1 then -1 else Lib.index (l.drop (n + 1)) [47] + 1 := by
    rw [Lib.index]
    have e1 := pfx1 47 b (l.drop (n + 1))
    rw [e1]
    by_cases h47 : b = 47
    · simp [h47]
    · simp [h47]
  have hge := Lib.index_ge (l.drop (n + 1)) [47]
  unfold sl
  rw [hd, hi]
  by_cases h47 : b = 47
  · rw [if_pos h47, if_pos h47, if_neg (by omega)]
    omega
  · rw [if_neg h47, if_neg h47]
    by_cases h1 : Lib.index (l.drop (n + 1)) [47] = -1
    · rw [if_pos h1, if_pos h1, if_pos rfl]
    · rw [if_neg h1, if_neg h1, if_neg (by omega)]
      omega
theorem sl_zero (l : List UInt8) : sl l 0 = Lib.index l [47] := by
  unfold sl
  rw [List.drop_zero]
  split <;> omega
theorem ext_list (s : ByteArray) (i j : Nat) : (s.extract i j).data.toList = (s.data.toList.take j).drop i := by
  simp [ByteArray.data_extract, List.drop_take]
theorem hasP {s : ByteArray} : ng s = true ↔ 0 < s.size ∧ bt s 0 = 45 := by
  obtain ⟨⟨l⟩⟩ := s
  unfold ng Lib.hasPrefix
  cases l with
  | nil =>
    constructor
    · intro h; cases h
    · intro h; exact absurd h.1 (Nat.lt_irrefl 0)
  | cons a l =>
    have e5 : bt (⟨⟨a :: l⟩⟩ : ByteArray) 0 = (a.toNat : Int) := rfl
    have e8 : 0 < (⟨⟨a :: l⟩⟩ : ByteArray).size := Nat.succ_pos _
    rw [e5]
    show List.isPrefixOf [45] (a :: l) = true ↔ _
    rw [pfx1, decide_eq_true_iff]
    constructor
    · intro h
      exact ⟨e8, by rw [h]; rfl⟩
    · intro h
      have h2 := h.2
      exact UInt8.toNat_inj.1 (show a.toNat = 45 by omega)
theorem pre_yes {s : ByteArray} (h : ng s = true) : pre s = s.extract 1 s.size := by
  refine ba_eq.2 ?_
  rw [ext_list]
  unfold pre Lib.trimPrefix
  have h2 : Lib.hasPrefix s.data.toList [45] = true := h
  rw [if_pos h2]
  show s.data.toList.drop 1 = _
  rw [List.take_of_length_le (show s.data.toList.length ≤ s.size from Nat.le_refl _)]
theorem pre_no {s : ByteArray} (h : ng s = false) : pre s = s := by
  unfold pre Lib.trimPrefix
  rw [if_neg (by unfold ng at h; rw [h]; simp)]
theorem cut_no {s : ByteArray} (h : sl s.data.toList 0 = -1) : ab s = s ∧ sm s = false ∧ lo s = ⟨#[49]⟩ := by
  rw [sl_zero] at h
  unfold lo sm ab Lib.cut
  rw [if_neg (by omega)]
  exact ⟨rfl, rfl, rfl⟩
theorem cut_yes {s : ByteArray} {j : Nat} (h : sl s.data.toList 0 = j) : ab s = s.extract 0 j ∧ sm s = true ∧ lo s = s.extract (j + 1) s.size := by
  rw [sl_zero] at h
  have h1 : (Lib.cut s.data.toList [47]) = (s.data.toList.take j, s.data.toList.drop (j + 1), true) := by
    unfold Lib.cut
    rw [if_pos (by omega), h]
    rfl
  unfold lo sm ab be
  rw [h1]
  refine ⟨ba_eq.2 ?_, rfl, ba_eq.2 ?_⟩
  · rw [ext_list, List.drop_zero]
  · rw [ext_list, List.take_of_length_le (show s.data.toList.length ≤ s.size from Nat.le_refl _)]
    rfl
theorem sl_lt (l : List UInt8) : ∀ n, n ≤ l.length → -1 ≤ sl l n ∧ sl l n < l.length := by
  intro n hn
  have hge := Lib.index_ge (l.drop n) [47]
  unfold sl
  split
  · omega
  · rename_i h
    have := Lib.index_room (l.drop n) [47] (by omega)
    rw [List.length_drop] at this
    simp only [List.length_cons, List.length_nil] at this
    omega
end
section
open Go Sat Go.RowKit Go.PlainAid
set_option linter.unusedSimpArgs false
set_option linter.unusedVariables false
theorem ext_len (s : ByteArray) (i j : Nat) : (s.extract i j).size ≤ s.size := by
  show (s.extract i j).data.toList.length ≤ s.data.toList.length
  rw [ext_list, List.length_drop, List.length_take]
  omega
theorem b48 {b : ByteArray} (h : dB b = true) : (b == (⟨#[48]⟩ : ByteArray)) = decide (dval b.data.toList = 0) := by
  by_cases e : b = ⟨#[48]⟩
  · subst e
    rfl
  · have := dval_pos h e
    rw [decide_eq_false (by omega)]
    exact beq_eq_false_iff_ne.2 e
theorem big_pos : 0 < big := by decide
def isTen (a b : ByteArray) : Prop := (numC a = 1 ∨ numC b = 1) ∨ numC b = 0 ∧ dg b6 (numV b) = []
theorem num_ok {a b : ByteArray} : (isTen a b ∧ okS a b = false) ∨ (¬isTen a b ∧ okS a b = true ∧ (((numC a = 2 ∨ numC b = 2) ∧ (fits a && fits b) = false) ∨ (¬(numC a = 2 ∨ numC b = 2) ∧ (fits a && fits b) = true ∧ dB a = true ∧ numV a = dval a.data.toList ∧ numV b = dval b.data.toList ∧ 0 < dval b.data.toList))) := by
  have hbp := big_pos
  unfold isTen okS
  have hz : dg b6 (numV b) = [] ↔ numV b = 0 := dg_nil b6_2
  rw [hz]
  rcases num_cases a with ⟨da, e1, v1⟩ | ⟨da, ba, e1, v1⟩ | ⟨da, ba, e1, v1⟩
  · exact .inl ⟨by omega, by rw [da]; rfl⟩
  all_goals rcases num_cases b with ⟨db, e2, v2⟩ | ⟨db, bb', e2, v2⟩ | ⟨db, bb', e2, v2⟩
  all_goals rw [da, db]
  all_goals first | exact .inl ⟨by omega, rfl⟩ | skip
  all_goals rw [b48 db, fits_dB da, fits_dB db]
  all_goals by_cases z : dval b.data.toList = 0
  all_goals first | exact .inl ⟨by omega, by rw [decide_eq_true z]; rfl⟩ | skip
  all_goals first | (exfalso; omega) | skip
  all_goals refine .inr ⟨by omega, by rw [decide_eq_false z]; rfl, ?_⟩
  · exact .inl ⟨by omega, by rw [decide_eq_false (by omega)]; rfl⟩
  · exact .inl ⟨by omega, by rw [decide_eq_false (by omega)]; rfl⟩
  · exact .inl ⟨by omega, by rw [decide_eq_false (show ¬ dval b.data.toList < big by omega), Bool.and_false]⟩
  · exact .inr ⟨by omega, by rw [decide_eq_true ba, decide_eq_true bb']; rfl, rfl, v1, v2, by omega⟩
set_option maxRecDepth 100000 in
set_option maxHeartbeats 8000000 in
theorem rread_any (s : ByteArray) (w : World) (hs : s.size ≤ 4294967280) :
    Calls Tryz.prog 14 #[.string s] w fun e w' => e = .returned (.tuple #[frV (readE s).1, .int .i64 (readE s).2]) ∧ Below w.heap.size w w' := by
  have hz17 := frC_len zeroF
  have hbig := rdF_big s
  obtain ⟨R, eR⟩ : ∃ R, R = readE s := ⟨_, rfl⟩
  rw [← eR]
  refine calls_sat (cx := Tryz.cx 100 [] [] [] w) (Tryz.ok ..) Tryz.func14 rfl [.v (.string s)] rfl (by show 1 ≤ 100; omega) [] (holds_nil (Nat.le_refl _)) ?_
  repeat' ((conv => whnf); first | refine walk (Tryz.ok ..) ?_ | fail)
  (conv => whnf)
  intro g2 hg2
  cases hng : ng s
  · have hP := pre_no hng
    have hPl : s.size ≤ 4294967280 := hs
    have hnb : 0 < s.size → (bt s 0 == 45) = false := fun h => beq_eq_false_iff_ne.2 fun e => by rw [hasP.2 ⟨h, e⟩] at hng; cases hng
    have hno : ¬ (0 < s.size ∧ bt s 0 = 45) := fun h => by rw [hasP.2 h] at hng; cases hng
    repeat' ((conv => whnf); first | refine walk (Tryz.ok ..) ?_ | (refine Cnd.mk (fun h => ?_) (fun h => ?_) <;> (first | exact cndT h (by (try dsimp only); omega) | exact cndF h (by (try dsimp only); omega) | (exfalso; simp at h; omega) | simp at h | skip)) | refine side2 ?_ | refine sideL2 ?_ | fail)
    have hsz : (s).data.toList.length = (s).size := by simp
    obtain ⟨l, el⟩ : ∃ l, l = (s).data.toList := ⟨_, rfl⟩
    rw [← el] at hsz
    refine sat_loop (Tryz.ok ..) (α := Nat) (fun n => ([(0, .yes, .v (.string s)), (2, .yes, .p 2 g2 0 0), (4, .yes, .v (.string s)), (5, .yes, .v (.int .i64 (sl l n))), (6, .yes, .v (.int .i64 ((n : Int) - 1)))], [(2, .blk g2 37 (frC zeroF))])) (fun n => n ≤ (s).size) (fun n => n) (fun _ => rfl) ?_ ?_
    · refine ⟨(s).size, Nat.le_refl _, ?_, ?_, rfl⟩
      · dsimp only
        rw [← hsz, sl_end]
        ((repeat' (first | exact trivial | exact rfl | refine And.intro ?_ ?_)) <;> (try (conv => whnf)) <;> (try simp only [SV.real, SV.r2, SV.r1]))
      · ((repeat' (first | exact trivial | exact rfl | refine And.intro ?_ ?_)) <;> (try (conv => whnf)) <;> (try simp only [SV.real, SV.r2, SV.r1]))
    intro n hn
    by_cases hn0 : n = 0
    · subst hn0
      have hlt := sl_lt l 0 (Nat.zero_le _)
      by_cases hneg : sl l 0 = -1
      · obtain ⟨ea, _, eb⟩ := cut_no (s := s) (by rw [← el]; exact hneg)
        rw [hneg]
        repeat' ((conv => whnf); first | refine walk (Tryz.ok ..) ?_ | (refine Cnd.mk (fun h => ?_) (fun h => ?_) <;> (first | exact cndT h (by (try dsimp only); omega) | exact cndF h (by (try dsimp only); omega) | (exfalso; simp at h; omega) | simp at h | skip)) | fail)
        refine called_row 50 (xs := iv (dg b6 (numV s))) (m := (dg b6 (numV s)).length) (fun v => .tuple #[v, .int .i64 (numC s)]) (fun A cap => .t [.o 50 A (dg b6 (numV s)).length cap, .v (.int .i64 (numC s))]) (fun _ _ => rfl) (fun w' hh => by exact rnumber_all s w' (by omega)) ?_
        intro A1 c1
        repeat' ((conv => whnf); first | refine walk (Tryz.ok ..) ?_ | fail)
        refine called_row 55 (xs := iv (dg b6 (numV (⟨#[49]⟩ : ByteArray)))) (m := (dg b6 (numV (⟨#[49]⟩ : ByteArray))).length) (fun v => .tuple #[v, .int .i64 (numC (⟨#[49]⟩ : ByteArray))]) (fun A cap => .t [.o 55 A (dg b6 (numV (⟨#[49]⟩ : ByteArray))).length cap, .v (.int .i64 (numC (⟨#[49]⟩ : ByteArray)))]) (fun _ _ => rfl) (fun w' hh => by exact rnumber_all (⟨#[49]⟩ : ByteArray) w' (by decide)) ?_
        intro A2 c2
        have l1 := dg_big6 (num_lt s)
        have l2 := dg_big6 (num_lt (⟨#[49]⟩ : ByteArray))
        have ca := num_cases s
        have cb := num_cases (⟨#[49]⟩ : ByteArray)
        have ea2 : ab (pre s) = s := by rw [hP]; exact ea
        have eb2 : lo (pre s) = (⟨#[49]⟩ : ByteArray) := by rw [hP]; exact eb
        have hr : R = if okS (ab (pre s)) (lo (pre s)) = true then if (fits (ab (pre s)) && fits (lo (pre s))) = true then if (textE (rdF s)).1 = s then (rdF s, 0) else (zeroF, 11) else (zeroF, 3) else (zeroF, 10) := eR
        have hrd : rdF s = (fitF (ng s) (dval (ab (pre s)).data.toList) (dval (lo (pre s)).data.toList)).1 := rfl
        rw [ea2, eb2] at hr hrd
        rw [hng] at hrd
        clear ea2 eb2 ea eb
        have hs0 : dB s = true → 0 < s.size := fun h => by
          rcases Nat.eq_zero_or_pos s.size with h0 | h0
          · have h9 : (s).size = 0 := by omega
            have h8 : s = ⟨#[]⟩ := ba_eq.2 (List.eq_nil_of_length_eq_zero h9)
            rw [h8] at h
            cases h
          · exact h0
        have hno := num_ok (a := s) (b := (⟨#[49]⟩ : ByteArray))
        repeat' ((conv => whnf); first | refine walk (Tryz.ok ..) ?_ | (refine Cnd.mk (fun h => ?_) (fun h => ?_) <;> (first | exact cndT h (by (try dsimp only); omega) | exact cndF h (by (try dsimp only); omega) | (exfalso; simp at h; omega) | simp at h | skip)) | refine side2 ?_ | fail)
        · rcases hno with ⟨_, hok⟩ | ⟨hn, _⟩
          · rw [show R = (zeroF, 10) by rw [hr, hok]; rfl]
            skip
            exact done_pure rfl rfl rfl
          · exact absurd h hn
        · rename_i hq
          rcases hno with ⟨ht, _⟩ | ⟨_, hok, ⟨_, hf⟩ | ⟨hn, _⟩⟩
          · exact absurd ht (fun x => x.elim (fun y => y.elim hq.1.1 hq.1.2) (fun y => hq.2 y.1 y.2))
          · rw [show R = (zeroF, 3) by rw [hr, hok, if_pos rfl, hf]; rfl]
            skip
            exact done_pure rfl rfl rfl
          · exact absurd h hn
        · rename_i hq
          rcases hno with ⟨ht, _⟩ | ⟨_, hok, ⟨ho, _⟩ | ⟨_, hf, da, v1, v2, v0⟩⟩
          · exact absurd ht (fun x => x.elim (fun y => y.elim hq.1.1 hq.1.2) (fun y => hq.2 y.1 y.2))
          · exact absurd ho (fun x => x.elim h.1 h.2)
          · have hs1 := hs0 da
            rw [hok, if_pos rfl, hf, if_pos rfl] at hr
            have hv2 : 0 < numV (⟨#[49]⟩ : ByteArray) := by omega
            rw [← v1, ← v2] at hrd
            obtain ⟨F, eF⟩ : ∃ F, F = rdF s := ⟨_, rfl⟩
            rw [← eF] at hr hrd hbig
            obtain ⟨e0, he0⟩ : ∃ e, e = (fitF false (numV s) (numV (⟨#[49]⟩ : ByteArray))).2 := ⟨_, rfl⟩
            have h17 := frC_len F
            repeat' ((conv => whnf); first | refine side2 ?_ | fail)
            refine called_args [.v (.bool false), .o 50 A1 (dg b6 (numV s)).length c1, .o 55 A2 (dg b6 (numV (⟨#[49]⟩ : ByteArray))).length c2] (congrArg (fun x => [Value.bool x, _, _]) (by show (bt s 0 == 45) = false; exact hnb hs1)) ?_
            refine called_at (.t [.a (frC F), .v (.int .i64 e0)]) rfl (fun w' hh => by
              rw [hrd, he0]
              exact rmake_any false (numV s) (numV (⟨#[49]⟩ : ByteArray)) A1 A2 c1 c2 w' (ro_of_row hh (id := 50) rfl) (ro_of_row hh (id := 55) rfl) (by omega) (by omega) (row_cap6 hh (id := 50) rfl) (row_cap6 hh (id := 55) rfl) hv2) ?_
            skip
            (conv => whnf)
            intro g12 hg12
            repeat' ((conv => whnf); first | refine walk (Tryz.ok ..) ?_ | refine side2 ?_ | fail)
            obtain ⟨T, hT⟩ : ∃ T, T = (textE F).1 := ⟨_, rfl⟩
            obtain ⟨te, hte⟩ : ∃ T, T = (textE F).2 := ⟨_, rfl⟩
            rw [← hT] at hr
            refine called_args [.a (frC F)] (congrArg (fun l => [(SV.a l).real]) (tk1 F)) ?_
            refine called_at (.t [.v (.string T), .v (.int .i64 te)]) rfl (fun w' hh => by rw [hT, hte]; exact rtext_any F w' hbig) ?_
            repeat' ((conv => whnf); first | refine walk (Tryz.ok ..) ?_ | (refine Cnd.mk (fun h => ?_) (fun h => ?_) <;> (first | exact cndT h (by (try dsimp only); omega) | exact cndF h (by (try dsimp only); omega) | (exfalso; simp at h; omega) | simp at h | skip)) | refine side2 ?_ | fail)
            · rw [if_neg h] at hr
              rw [hr]
              skip
              exact done_pure rfl rfl rfl
            · rw [if_pos h] at hr
              rw [hr]
              skip
              exact done_pure rfl rfl (congrArg (fun l => (SV.t [.a l, .v (.int .i64 0)]).real) (tk2 F))
      · obtain ⟨j, ej⟩ : ∃ j : Nat, sl l 0 = j := ⟨(sl l 0).toNat, by omega⟩
        obtain ⟨ea, _, eb⟩ := cut_yes (s := s) (j := j) (by rw [← el]; exact ej)
        rw [ej] at hlt ⊢
        have l3 := ext_len s 0 j
        have l4 := ext_len s (j + 1) (s).size
        repeat' ((conv => whnf); first | refine walk (Tryz.ok ..) ?_ | (refine Cnd.mk (fun h => ?_) (fun h => ?_) <;> (first | exact cndT h (by (try dsimp only); omega) | exact cndF h (by (try dsimp only); omega) | (exfalso; simp at h; omega) | simp at h | skip)) | refine side2 ?_ | refine sideL2 ?_ | fail)
        refine called_row 50 (xs := iv (dg b6 (numV ((s).extract 0 j)))) (m := (dg b6 (numV ((s).extract 0 j))).length) (fun v => .tuple #[v, .int .i64 (numC ((s).extract 0 j))]) (fun A cap => .t [.o 50 A (dg b6 (numV ((s).extract 0 j))).length cap, .v (.int .i64 (numC ((s).extract 0 j)))]) (fun _ _ => rfl) (fun w' hh => by exact rnumber_all ((s).extract 0 j) w' (by omega)) ?_
        intro A1 c1
        repeat' ((conv => whnf); first | refine walk (Tryz.ok ..) ?_ | fail)
        refine called_row 55 (xs := iv (dg b6 (numV ((s).extract (j + 1) (s).size)))) (m := (dg b6 (numV ((s).extract (j + 1) (s).size))).length) (fun v => .tuple #[v, .int .i64 (numC ((s).extract (j + 1) (s).size))]) (fun A cap => .t [.o 55 A (dg b6 (numV ((s).extract (j + 1) (s).size))).length cap, .v (.int .i64 (numC ((s).extract (j + 1) (s).size)))]) (fun _ _ => rfl) (fun w' hh => by exact rnumber_all ((s).extract (j + 1) (s).size) w' (by omega)) ?_
        intro A2 c2
        have l1 := dg_big6 (num_lt ((s).extract 0 j))
        have l2 := dg_big6 (num_lt ((s).extract (j + 1) (s).size))
        have ca := num_cases ((s).extract 0 j)
        have cb := num_cases ((s).extract (j + 1) (s).size)
        have ea2 : ab (pre s) = ((s).extract 0 j) := by rw [hP]; exact ea
        have eb2 : lo (pre s) = ((s).extract (j + 1) (s).size) := by rw [hP]; exact eb
        have hr : R = if okS (ab (pre s)) (lo (pre s)) = true then if (fits (ab (pre s)) && fits (lo (pre s))) = true then if (textE (rdF s)).1 = s then (rdF s, 0) else (zeroF, 11) else (zeroF, 3) else (zeroF, 10) := eR
        have hrd : rdF s = (fitF (ng s) (dval (ab (pre s)).data.toList) (dval (lo (pre s)).data.toList)).1 := rfl
        rw [ea2, eb2] at hr hrd
        rw [hng] at hrd
        clear ea2 eb2 ea eb
        have hs0 : dB ((s).extract 0 j) = true → 0 < s.size := fun h => by
          rcases Nat.eq_zero_or_pos s.size with h0 | h0
          · have h9 : (((s).extract 0 j)).size = 0 := by omega
            have h8 : ((s).extract 0 j) = ⟨#[]⟩ := ba_eq.2 (List.eq_nil_of_length_eq_zero h9)
            rw [h8] at h
            cases h
          · exact h0
        have hno := num_ok (a := ((s).extract 0 j)) (b := ((s).extract (j + 1) (s).size))
        repeat' ((conv => whnf); first | refine walk (Tryz.ok ..) ?_ | (refine Cnd.mk (fun h => ?_) (fun h => ?_) <;> (first | exact cndT h (by (try dsimp only); omega) | exact cndF h (by (try dsimp only); omega) | (exfalso; simp at h; omega) | simp at h | skip)) | refine side2 ?_ | fail)
        · rcases hno with ⟨_, hok⟩ | ⟨hn, _⟩
          · rw [show R = (zeroF, 10) by rw [hr, hok]; rfl]
            skip
            exact done_pure rfl rfl rfl
          · exact absurd h hn
        · rename_i hq
          rcases hno with ⟨ht, _⟩ | ⟨_, hok, ⟨_, hf⟩ | ⟨hn, _⟩⟩
          · exact absurd ht (fun x => x.elim (fun y => y.elim hq.1.1 hq.1.2) (fun y => hq.2 y.1 y.2))
          · rw [show R = (zeroF, 3) by rw [hr, hok, if_pos rfl, hf]; rfl]
            skip
            exact done_pure rfl rfl rfl
          · exact absurd h hn
        · rename_i hq
          rcases hno with ⟨ht, _⟩ | ⟨_, hok, ⟨ho, _⟩ | ⟨_, hf, da, v1, v2, v0⟩⟩
          · exact absurd ht (fun x => x.elim (fun y => y.elim hq.1.1 hq.1.2) (fun y => hq.2 y.1 y.2))
          · exact absurd ho (fun x => x.elim h.1 h.2)
          · have hs1 := hs0 da
            rw [hok, if_pos rfl, hf, if_pos rfl] at hr
            have hv2 : 0 < numV ((s).extract (j + 1) (s).size) := by omega
            rw [← v1, ← v2] at hrd
            obtain ⟨F, eF⟩ : ∃ F, F = rdF s := ⟨_, rfl⟩
            rw [← eF] at hr hrd hbig
            obtain ⟨e0, he0⟩ : ∃ e, e = (fitF false (numV ((s).extract 0 j)) (numV ((s).extract (j + 1) (s).size))).2 := ⟨_, rfl⟩
            have h17 := frC_len F
            skip
            refine called_args [.v (.bool false), .o 50 A1 (dg b6 (numV ((s).extract 0 j))).length c1, .o 55 A2 (dg b6 (numV ((s).extract (j + 1) (s).size))).length c2] (congrArg (fun x => [Value.bool x, _, _]) (by show (bt s 0 == 45) = false; exact hnb hs1)) ?_
            refine called_at (.t [.a (frC F), .v (.int .i64 e0)]) rfl (fun w' hh => by
              rw [hrd, he0]
              exact rmake_any false (numV ((s).extract 0 j)) (numV ((s).extract (j + 1) (s).size)) A1 A2 c1 c2 w' (ro_of_row hh (id := 50) rfl) (ro_of_row hh (id := 55) rfl) (by omega) (by omega) (row_cap6 hh (id := 50) rfl) (row_cap6 hh (id := 55) rfl) hv2) ?_
            skip
            (conv => whnf)
            intro g12 hg12
            repeat' ((conv => whnf); first | refine walk (Tryz.ok ..) ?_ | refine side2 ?_ | fail)
            obtain ⟨T, hT⟩ : ∃ T, T = (textE F).1 := ⟨_, rfl⟩
            obtain ⟨te, hte⟩ : ∃ T, T = (textE F).2 := ⟨_, rfl⟩
            rw [← hT] at hr
            refine called_args [.a (frC F)] (congrArg (fun l => [(SV.a l).real]) (tk1 F)) ?_
            refine called_at (.t [.v (.string T), .v (.int .i64 te)]) rfl (fun w' hh => by rw [hT, hte]; exact rtext_any F w' hbig) ?_
            repeat' ((conv => whnf); first | refine walk (Tryz.ok ..) ?_ | (refine Cnd.mk (fun h => ?_) (fun h => ?_) <;> (first | exact cndT h (by (try dsimp only); omega) | exact cndF h (by (try dsimp only); omega) | (exfalso; simp at h; omega) | simp at h | skip)) | refine side2 ?_ | fail)
            · rw [if_neg h] at hr
              rw [hr]
              skip
              exact done_pure rfl rfl rfl
            · rw [if_pos h] at hr
              rw [hr]
              skip
              exact done_pure rfl rfl (congrArg (fun l => (SV.t [.a l, .v (.int .i64 0)]).real) (tk2 F))
    obtain ⟨i, rfl⟩ : ∃ i, n = i + 1 := ⟨n - 1, by omega⟩
    dsimp only
    rw [show (((i + 1 : Nat) : Int) - 1) = (i : Int) by omega]
    obtain ⟨b, hb⟩ : ∃ b, l[i]? = some b := ⟨_, List.getElem?_eq_getElem (show i < l.length by omega)⟩
    have hbt := bt_at (s := s) (k := i) (b := b) (by rw [← el]; exact hb)
    have hsl := sl_at hb
    have hsr := sl_lt l (i + 1) (by omega)
    by_cases h47 : b = 47
    · rw [if_pos h47] at hsl
      have e1 : bt s i = 47 := by rw [hbt, h47]; rfl
      repeat' ((conv => whnf); first | refine walk (Tryz.ok ..) ?_ | (refine Cnd.mk (fun h => ?_) (fun h => ?_) <;> (first | exact cndT h (by (try dsimp only); omega) | exact cndF h (by (try dsimp only); omega) | (exfalso; simp at h; omega) | simp at h | skip)) | refine side2 ?_ | refine sideL2 ?_ | fail)
      refine ⟨i, ⟨by omega, by omega⟩, ?_, ?_, rfl⟩
      · dsimp only
        rw [hsl]
        ((repeat' (first | exact trivial | exact rfl | refine And.intro ?_ ?_)) <;> (try (conv => whnf)) <;> (try simp only [SV.real, SV.r2, SV.r1]))
      · ((repeat' (first | exact trivial | exact rfl | refine And.intro ?_ ?_)) <;> (try (conv => whnf)) <;> (try simp only [SV.real, SV.r2, SV.r1]))
    · rw [if_neg h47] at hsl
      have e1 : bt s i ≠ 47 := fun e => h47 (UInt8.toNat_inj.1 (show b.toNat = 47 by omega))
      repeat' ((conv => whnf); first | refine walk (Tryz.ok ..) ?_ | (refine Cnd.mk (fun h => ?_) (fun h => ?_) <;> (first | exact cndT h (by (try dsimp only); omega) | exact cndF h (by (try dsimp only); omega) | (exfalso; simp at h; omega) | simp at h | skip)) | refine side2 ?_ | refine sideL2 ?_ | fail)
      refine ⟨i, ⟨by omega, by omega⟩, ?_, ?_, rfl⟩
      · dsimp only
        rw [hsl]
        ((repeat' (first | exact trivial | exact rfl | refine And.intro ?_ ?_)) <;> (try (conv => whnf)) <;> (try simp only [SV.real, SV.r2, SV.r1]))
      · ((repeat' (first | exact trivial | exact rfl | refine And.intro ?_ ?_)) <;> (try (conv => whnf)) <;> (try simp only [SV.real, SV.r2, SV.r1]))
  · have hP := pre_yes hng
    have hps := hasP.1 hng
    have hs0' := hps.1
    have e45 := hps.2
    have hPl := ext_len s 1 s.size
    have hnb : 0 < s.size → (bt s 0 == 45) = true := fun _ => by rw [e45]; rfl
    repeat' ((conv => whnf); first | refine walk (Tryz.ok ..) ?_ | (refine Cnd.mk (fun h => ?_) (fun h => ?_) <;> (first | exact cndT h (by (try dsimp only); omega) | exact cndF h (by (try dsimp only); omega) | (exfalso; simp at h; omega) | simp at h | skip)) | refine side2 ?_ | refine sideL2 ?_ | fail)
    obtain ⟨P, eP⟩ : ∃ P, P = s.extract (Int.toNat 1) (Int.toNat (s.size : Int)) := ⟨_, rfl⟩
    rw [← eP]
    have hP : pre s = P := hP.trans eP.symm
    have hPl : P.size ≤ s.size := by rw [eP]; exact hPl
    clear eP
    have hsz : (P).data.toList.length = (P).size := by simp
    obtain ⟨l, el⟩ : ∃ l, l = (P).data.toList := ⟨_, rfl⟩
    rw [← el] at hsz
    refine sat_loop (Tryz.ok ..) (α := Nat) (fun n => ([(0, .yes, .v (.string s)), (2, .yes, .p 2 g2 0 0), (4, .yes, .v (.string P)), (5, .yes, .v (.int .i64 (sl l n))), (6, .yes, .v (.int .i64 ((n : Int) - 1)))], [(2, .blk g2 37 (frC zeroF))])) (fun n => n ≤ (P).size) (fun n => n) (fun _ => rfl) ?_ ?_
    · refine ⟨(P).size, Nat.le_refl _, ?_, ?_, rfl⟩
      · dsimp only
        rw [← hsz, sl_end]
        ((repeat' (first | exact trivial | exact rfl | refine And.intro ?_ ?_)) <;> (try (conv => whnf)) <;> (try simp only [SV.real, SV.r2, SV.r1]))
      · ((repeat' (first | exact trivial | exact rfl | refine And.intro ?_ ?_)) <;> (try (conv => whnf)) <;> (try simp only [SV.real, SV.r2, SV.r1]))
    intro n hn
    by_cases hn0 : n = 0
    · subst hn0
      have hlt := sl_lt l 0 (Nat.zero_le _)
      by_cases hneg : sl l 0 = -1
      · obtain ⟨ea, _, eb⟩ := cut_no (s := P) (by rw [← el]; exact hneg)
        rw [hneg]
        repeat' ((conv => whnf); first | refine walk (Tryz.ok ..) ?_ | (refine Cnd.mk (fun h => ?_) (fun h => ?_) <;> (first | exact cndT h (by (try dsimp only); omega) | exact cndF h (by (try dsimp only); omega) | (exfalso; simp at h; omega) | simp at h | skip)) | fail)
        refine called_row 50 (xs := iv (dg b6 (numV P))) (m := (dg b6 (numV P)).length) (fun v => .tuple #[v, .int .i64 (numC P)]) (fun A cap => .t [.o 50 A (dg b6 (numV P)).length cap, .v (.int .i64 (numC P))]) (fun _ _ => rfl) (fun w' hh => by exact rnumber_all P w' (by omega)) ?_
        intro A1 c1
        repeat' ((conv => whnf); first | refine walk (Tryz.ok ..) ?_ | fail)
        refine called_row 55 (xs := iv (dg b6 (numV (⟨#[49]⟩ : ByteArray)))) (m := (dg b6 (numV (⟨#[49]⟩ : ByteArray))).length) (fun v => .tuple #[v, .int .i64 (numC (⟨#[49]⟩ : ByteArray))]) (fun A cap => .t [.o 55 A (dg b6 (numV (⟨#[49]⟩ : ByteArray))).length cap, .v (.int .i64 (numC (⟨#[49]⟩ : ByteArray)))]) (fun _ _ => rfl) (fun w' hh => by exact rnumber_all (⟨#[49]⟩ : ByteArray) w' (by decide)) ?_
        intro A2 c2
        have l1 := dg_big6 (num_lt P)
        have l2 := dg_big6 (num_lt (⟨#[49]⟩ : ByteArray))
        have ca := num_cases P
        have cb := num_cases (⟨#[49]⟩ : ByteArray)
        have ea2 : ab (pre s) = P := by rw [hP]; exact ea
        have eb2 : lo (pre s) = (⟨#[49]⟩ : ByteArray) := by rw [hP]; exact eb
        have hr : R = if okS (ab (pre s)) (lo (pre s)) = true then if (fits (ab (pre s)) && fits (lo (pre s))) = true then if (textE (rdF s)).1 = s then (rdF s, 0) else (zeroF, 11) else (zeroF, 3) else (zeroF, 10) := eR
        have hrd : rdF s = (fitF (ng s) (dval (ab (pre s)).data.toList) (dval (lo (pre s)).data.toList)).1 := rfl
        rw [ea2, eb2] at hr hrd
        rw [hng] at hrd
        clear ea2 eb2 ea eb
        have hs0 : dB P = true → 0 < s.size := fun h => by
          rcases Nat.eq_zero_or_pos s.size with h0 | h0
          · have h9 : (P).size = 0 := by omega
            have h8 : P = ⟨#[]⟩ := ba_eq.2 (List.eq_nil_of_length_eq_zero h9)
            rw [h8] at h
            cases h
          · exact h0
        have hno := num_ok (a := P) (b := (⟨#[49]⟩ : ByteArray))
        repeat' ((conv => whnf); first | refine walk (Tryz.ok ..) ?_ | (refine Cnd.mk (fun h => ?_) (fun h => ?_) <;> (first | exact cndT h (by (try dsimp only); omega) | exact cndF h (by (try dsimp only); omega) | (exfalso; simp at h; omega) | simp at h | skip)) | refine side2 ?_ | fail)
        · rcases hno with ⟨_, hok⟩ | ⟨hn, _⟩
          · rw [show R = (zeroF, 10) by rw [hr, hok]; rfl]
            skip
            exact done_pure rfl rfl rfl
          · exact absurd h hn
        · rename_i hq
          rcases hno with ⟨ht, _⟩ | ⟨_, hok, ⟨_, hf⟩ | ⟨hn, _⟩⟩
          · exact absurd ht (fun x => x.elim (fun y => y.elim hq.1.1 hq.1.2) (fun y => hq.2 y.1 y.2))
          · rw [show R = (zeroF, 3) by rw [hr, hok, if_pos rfl, hf]; rfl]
            skip
            exact done_pure rfl rfl rfl
          · exact absurd h hn
        · rename_i hq
          rcases hno with ⟨ht, _⟩ | ⟨_, hok, ⟨ho, _⟩ | ⟨_, hf, da, v1, v2, v0⟩⟩
          · exact absurd ht (fun x => x.elim (fun y => y.elim hq.1.1 hq.1.2) (fun y => hq.2 y.1 y.2))
          · exact absurd ho (fun x => x.elim h.1 h.2)
          · have hs1 := hs0 da
            rw [hok, if_pos rfl, hf, if_pos rfl] at hr
            have hv2 : 0 < numV (⟨#[49]⟩ : ByteArray) := by omega
            rw [← v1, ← v2] at hrd
            obtain ⟨F, eF⟩ : ∃ F, F = rdF s := ⟨_, rfl⟩
            rw [← eF] at hr hrd hbig
            obtain ⟨e0, he0⟩ : ∃ e, e = (fitF true (numV P) (numV (⟨#[49]⟩ : ByteArray))).2 := ⟨_, rfl⟩
            have h17 := frC_len F
            skip
            refine called_args [.v (.bool true), .o 50 A1 (dg b6 (numV P)).length c1, .o 55 A2 (dg b6 (numV (⟨#[49]⟩ : ByteArray))).length c2] (congrArg (fun x => [Value.bool x, _, _]) (by show (bt s 0 == 45) = true; exact hnb hs1)) ?_
            refine called_at (.t [.a (frC F), .v (.int .i64 e0)]) rfl (fun w' hh => by
              rw [hrd, he0]
              exact rmake_any true (numV P) (numV (⟨#[49]⟩ : ByteArray)) A1 A2 c1 c2 w' (ro_of_row hh (id := 50) rfl) (ro_of_row hh (id := 55) rfl) (by omega) (by omega) (row_cap6 hh (id := 50) rfl) (row_cap6 hh (id := 55) rfl) hv2) ?_
            skip
            (conv => whnf)
            intro g12 hg12
            repeat' ((conv => whnf); first | refine walk (Tryz.ok ..) ?_ | refine side2 ?_ | fail)
            obtain ⟨T, hT⟩ : ∃ T, T = (textE F).1 := ⟨_, rfl⟩
            obtain ⟨te, hte⟩ : ∃ T, T = (textE F).2 := ⟨_, rfl⟩
            rw [← hT] at hr
            refine called_args [.a (frC F)] (congrArg (fun l => [(SV.a l).real]) (tk1 F)) ?_
            refine called_at (.t [.v (.string T), .v (.int .i64 te)]) rfl (fun w' hh => by rw [hT, hte]; exact rtext_any F w' hbig) ?_
            repeat' ((conv => whnf); first | refine walk (Tryz.ok ..) ?_ | (refine Cnd.mk (fun h => ?_) (fun h => ?_) <;> (first | exact cndT h (by (try dsimp only); omega) | exact cndF h (by (try dsimp only); omega) | (exfalso; simp at h; omega) | simp at h | skip)) | refine side2 ?_ | fail)
            · rw [if_neg h] at hr
              rw [hr]
              skip
              exact done_pure rfl rfl rfl
            · rw [if_pos h] at hr
              rw [hr]
              skip
              exact done_pure rfl rfl (congrArg (fun l => (SV.t [.a l, .v (.int .i64 0)]).real) (tk2 F))
      · obtain ⟨j, ej⟩ : ∃ j : Nat, sl l 0 = j := ⟨(sl l 0).toNat, by omega⟩
        obtain ⟨ea, _, eb⟩ := cut_yes (s := P) (j := j) (by rw [← el]; exact ej)
        rw [ej] at hlt ⊢
        have l3 := ext_len P 0 j
        have l4 := ext_len P (j + 1) (P).size
        repeat' ((conv => whnf); first | refine walk (Tryz.ok ..) ?_ | (refine Cnd.mk (fun h => ?_) (fun h => ?_) <;> (first | exact cndT h (by (try dsimp only); omega) | exact cndF h (by (try dsimp only); omega) | (exfalso; simp at h; omega) | simp at h | skip)) | refine side2 ?_ | refine sideL2 ?_ | fail)
        refine called_row 50 (xs := iv (dg b6 (numV ((P).extract 0 j)))) (m := (dg b6 (numV ((P).extract 0 j))).length) (fun v => .tuple #[v, .int .i64 (numC ((P).extract 0 j))]) (fun A cap => .t [.o 50 A (dg b6 (numV ((P).extract 0 j))).length cap, .v (.int .i64 (numC ((P).extract 0 j)))]) (fun _ _ => rfl) (fun w' hh => by exact rnumber_all ((P).extract 0 j) w' (by omega)) ?_
        intro A1 c1
        repeat' ((conv => whnf); first | refine walk (Tryz.ok ..) ?_ | fail)
        refine called_row 55 (xs := iv (dg b6 (numV ((P).extract (j + 1) (P).size)))) (m := (dg b6 (numV ((P).extract (j + 1) (P).size))).length) (fun v => .tuple #[v, .int .i64 (numC ((P).extract (j + 1) (P).size))]) (fun A cap => .t [.o 55 A (dg b6 (numV ((P).extract (j + 1) (P).size))).length cap, .v (.int .i64 (numC ((P).extract (j + 1) (P).size)))]) (fun _ _ => rfl) (fun w' hh => by exact rnumber_all ((P).extract (j + 1) (P).size) w' (by omega)) ?_
        intro A2 c2
        have l1 := dg_big6 (num_lt ((P).extract 0 j))
        have l2 := dg_big6 (num_lt ((P).extract (j + 1) (P).size))
        have ca := num_cases ((P).extract 0 j)
        have cb := num_cases ((P).extract (j + 1) (P).size)
        have ea2 : ab (pre s) = ((P).extract 0 j) := by rw [hP]; exact ea
        have eb2 : lo (pre s) = ((P).extract (j + 1) (P).size) := by rw [hP]; exact eb
        have hr : R = if okS (ab (pre s)) (lo (pre s)) = true then if (fits (ab (pre s)) && fits (lo (pre s))) = true then if (textE (rdF s)).1 = s then (rdF s, 0) else (zeroF, 11) else (zeroF, 3) else (zeroF, 10) := eR
        have hrd : rdF s = (fitF (ng s) (dval (ab (pre s)).data.toList) (dval (lo (pre s)).data.toList)).1 := rfl
        rw [ea2, eb2] at hr hrd
        rw [hng] at hrd
        clear ea2 eb2 ea eb
        have hs0 : dB ((P).extract 0 j) = true → 0 < s.size := fun h => by
          rcases Nat.eq_zero_or_pos s.size with h0 | h0
          · have h9 : (((P).extract 0 j)).size = 0 := by omega
            have h8 : ((P).extract 0 j) = ⟨#[]⟩ := ba_eq.2 (List.eq_nil_of_length_eq_zero h9)
            rw [h8] at h
            cases h
          · exact h0
        have hno := num_ok (a := ((P).extract 0 j)) (b := ((P).extract (j + 1) (P).size))
        repeat' ((conv => whnf); first | refine walk (Tryz.ok ..) ?_ | (refine Cnd.mk (fun h => ?_) (fun h => ?_) <;> (first | exact cndT h (by (try dsimp only); omega) | exact cndF h (by (try dsimp only); omega) | (exfalso; simp at h; omega) | simp at h | skip)) | refine side2 ?_ | fail)
        · rcases hno with ⟨_, hok⟩ | ⟨hn, _⟩
          · rw [show R = (zeroF, 10) by rw [hr, hok]; rfl]
            skip
            exact done_pure rfl rfl rfl
          · exact absurd h hn
        · rename_i hq
          rcases hno with ⟨ht, _⟩ | ⟨_, hok, ⟨_, hf⟩ | ⟨hn, _⟩⟩
          · exact absurd ht (fun x => x.elim (fun y => y.elim hq.1.1 hq.1.2) (fun y => hq.2 y.1 y.2))
          · rw [show R = (zeroF, 3) by rw [hr, hok, if_pos rfl, hf]; rfl]
            skip
            exact done_pure rfl rfl rfl
          · exact absurd h hn
        · rename_i hq
          rcases hno with ⟨ht, _⟩ | ⟨_, hok, ⟨ho, _⟩ | ⟨_, hf, da, v1, v2, v0⟩⟩
          · exact absurd ht (fun x => x.elim (fun y => y.elim hq.1.1 hq.1.2) (fun y => hq.2 y.1 y.2))
          · exact absurd ho (fun x => x.elim h.1 h.2)
          · have hs1 := hs0 da
            rw [hok, if_pos rfl, hf, if_pos rfl] at hr
            have hv2 : 0 < numV ((P).extract (j + 1) (P).size) := by omega
            rw [← v1, ← v2] at hrd
            obtain ⟨F, eF⟩ : ∃ F, F = rdF s := ⟨_, rfl⟩
            rw [← eF] at hr hrd hbig
            obtain ⟨e0, he0⟩ : ∃ e, e = (fitF true (numV ((P).extract 0 j)) (numV ((P).extract (j + 1) (P).size))).2 := ⟨_, rfl⟩
            have h17 := frC_len F
            skip
            refine called_args [.v (.bool true), .o 50 A1 (dg b6 (numV ((P).extract 0 j))).length c1, .o 55 A2 (dg b6 (numV ((P).extract (j + 1) (P).size))).length c2] (congrArg (fun x => [Value.bool x, _, _]) (by show (bt s 0 == 45) = true; exact hnb hs1)) ?_
            refine called_at (.t [.a (frC F), .v (.int .i64 e0)]) rfl (fun w' hh => by
              rw [hrd, he0]
              exact rmake_any true (numV ((P).extract 0 j)) (numV ((P).extract (j + 1) (P).size)) A1 A2 c1 c2 w' (ro_of_row hh (id := 50) rfl) (ro_of_row hh (id := 55) rfl) (by omega) (by omega) (row_cap6 hh (id := 50) rfl) (row_cap6 hh (id := 55) rfl) hv2) ?_
            skip
            (conv => whnf)
            intro g12 hg12
            repeat' ((conv => whnf); first | refine walk (Tryz.ok ..) ?_ | refine side2 ?_ | fail)
            obtain ⟨T, hT⟩ : ∃ T, T = (textE F).1 := ⟨_, rfl⟩
            obtain ⟨te, hte⟩ : ∃ T, T = (textE F).2 := ⟨_, rfl⟩
            rw [← hT] at hr
            refine called_args [.a (frC F)] (congrArg (fun l => [(SV.a l).real]) (tk1 F)) ?_
            refine called_at (.t [.v (.string T), .v (.int .i64 te)]) rfl (fun w' hh => by rw [hT, hte]; exact rtext_any F w' hbig) ?_
            repeat' ((conv => whnf); first | refine walk (Tryz.ok ..) ?_ | (refine Cnd.mk (fun h => ?_) (fun h => ?_) <;> (first | exact cndT h (by (try dsimp only); omega) | exact cndF h (by (try dsimp only); omega) | (exfalso; simp at h; omega) | simp at h | skip)) | refine side2 ?_ | fail)
            · rw [if_neg h] at hr
              rw [hr]
              skip
              exact done_pure rfl rfl rfl
            · rw [if_pos h] at hr
              rw [hr]
              skip
              exact done_pure rfl rfl (congrArg (fun l => (SV.t [.a l, .v (.int .i64 0)]).real) (tk2 F))
    obtain ⟨i, rfl⟩ : ∃ i, n = i + 1 := ⟨n - 1, by omega⟩
    dsimp only
    rw [show (((i + 1 : Nat) : Int) - 1) = (i : Int) by omega]
    obtain ⟨b, hb⟩ : ∃ b, l[i]? = some b := ⟨_, List.getElem?_eq_getElem (show i < l.length by omega)⟩
    have hbt := bt_at (s := P) (k := i) (b := b) (by rw [← el]; exact hb)
    have hsl := sl_at hb
    have hsr := sl_lt l (i + 1) (by omega)
    by_cases h47 : b = 47
    · rw [if_pos h47] at hsl
      have e1 : bt P i = 47 := by rw [hbt, h47]; rfl
      repeat' ((conv => whnf); first | refine walk (Tryz.ok ..) ?_ | (refine Cnd.mk (fun h => ?_) (fun h => ?_) <;> (first | exact cndT h (by (try dsimp only); omega) | exact cndF h (by (try dsimp only); omega) | (exfalso; simp at h; omega) | simp at h | skip)) | refine side2 ?_ | refine sideL2 ?_ | fail)
      refine ⟨i, ⟨by omega, by omega⟩, ?_, ?_, rfl⟩
      · dsimp only
        rw [hsl]
        ((repeat' (first | exact trivial | exact rfl | refine And.intro ?_ ?_)) <;> (try (conv => whnf)) <;> (try simp only [SV.real, SV.r2, SV.r1]))
      · ((repeat' (first | exact trivial | exact rfl | refine And.intro ?_ ?_)) <;> (try (conv => whnf)) <;> (try simp only [SV.real, SV.r2, SV.r1]))
    · rw [if_neg h47] at hsl
      have e1 : bt P i ≠ 47 := fun e => h47 (UInt8.toNat_inj.1 (show b.toNat = 47 by omega))
      repeat' ((conv => whnf); first | refine walk (Tryz.ok ..) ?_ | (refine Cnd.mk (fun h => ?_) (fun h => ?_) <;> (first | exact cndT h (by (try dsimp only); omega) | exact cndF h (by (try dsimp only); omega) | (exfalso; simp at h; omega) | simp at h | skip)) | refine side2 ?_ | refine sideL2 ?_ | fail)
      refine ⟨i, ⟨by omega, by omega⟩, ?_, ?_, rfl⟩
      · dsimp only
        rw [hsl]
        ((repeat' (first | exact trivial | exact rfl | refine And.intro ?_ ?_)) <;> (try (conv => whnf)) <;> (try simp only [SV.real, SV.r2, SV.r1]))
      · ((repeat' (first | exact trivial | exact rfl | refine And.intro ?_ ?_)) <;> (try (conv => whnf)) <;> (try simp only [SV.real, SV.r2, SV.r1]))
end
end Go.Proofs.YtmekcdjaafegaaaGreatDoor
