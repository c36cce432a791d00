/-
  The walks of the reference: a number is read.
-/
import Derived.Test.YtmekcdjaafegaaaGreatDoorR17
import Derived.Test.YtmekcdjaafegaaaGreatDoorN18
namespace Go.Proofs.YtmekcdjaafegaaaGreatDoor
open Go Sat Go.RowKit Go.PlainAid
set_option linter.unusedSimpArgs false
set_option linter.unusedVariables false
theorem bt_at {s : ByteArray} {k : Nat} {b : UInt8} (h : s.data.toList[k]? = some b) : bt s k = (b.toNat : Int) := by
  have hk : k < s.size := by
    have := (List.getElem?_eq_some_iff.1 h).1
    simpa using this
  unfold bt
  rw [dif_pos hk]
  have : s.data.toList[k]'(by simpa using hk) = b := (List.getElem?_eq_some_iff.1 h).2
  rw [← this]
  rfl
theorem fold_ge : ∀ (m : List UInt8) (v : Nat), v ≤ m.foldl (fun v c => 10 * v + (c.toNat - 48)) v
  | [], v => Nat.le_refl v
  | c :: m, v => Nat.le_trans (by omega) (fold_ge m (10 * v + (c.toNat - 48)))
theorem dval_mono (l : List UInt8) (k : Nat) : dval (l.take k) ≤ dval l := by
  have h : dval l = (l.drop k).foldl (fun v c => 10 * v + (c.toNat - 48)) (dval (l.take k)) := by
    unfold dval
    rw [← List.foldl_append, List.take_append_drop]
  rw [h]
  exact fold_ge _ _
theorem dB_nil : dB ⟨#[]⟩ = false := rfl
theorem dB_iff {s : ByteArray} (h0 : s ≠ ⟨#[]⟩) : dB s = true ↔ (∀ c ∈ s.data.toList, isD c = true) ∧ (s = ⟨#[48]⟩ ∨ bt s 0 ≠ 48) := by
  obtain ⟨⟨l⟩⟩ := s
  cases l with
  | nil => exact absurd rfl h0
  | cons a l =>
    have e5 : bt (⟨⟨a :: l⟩⟩ : ByteArray) 0 = (a.toNat : Int) := rfl
    have e6 : ((⟨⟨a :: l⟩⟩ : ByteArray) = ⟨#[48]⟩) ↔ a :: l = [48] := ba_eq
    have e7 : (a.toNat : Int) ≠ 48 ↔ a ≠ 48 := by
      constructor
      · rintro h rfl; exact h rfl
      · intro h e
        exact h (UInt8.toNat_inj.1 (show a.toNat = 48 by omega))
    rw [e5, e6, e7]
    unfold dB digB
    simp only [List.isEmpty_cons, Bool.not_false, Bool.true_and, Bool.and_eq_true, Bool.or_eq_true, beq_iff_eq, bne_iff_ne, List.head?_cons, ne_eq, Option.some.injEq, List.all_eq_true]
theorem len_pos {s : ByteArray} (h0 : s ≠ ⟨#[]⟩) : 0 < s.size := Nat.pos_of_ne_zero fun h => h0 (ba_eq.2 (List.eq_nil_of_length_eq_zero h))
set_option maxRecDepth 100000 in
set_option maxHeartbeats 8000000 in
theorem rnumber_no (s : ByteArray) (w : World) (hs : s.size ≤ 4294967280) (hd : dB s = false) :
    Calls Tryz.prog 45 #[.string s] w fun e w' => e = .returned (.tuple #[.slice none 0 0, .int .i64 1]) ∧ Below w.heap.size w w' := by
  refine calls_sat (cx := Tryz.cx 53 [12, 13] [] [] w) (Tryz.ok ..) Tryz.func45 rfl [.v (.string s)] rfl (by show 1 ≤ 53; omega) [] (holds_nil (Nat.le_refl _)) ?_
  by_cases h0 : s = ⟨#[]⟩
  · subst h0
    repeat' ((conv => whnf); first | refine walk (Tryz.ok ..) ?_ | (refine Cnd.mk (fun h => ?_) (fun h => ?_) <;> (first | exact cndT h (by (try dsimp only); omega) | exact cndF h (by (try dsimp only); omega) | (exfalso; simp at h; omega) | simp at h | skip)) | refine side2 ?_ | fail)
    exact done_pure rfl rfl rfl
  have hl := len_pos h0
  have hsz : s.data.toList.length = s.size := by simp
  have hiff := dB_iff h0
  repeat' ((conv => whnf); first | refine walk (Tryz.ok ..) ?_ | (refine Cnd.mk (fun h => ?_) (fun h => ?_) <;> (first | exact cndT h (by (try dsimp only); omega) | exact cndF h (by (try dsimp only); omega) | (exfalso; simp at h; omega) | simp at h | skip)) | refine side2 ?_ | fail)
  · exact done_pure rfl rfl rfl
  have hor : s = ⟨#[48]⟩ ∨ bt s 0 ≠ 48 := by
    by_cases h1 : bt s 0 = 48
    · exact .inl (h.2 h1)
    · exact .inr h1
  refine sat_loop (Tryz.ok ..) (α := Nat) (fun k => ([(0, .yes, .v (.string s)), (4, .yes, .v (.int .i64 k))], [])) (fun k => k ≤ s.size ∧ ∀ i b, i < k → s.data.toList[i]? = some b → isD b = true) (fun k => s.size - k) (fun _ => rfl) ?_ ?_
  · refine ⟨0, ⟨Nat.zero_le _, fun i b hi _ => absurd hi (Nat.not_lt_zero _)⟩, ?_, ?_, rfl⟩
    all_goals ((repeat' (first | exact trivial | exact rfl | refine And.intro ?_ ?_)) <;> (try (conv => whnf)) <;> (try simp only [SV.real, SV.r2, SV.r1]))
  rintro k ⟨hk, hkd⟩
  by_cases hks : k < s.size
  · obtain ⟨b, hb⟩ : ∃ b, s.data.toList[k]? = some b := ⟨_, List.getElem?_eq_getElem (show k < s.data.toList.length by omega)⟩
    have hbt := bt_at hb
    by_cases hbd : isD b = true
    · have hc := isD_iff.1 hbd
      have e1 : 48 ≤ bt s k := by omega
      have e2 : bt s k ≤ 57 := by omega
      repeat' ((conv => whnf); first | refine walk (Tryz.ok ..) ?_ | (refine Cnd.mk (fun h => ?_) (fun h => ?_) <;> (first | exact cndT h (by (try dsimp only); omega) | exact cndF h (by (try dsimp only); omega) | (exfalso; simp at h; omega) | simp at h | skip)) | refine side2 ?_ | refine sideL2 ?_ | fail)
      refine ⟨k + 1, ⟨⟨by omega, fun i b' hi hb' => ?_⟩, by omega⟩, ?_, ?_, rfl⟩
      · rcases Nat.lt_or_ge i k with h1 | h1
        · exact hkd i b' h1 hb'
        · obtain rfl : i = k := by omega
          rw [hb] at hb'
          injection hb' with hb'
          rw [← hb']
          exact hbd
      · ((repeat' (first | exact trivial | exact rfl | refine And.intro ?_ ?_)) <;> (try (conv => whnf)) <;> (try simp only [SV.real, SV.r2, SV.r1]))
      · ((repeat' (first | exact trivial | exact rfl | refine And.intro ?_ ?_)) <;> (try (conv => whnf)) <;> (try simp only [SV.real, SV.r2, SV.r1]))
    · have hc : bt s k < 48 ∨ 57 < bt s k := by
        have := mt isD_iff.2 hbd
        omega
      repeat' ((conv => whnf); first | refine walk (Tryz.ok ..) ?_ | (refine Cnd.mk (fun h => ?_) (fun h => ?_) <;> (first | exact cndT h (by (try dsimp only); omega) | exact cndF h (by (try dsimp only); omega) | (exfalso; simp at h; omega) | simp at h | skip)) | refine side2 ?_ | fail)
      exact done_pure rfl rfl rfl
  · exfalso
    have : dB s = true := hiff.2 ⟨fun c hc => by
      obtain ⟨i, hi, rfl⟩ := List.mem_iff_getElem.1 hc
      exact hkd i _ (by omega) (List.getElem?_eq_getElem hi), hor⟩
    rw [this] at hd
    cases hd
theorem dg16 {n : Nat} : (dg b6 n).length ≤ 16 ↔ n < big := by
  have := dg_len (B := b6) b6_2 16 n
  rw [← big_b6] at this
  exact this
set_option maxRecDepth 100000 in
set_option maxHeartbeats 8000000 in
theorem rnumber_any (s : ByteArray) (w : World) (hs : s.size ≤ 4294967280) (hd : dB s = true) (hv : dval s.data.toList < big) :
    Calls Tryz.prog 45 #[.string s] w fun e w' => ∃ v, e = .returned (.tuple #[v, .int .i64 0]) ∧ w'.ownsRow w.heap.size 3 1 v (dg b6 (dval s.data.toList)).length (iv (dg b6 (dval s.data.toList))) ∧ Below w.heap.size w w' := by
  have h0 : s ≠ ⟨#[]⟩ := fun e => by rw [e] at hd; cases hd
  have hl := len_pos h0
  have hsz : s.data.toList.length = s.size := by simp
  obtain ⟨hall, hor⟩ := (dB_iff h0).1 hd
  refine calls_sat (cx := Tryz.cx 53 [12, 13] [] [] w) (Tryz.ok ..) Tryz.func45 rfl [.v (.string s)] rfl (by show 1 ≤ 53; omega) [] (holds_nil (Nat.le_refl _)) ?_
  repeat' ((conv => whnf); first | refine walk (Tryz.ok ..) ?_ | (refine Cnd.mk (fun h => ?_) (fun h => ?_) <;> (first | exact cndT h (by (try dsimp only); omega) | exact cndF h (by (try dsimp only); omega) | (exfalso; simp at h; omega) | simp at h | skip)) | refine side2 ?_ | fail)
  · exact (h.elim (fun e => h0 e) (fun e => hor.elim e.2 (fun e' => e' e.1))).elim
  refine sat_loop (Tryz.ok ..) (α := Nat) (fun k => ([(0, .yes, .v (.string s)), (4, .yes, .v (.int .i64 k))], [])) (fun k => k ≤ s.size ∧ ∀ i b, i < k → s.data.toList[i]? = some b → isD b = true) (fun k => s.size - k) (fun _ => rfl) ?_ ?_
  · refine ⟨0, ⟨Nat.zero_le _, fun i b hi _ => absurd hi (Nat.not_lt_zero _)⟩, ?_, ?_, rfl⟩
    all_goals ((repeat' (first | exact trivial | exact rfl | refine And.intro ?_ ?_)) <;> (try (conv => whnf)) <;> (try simp only [SV.real, SV.r2, SV.r1]))
  rintro k ⟨hk, hkd⟩
  by_cases hks : k < s.size
  · obtain ⟨b, hb⟩ : ∃ b, s.data.toList[k]? = some b := ⟨_, List.getElem?_eq_getElem (show k < s.data.toList.length by omega)⟩
    have hbt := bt_at hb
    have hbd : isD b = true := hall b (List.mem_of_getElem? hb)
    have hc := isD_iff.1 hbd
    have e1 : 48 ≤ bt s k := by omega
    have e2 : bt s k ≤ 57 := by omega
    repeat' ((conv => whnf); first | refine walk (Tryz.ok ..) ?_ | (refine Cnd.mk (fun h => ?_) (fun h => ?_) <;> (first | exact cndT h (by (try dsimp only); omega) | exact cndF h (by (try dsimp only); omega) | (exfalso; simp at h; omega) | simp at h | skip)) | refine side2 ?_ | refine sideL2 ?_ | fail)
    refine ⟨k + 1, ⟨⟨by omega, fun i b' hi hb' => ?_⟩, by omega⟩, ?_, ?_, rfl⟩
    · rcases Nat.lt_or_ge i k with h1 | h1
      · exact hkd i b' h1 hb'
      · obtain rfl : i = k := by omega
        rw [hb] at hb'
        injection hb' with hb'
        rw [← hb']
        exact hbd
    · ((repeat' (first | exact trivial | exact rfl | refine And.intro ?_ ?_)) <;> (try (conv => whnf)) <;> (try simp only [SV.real, SV.r2, SV.r1]))
    · ((repeat' (first | exact trivial | exact rfl | refine And.intro ?_ ?_)) <;> (try (conv => whnf)) <;> (try simp only [SV.real, SV.r2, SV.r1]))
  obtain rfl : k = s.size := by omega
  repeat' ((conv => whnf); first | refine walk (Tryz.ok ..) ?_ | (refine Cnd.mk (fun h => ?_) (fun h => ?_) <;> (first | exact cndT h (by (try dsimp only); omega) | exact cndF h (by (try dsimp only); omega) | (exfalso; simp at h; omega) | simp at h | skip)) | fail)
  obtain ⟨l, el⟩ : ∃ l, l = s.data.toList := ⟨_, rfl⟩
  rw [← el] at hsz hall hv
  try rw [← el]
  refine sat_loop (Tryz.ok ..) (α := Nat × Option (Nat × Nat) × Nat) (fun t => ([(0, .yes, .v (.string s)), (5, .yes, .o 48 t.2.1 (dg b6 (dval (l.take t.1))).length t.2.2), (6, .yes, .v (.int .i64 t.1))], [(48, .row t.2.1 3 1 (dg b6 (dval (l.take t.1))).length t.2.2 (iv (dg b6 (dval (l.take t.1)))))]))
    (fun t => t.1 ≤ l.length ∧ dval (l.take t.1) < big) (fun t => l.length - t.1) (fun _ => rfl) ?_ ?_
  · refine ⟨(0, none, 0), ⟨Nat.zero_le _, by show (0 : Nat) < big; decide⟩, ?_, ?_, rfl⟩
    all_goals ((repeat' (first | exact trivial | exact rfl | refine And.intro ?_ ?_)) <;> (try (conv => whnf)) <;> (try simp only [SV.real, SV.r2, SV.r1]))
  rintro ⟨k, A, cap⟩ ⟨hk, hkb⟩
  dsimp only at hk hkb ⊢
  by_cases hks : k < l.length
  · obtain ⟨b, hb⟩ : ∃ b, l[k]? = some b := ⟨_, List.getElem?_eq_getElem hks⟩
    have hbt := bt_at (s := s) (k := k) (b := b) (by rw [← el]; exact hb)
    have hc := isD_iff.1 (hall b (List.mem_of_getElem? hb))
    have hvt := dval_take hb
    have hmono := dval_mono l (k + 1)
    obtain ⟨d, hdd⟩ : ∃ d, d = b.toNat - 48 := ⟨_, rfl⟩
    obtain ⟨V, hV⟩ : ∃ V, V = dval (l.take k) := ⟨_, rfl⟩
    rw [← hV] at hkb hvt ⊢
    rw [← hdd] at hvt
    have e1 : 48 ≤ bt s k := by omega
    have e2 : bt s k ≤ 57 := by omega
    have e3 : bt s k = 48 + (d : Int) := by omega
    have hks2 : k < s.size := by omega
    have hVl := dg16.2 hkb
    have hd4 : (dg b6 d).length ≤ 1 := (dg_len b6_2 1 d).2 (by rw [Nat.pow_one]; show d < 65536; omega)
    have hm17 : (dg b6 (V * 10)).length ≤ 17 := (dg_len b6_2 17 (V * 10)).2 (by
      have h1 : b6 ^ 17 = b6 ^ 16 * 65536 := Nat.pow_succ ..
      rw [h1, ← big_b6]
      omega)
    repeat' ((conv => whnf); first | refine walk (Tryz.ok ..) ?_ | (refine Cnd.mk (fun h => ?_) (fun h => ?_) <;> (first | exact cndT h (by (try dsimp only); omega) | exact cndF h (by (try dsimp only); omega) | (exfalso; simp at h; omega) | simp at h | skip)) | fail)
    refine sat_draw (Tryz.ok ..) [] [(48, .row A 3 1 (dg b6 V).length cap (iv (dg b6 V)))] (by kernel_rfl) (fun w hw => hw.sub ?_) ?_
    · ((repeat' (first | exact trivial | exact rfl | refine And.intro ?_ ?_)) <;> (try (conv => whnf)) <;> (try simp only [SV.real, SV.r2, SV.r1]))
    repeat' ((conv => whnf); first | refine side2 ?_ | refine sideL2 ?_ | fail)
    refine called_row 41 (xs := iv (dg b6 (V * 10))) (m := (dg b6 (V * 10)).length) (fun v => v) (fun A cap => .o 41 A (dg b6 (V * 10)).length cap) (fun _ _ => rfl) (fun w' hh => by exact rscale_any V 10 A cap w' (by omega) (ro_of_row hh (id := 48) rfl) (by omega)) ?_
    intro A1 c1
    repeat' ((conv => whnf); first | refine kp ?_ ?_ | exact trivial | refine side2 ?_ | fail)
    refine called_args [.v (.int .u64 (d : Int))] (congrArg (fun x => [Value.int .u64 x]) (by first | (show (d : Int) = bt s k - 48; omega) | (show bt s k - 48 = (d : Int); omega))) ?_
    refine called_row 47 (xs := iv (dg b6 d)) (m := (dg b6 d).length) (fun v => v) (fun A cap => .o 47 A (dg b6 d).length cap) (fun _ _ => rfl) (fun w' hh => by exact whole_any d w' (by omega)) ?_
    intro A2 c2
    repeat' ((conv => whnf); first | refine kp ?_ ?_ | exact trivial | refine side2 ?_ | fail)
    refine called_row 49 (xs := iv (dg b6 (V * 10 + d))) (m := (dg b6 (V * 10 + d)).length) (fun v => v) (fun A cap => .o 49 A (dg b6 (V * 10 + d)).length cap) (fun _ _ => rfl) (fun w' hh => by exact radd_any (V * 10) d A1 A2 c1 c2 w' (ro_of_row hh (id := 41) rfl) (ro_of_row hh (id := 47) rfl) (by omega) (by omega)) ?_
    intro A3 c3
    repeat' ((conv => whnf); first | refine walk (Tryz.ok ..) ?_ | refine kp ?_ ?_ | exact trivial | refine side2 ?_ | fail)
    refine sat_ren [(0, .yes, .v (.string s)), (5, .yes, .o 48 A3 (dg b6 (V * 10 + d)).length c3), (6, .yes, .v (.int .i64 k))] [(48, 49, .row A3 3 1 (dg b6 (V * 10 + d)).length c3 (iv (dg b6 (V * 10 + d))))] ?_ rfl rfl rfl ?_ ?_
    · rfl
    · ((repeat' (first | exact trivial | exact rfl | refine And.intro ?_ ?_)) <;> (try (conv => whnf)) <;> (try simp only [SV.real, SV.r2, SV.r1]))
    refine sat_ops (Tryz.ok ..) ?_
    have hl16 : (dg b6 (V * 10 + d)).length ≤ 16 := dg16.2 (by omega)
    repeat' ((conv => whnf); first | refine walk (Tryz.ok ..) ?_ | (refine Cnd.mk (fun h => ?_) (fun h => ?_) <;> (first | exact cndT h (by (try dsimp only); omega) | exact cndF h (by (try dsimp only); omega) | (exfalso; simp at h; omega) | simp at h | skip)) | refine sideL2 ?_ | fail)
    refine ⟨(k + 1, A3, c3), ⟨⟨hks, by dsimp only; omega⟩, by dsimp only; omega⟩, ?_, ?_, rfl⟩
    · dsimp only
      rw [hvt, Nat.mul_comm 10 V]
      ((repeat' (first | exact trivial | exact rfl | refine And.intro ?_ ?_)) <;> (try (conv => whnf)) <;> (try simp only [SV.real, SV.r2, SV.r1]))
    · dsimp only
      rw [hvt, Nat.mul_comm 10 V]
      ((repeat' (first | exact trivial | exact rfl | refine And.intro ?_ ?_)) <;> (try (conv => whnf)) <;> (try simp only [SV.real, SV.r2, SV.r1]))
  · obtain rfl : k = l.length := by omega
    rw [List.take_length]
    repeat' ((conv => whnf); first | refine walk (Tryz.ok ..) ?_ | (refine Cnd.mk (fun h => ?_) (fun h => ?_) <;> (first | exact cndT h (by (try dsimp only); omega) | exact cndF h (by (try dsimp only); omega) | (exfalso; simp at h; omega) | simp at h | skip)) | fail)
    exact done_row (mk := fun v => .tuple #[v, .int .i64 0]) rfl rfl 48 A cap rfl rfl
set_option maxRecDepth 100000 in
set_option maxHeartbeats 8000000 in
theorem rnumber_big (s : ByteArray) (w : World) (hs : s.size ≤ 4294967280) (hd : dB s = true) (hv : big ≤ dval s.data.toList) :
    Calls Tryz.prog 45 #[.string s] w fun e w' => e = .returned (.tuple #[.slice none 0 0, .int .i64 2]) ∧ Below w.heap.size w w' := by
  have h0 : s ≠ ⟨#[]⟩ := fun e => by rw [e] at hd; cases hd
  have hl := len_pos h0
  have hsz : s.data.toList.length = s.size := by simp
  obtain ⟨hall, hor⟩ := (dB_iff h0).1 hd
  refine calls_sat (cx := Tryz.cx 53 [12, 13] [] [] w) (Tryz.ok ..) Tryz.func45 rfl [.v (.string s)] rfl (by show 1 ≤ 53; omega) [] (holds_nil (Nat.le_refl _)) ?_
  repeat' ((conv => whnf); first | refine walk (Tryz.ok ..) ?_ | (refine Cnd.mk (fun h => ?_) (fun h => ?_) <;> (first | exact cndT h (by (try dsimp only); omega) | exact cndF h (by (try dsimp only); omega) | (exfalso; simp at h; omega) | simp at h | skip)) | refine side2 ?_ | fail)
  · exact (h.elim (fun e => h0 e) (fun e => hor.elim e.2 (fun e' => e' e.1))).elim
  refine sat_loop (Tryz.ok ..) (α := Nat) (fun k => ([(0, .yes, .v (.string s)), (4, .yes, .v (.int .i64 k))], [])) (fun k => k ≤ s.size ∧ ∀ i b, i < k → s.data.toList[i]? = some b → isD b = true) (fun k => s.size - k) (fun _ => rfl) ?_ ?_
  · refine ⟨0, ⟨Nat.zero_le _, fun i b hi _ => absurd hi (Nat.not_lt_zero _)⟩, ?_, ?_, rfl⟩
    all_goals ((repeat' (first | exact trivial | exact rfl | refine And.intro ?_ ?_)) <;> (try (conv => whnf)) <;> (try simp only [SV.real, SV.r2, SV.r1]))
  rintro k ⟨hk, hkd⟩
  by_cases hks : k < s.size
  · obtain ⟨b, hb⟩ : ∃ b, s.data.toList[k]? = some b := ⟨_, List.getElem?_eq_getElem (show k < s.data.toList.length by omega)⟩
    have hbt := bt_at hb
    have hbd : isD b = true := hall b (List.mem_of_getElem? hb)
    have hc := isD_iff.1 hbd
    have e1 : 48 ≤ bt s k := by omega
    have e2 : bt s k ≤ 57 := by omega
    repeat' ((conv => whnf); first | refine walk (Tryz.ok ..) ?_ | (refine Cnd.mk (fun h => ?_) (fun h => ?_) <;> (first | exact cndT h (by (try dsimp only); omega) | exact cndF h (by (try dsimp only); omega) | (exfalso; simp at h; omega) | simp at h | skip)) | refine side2 ?_ | refine sideL2 ?_ | fail)
    refine ⟨k + 1, ⟨⟨by omega, fun i b' hi hb' => ?_⟩, by omega⟩, ?_, ?_, rfl⟩
    · rcases Nat.lt_or_ge i k with h1 | h1
      · exact hkd i b' h1 hb'
      · obtain rfl : i = k := by omega
        rw [hb] at hb'
        injection hb' with hb'
        rw [← hb']
        exact hbd
    · ((repeat' (first | exact trivial | exact rfl | refine And.intro ?_ ?_)) <;> (try (conv => whnf)) <;> (try simp only [SV.real, SV.r2, SV.r1]))
    · ((repeat' (first | exact trivial | exact rfl | refine And.intro ?_ ?_)) <;> (try (conv => whnf)) <;> (try simp only [SV.real, SV.r2, SV.r1]))
  obtain rfl : k = s.size := by omega
  repeat' ((conv => whnf); first | refine walk (Tryz.ok ..) ?_ | (refine Cnd.mk (fun h => ?_) (fun h => ?_) <;> (first | exact cndT h (by (try dsimp only); omega) | exact cndF h (by (try dsimp only); omega) | (exfalso; simp at h; omega) | simp at h | skip)) | fail)
  obtain ⟨l, el⟩ : ∃ l, l = s.data.toList := ⟨_, rfl⟩
  rw [← el] at hsz hall hv
  try rw [← el]
  refine sat_loop (Tryz.ok ..) (α := Nat × Option (Nat × Nat) × Nat) (fun t => ([(0, .yes, .v (.string s)), (5, .yes, .o 48 t.2.1 (dg b6 (dval (l.take t.1))).length t.2.2), (6, .yes, .v (.int .i64 t.1))], [(48, .row t.2.1 3 1 (dg b6 (dval (l.take t.1))).length t.2.2 (iv (dg b6 (dval (l.take t.1)))))]))
    (fun t => t.1 ≤ l.length ∧ dval (l.take t.1) < big) (fun t => l.length - t.1) (fun _ => rfl) ?_ ?_
  · refine ⟨(0, none, 0), ⟨Nat.zero_le _, by show (0 : Nat) < big; decide⟩, ?_, ?_, rfl⟩
    all_goals ((repeat' (first | exact trivial | exact rfl | refine And.intro ?_ ?_)) <;> (try (conv => whnf)) <;> (try simp only [SV.real, SV.r2, SV.r1]))
  rintro ⟨k, A, cap⟩ ⟨hk, hkb⟩
  dsimp only at hk hkb ⊢
  by_cases hks : k < l.length
  · obtain ⟨b, hb⟩ : ∃ b, l[k]? = some b := ⟨_, List.getElem?_eq_getElem hks⟩
    have hbt := bt_at (s := s) (k := k) (b := b) (by rw [← el]; exact hb)
    have hc := isD_iff.1 (hall b (List.mem_of_getElem? hb))
    have hvt := dval_take hb
    have hmono := dval_mono l (k + 1)
    obtain ⟨d, hdd⟩ : ∃ d, d = b.toNat - 48 := ⟨_, rfl⟩
    obtain ⟨V, hV⟩ : ∃ V, V = dval (l.take k) := ⟨_, rfl⟩
    rw [← hV] at hkb hvt ⊢
    rw [← hdd] at hvt
    have e1 : 48 ≤ bt s k := by omega
    have e2 : bt s k ≤ 57 := by omega
    have e3 : bt s k = 48 + (d : Int) := by omega
    have hks2 : k < s.size := by omega
    have hVl := dg16.2 hkb
    have hd4 : (dg b6 d).length ≤ 1 := (dg_len b6_2 1 d).2 (by rw [Nat.pow_one]; show d < 65536; omega)
    have hm17 : (dg b6 (V * 10)).length ≤ 17 := (dg_len b6_2 17 (V * 10)).2 (by
      have h1 : b6 ^ 17 = b6 ^ 16 * 65536 := Nat.pow_succ ..
      rw [h1, ← big_b6]
      omega)
    repeat' ((conv => whnf); first | refine walk (Tryz.ok ..) ?_ | (refine Cnd.mk (fun h => ?_) (fun h => ?_) <;> (first | exact cndT h (by (try dsimp only); omega) | exact cndF h (by (try dsimp only); omega) | (exfalso; simp at h; omega) | simp at h | skip)) | fail)
    refine sat_draw (Tryz.ok ..) [] [(48, .row A 3 1 (dg b6 V).length cap (iv (dg b6 V)))] (by kernel_rfl) (fun w hw => hw.sub ?_) ?_
    · ((repeat' (first | exact trivial | exact rfl | refine And.intro ?_ ?_)) <;> (try (conv => whnf)) <;> (try simp only [SV.real, SV.r2, SV.r1]))
    repeat' ((conv => whnf); first | refine side2 ?_ | refine sideL2 ?_ | fail)
    refine called_row 41 (xs := iv (dg b6 (V * 10))) (m := (dg b6 (V * 10)).length) (fun v => v) (fun A cap => .o 41 A (dg b6 (V * 10)).length cap) (fun _ _ => rfl) (fun w' hh => by exact rscale_any V 10 A cap w' (by omega) (ro_of_row hh (id := 48) rfl) (by omega)) ?_
    intro A1 c1
    repeat' ((conv => whnf); first | refine kp ?_ ?_ | exact trivial | refine side2 ?_ | fail)
    refine called_args [.v (.int .u64 (d : Int))] (congrArg (fun x => [Value.int .u64 x]) (by first | (show (d : Int) = bt s k - 48; omega) | (show bt s k - 48 = (d : Int); omega))) ?_
    refine called_row 47 (xs := iv (dg b6 d)) (m := (dg b6 d).length) (fun v => v) (fun A cap => .o 47 A (dg b6 d).length cap) (fun _ _ => rfl) (fun w' hh => by exact whole_any d w' (by omega)) ?_
    intro A2 c2
    repeat' ((conv => whnf); first | refine kp ?_ ?_ | exact trivial | refine side2 ?_ | fail)
    refine called_row 49 (xs := iv (dg b6 (V * 10 + d))) (m := (dg b6 (V * 10 + d)).length) (fun v => v) (fun A cap => .o 49 A (dg b6 (V * 10 + d)).length cap) (fun _ _ => rfl) (fun w' hh => by exact radd_any (V * 10) d A1 A2 c1 c2 w' (ro_of_row hh (id := 41) rfl) (ro_of_row hh (id := 47) rfl) (by omega) (by omega)) ?_
    intro A3 c3
    repeat' ((conv => whnf); first | refine walk (Tryz.ok ..) ?_ | refine kp ?_ ?_ | exact trivial | refine side2 ?_ | fail)
    refine sat_ren [(0, .yes, .v (.string s)), (5, .yes, .o 48 A3 (dg b6 (V * 10 + d)).length c3), (6, .yes, .v (.int .i64 k))] [(48, 49, .row A3 3 1 (dg b6 (V * 10 + d)).length c3 (iv (dg b6 (V * 10 + d))))] ?_ rfl rfl rfl ?_ ?_
    · rfl
    · ((repeat' (first | exact trivial | exact rfl | refine And.intro ?_ ?_)) <;> (try (conv => whnf)) <;> (try simp only [SV.real, SV.r2, SV.r1]))
    refine sat_ops (Tryz.ok ..) ?_
    by_cases hbg : V * 10 + d < big
    · have hl16 : (dg b6 (V * 10 + d)).length ≤ 16 := dg16.2 (by omega)
      repeat' ((conv => whnf); first | refine walk (Tryz.ok ..) ?_ | (refine Cnd.mk (fun h => ?_) (fun h => ?_) <;> (first | exact cndT h (by (try dsimp only); omega) | exact cndF h (by (try dsimp only); omega) | (exfalso; simp at h; omega) | simp at h | skip)) | refine sideL2 ?_ | fail)
      refine ⟨(k + 1, A3, c3), ⟨⟨hks, by dsimp only; omega⟩, by dsimp only; omega⟩, ?_, ?_, rfl⟩
      · dsimp only
        rw [hvt, Nat.mul_comm 10 V]
        ((repeat' (first | exact trivial | exact rfl | refine And.intro ?_ ?_)) <;> (try (conv => whnf)) <;> (try simp only [SV.real, SV.r2, SV.r1]))
      · dsimp only
        rw [hvt, Nat.mul_comm 10 V]
        ((repeat' (first | exact trivial | exact rfl | refine And.intro ?_ ?_)) <;> (try (conv => whnf)) <;> (try simp only [SV.real, SV.r2, SV.r1]))
    · have hl16 : ¬ (dg b6 (V * 10 + d)).length ≤ 16 := mt dg16.1 hbg
      repeat' ((conv => whnf); first | refine walk (Tryz.ok ..) ?_ | (refine Cnd.mk (fun h => ?_) (fun h => ?_) <;> (first | exact cndT h (by (try dsimp only); omega) | exact cndF h (by (try dsimp only); omega) | (exfalso; simp at h; omega) | simp at h | skip)) | fail)
      exact done_pure rfl rfl rfl
  · obtain rfl : k = l.length := by omega
    rw [List.take_length] at hkb
    omega
end Go.Proofs.YtmekcdjaafegaaaGreatDoor
