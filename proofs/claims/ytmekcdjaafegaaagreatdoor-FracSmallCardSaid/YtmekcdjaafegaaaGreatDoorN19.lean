/-
  The walks of the frac package: a number is read.
-/
import Derived.Test.YtmekcdjaafegaaaGreatDoorN18
namespace Go.Proofs.YtmekcdjaafegaaaGreatDoor
open Go Sat Go.RowKit Go.PlainAid
set_option linter.unusedSimpArgs false
set_option linter.unusedVariables false
set_option maxRecDepth 100000 in
set_option maxHeartbeats 8000000 in
theorem number_long (s : ByteArray) (w : World) (hs : 78 < s.size) (hs2 : s.size ≤ 9223372036854775807) :
    Calls Tryz.prog 43 #[.string s] w fun e w' => e = .returned (.tuple #[.slice none 0 0, .bool false]) ∧ Below w.heap.size w w' := by
  refine calls_sat (cx := Tryz.cx 27 [] [] [] w) (Tryz.ok ..) Tryz.func43 rfl [.v (.string s)] rfl (by show 1 ≤ 27; omega) [] (holds_nil (Nat.le_refl _)) ?_
  repeat' ((conv => whnf); first | refine walk (Tryz.ok ..) ?_ | (refine Cnd.mk (fun h => ?_) (fun h => ?_) <;> (first | exact cndT h (by (try dsimp only); omega) | exact cndF h (by (try dsimp only); omega) | (exfalso; simp at h; omega) | simp at h | skip)) | fail)
  exact done_pure rfl rfl rfl
theorem dec_at {s : ByteArray} {k : Nat} {c : UInt8} (h : s.data.toList[k]? = some c) (hc : c.toNat < 128) : Utf8.decode s k = (c.toNat, 1) := by
  have hk : k < s.size := (List.getElem?_eq_some_iff.1 h).1
  have e : s[k]'hk = c := (List.getElem?_eq_some_iff.1 h).2
  have := decode_ascii s k hk (by rw [e]; exact hc)
  rw [e] at this
  exact this
theorem sub_wrap {c : Nat} (h1 : 48 ≤ c) (h2 : c ≤ 57) : IntKind.u64.wrap ((c : Int) - 48) = ((c - 48 : Nat) : Int) := by
  rw [IntKind.wrap_u64]
  omega
theorem len_lt8 {n : Nat} : (decide (((dg bb n).length : Int) ≤ 8)) = decide (n < big) := by
  have := dg_len (B := bb) (by decide) 8 n
  rw [← big_pow] at this
  by_cases h : n < big
  · rw [decide_eq_true h, decide_eq_true (by have := this.2 h; omega)]
  · rw [decide_eq_false h, decide_eq_false (by intro h2; exact h (this.1 (by omega)))]
set_option maxRecDepth 100000 in
set_option maxHeartbeats 8000000 in
theorem number_any (s : ByteArray) (w : World) (hs : s.size ≤ 78) (hd : ∀ c ∈ s.data.toList, isD c = true) :
    Calls Tryz.prog 43 #[.string s] w fun e w' => ∃ v, e = .returned (.tuple #[v, .bool (decide (dval s.data.toList < big))]) ∧ w'.ownsRow w.heap.size 25 1 v (dg bb (dval s.data.toList)).length (us (dg bb (dval s.data.toList))) ∧ Below w.heap.size w w' := by
  have hbb : bb = 4294967296 := rfl
  have hb2 : 2 ≤ bb := by decide
  have hsz : s.size = s.data.toList.length := rfl
  obtain ⟨l, hl⟩ : ∃ l, l = s.data.toList := ⟨_, rfl⟩
  rw [← hl] at hd hsz ⊢
  have hbd : ∀ k, k ≤ l.length → (dg bb (dval (l.take k))).length ≤ 100 := fun k hk => by
    refine (dg_len hb2 100 _).2 (Nat.lt_trans (dval_lt fun c hc => hd c (List.mem_of_mem_take hc)) ?_)
    rw [List.length_take, Nat.min_eq_left hk]
    exact Nat.lt_of_le_of_lt (Nat.pow_le_pow_right (by omega) (show k ≤ 78 by omega)) (by decide)
  refine calls_sat (cx := Tryz.cx 27 [] [] [] w) (Tryz.ok ..) Tryz.func43 rfl [.v (.string s)] rfl (by show 1 ≤ 27; omega) [] (holds_nil (Nat.le_refl _)) ?_
  repeat' ((conv => whnf); first | refine walk (Tryz.ok ..) ?_ | (refine Cnd.mk (fun h => ?_) (fun h => ?_) <;> (first | exact cndT h (by (try dsimp only); omega) | exact cndF h (by (try dsimp only); omega) | (exfalso; simp at h; omega) | simp at h | skip)) | fail)
  skip
  refine Sat.other_range_str (Tryz.ok 27 [] [] [] w.heap.size [] w).T (i := _) rfl rfl (s := s) rfl ?_
  intro g hg
  repeat' ((conv => whnf); first | refine walk (Tryz.ok ..) ?_ | fail)
  refine sat_loop (Tryz.ok ..) (α := Nat × Option (Nat × Nat) × Nat) (fun t => ([(4, .yes, .o 22 t.2.1 (dg bb (dval (l.take t.1))).length t.2.2), (11, .yes, .v (.pointer (some ⟨g, 0, none⟩)))],
      [(11, Sat.HBo g (.stringIter s t.1)), (22, .row t.2.1 25 1 (dg bb (dval (l.take t.1))).length t.2.2 (us (dg bb (dval (l.take t.1)))))]))
    (fun t => t.1 ≤ l.length) (fun t => l.length - t.1) (fun _ => rfl) ?_ ?_
  · refine ⟨(0, none, 0), Nat.zero_le _, ?_, ?_, rfl⟩
    all_goals ((repeat' (first | exact trivial | exact rfl | refine And.intro ?_ ?_)) <;> (try (conv => whnf)) <;> (try simp only [SV.real, SV.r2, SV.r1]))
  rintro ⟨k, A, cap⟩ hk
  dsimp only at hk
  have hbk := hbd k hk
  repeat' ((conv => whnf); first | refine walk (Tryz.ok ..) ?_ | fail)
  refine Sat.other_next_str 11 (g := g) (pos := k) (s := s) rfl rfl ⟨fun hlt => ?_, fun hge => ?_⟩
  · obtain ⟨c, hc⟩ : ∃ c, l[k]? = some c := ⟨l[k]'(by omega), List.getElem?_eq_getElem (by omega)⟩
    have hcd := isD_iff.1 (hd c (List.mem_of_getElem? hc))
    have hdec := dec_at (s := s) (k := k) (c := c) (by rw [← hl]; exact hc) (by omega)
    have hsw := sub_wrap hcd.1 hcd.2
    have hvt := dval_take hc
    have hbk1 := hbd (k + 1) (by omega)
    obtain ⟨V, hV⟩ : ∃ V, V = dval (l.take k) := ⟨_, rfl⟩
    obtain ⟨d, hdd⟩ : ∃ d, d = c.toNat - 48 := ⟨_, rfl⟩
    obtain ⟨cn, hcn⟩ : ∃ cn, cn = c.toNat := ⟨_, rfl⟩
    rw [hvt] at hbk1
    have hl10 : (dg bb 10).length = 1 := by decide
    rw [← hV] at hbk hvt hbk1 ⊢
    rw [← hdd] at hvt hsw hbk1
    rw [← hcn] at hcd hdec hsw hdd
    have hld : (dg bb d).length ≤ 1 := (dg_len hb2 1 d).2 (by rw [hbb]; omega)
    have hlm : (dg bb (V * 10)).length ≤ 100 := Nat.le_trans (len_le hb2 (show V * 10 ≤ 10 * V + d by omega)) hbk1
    rw [show (Utf8.decode s k).1 = cn from congrArg Prod.fst hdec, show (Utf8.decode s k).2 = 1 from congrArg Prod.snd hdec]
    repeat' ((conv => whnf); first | refine walk (Tryz.ok ..) ?_ | (refine Cnd.mk (fun h => ?_) (fun h => ?_) <;> (first | exact cndT h (by (try dsimp only); omega) | exact cndF h (by (try dsimp only); omega) | (exfalso; simp at h; omega) | simp at h | skip)) | fail)
    refine called_row 16 (xs := us (dg bb 10)) (m := (dg bb 10).length) (fun v => v) (fun A cap => .o 16 A (dg bb 10).length cap) (fun A cap => rfl) (fun w' hh => of_any 10 w' (by omega)) ?_
    intro A1 c1
    skip
    refine called_row 17 (xs := us (dg bb (V * 10))) (m := (dg bb (V * 10)).length) (fun v => v) (fun A cap => .o 17 A (dg bb (V * 10)).length cap) (fun A cap => rfl) (fun w' hh => times_any V 10 A A1 cap c1 w' (ro_of_row hh (id := 22) rfl) (ro_of_row hh (id := 16) rfl) (by omega) (by omega)) ?_
    intro A2 c2
    repeat' ((conv => whnf); first | refine sideL2 ?_ | fail)
    skip
    refine called_args [.v (.int .u64 (d : Int))] (congrArg (fun x => [Value.int .u64 x]) (by omega)) ?_
    refine called_row 21 (xs := us (dg bb d)) (m := (dg bb d).length) (fun v => v) (fun A cap => .o 21 A (dg bb d).length cap) (fun A cap => rfl) (fun w' hh => of_any d w' (by omega)) ?_
    intro A3 c3
    skip
    refine called_row 22 (xs := us (dg bb (V * 10 + d))) (m := (dg bb (V * 10 + d)).length) (fun v => v) (fun A cap => .o 22 A (dg bb (V * 10 + d)).length cap) (fun A cap => rfl) (fun w' hh => plus_any (V * 10) d A2 A3 c2 c3 w' (ro_of_row hh (id := 17) rfl) (ro_of_row hh (id := 21) rfl) (by omega) (by omega)) ?_
    intro A4 c4
    skip
    refine ⟨(k + 1, A4, c4), ⟨by show k + 1 ≤ l.length; omega, by show l.length - (k + 1) < l.length - k; omega⟩, ?_, ?_, rfl⟩
    · dsimp only
      rw [hvt, Nat.mul_comm 10 V]
      ((repeat' (first | exact trivial | exact rfl | refine And.intro ?_ ?_)) <;> (try (conv => whnf)) <;> (try simp only [SV.real, SV.r2, SV.r1]))
    · dsimp only
      rw [hvt, Nat.mul_comm 10 V]
      ((repeat' (first | exact trivial | exact rfl | refine And.intro ?_ ?_)) <;> (try (conv => whnf)) <;> (try simp only [SV.real, SV.r2, SV.r1]))
  · obtain rfl : k = l.length := by omega
    have hfin := len_lt8 (n := dval l)
    rw [List.take_length] at hbk ⊢
    rw [← hfin]
    repeat' ((conv => whnf); first | refine walk (Tryz.ok ..) ?_ | (refine Cnd.mk (fun h => ?_) (fun h => ?_) <;> (first | exact cndT h (by (try dsimp only); omega) | exact cndF h (by (try dsimp only); omega) | (exfalso; simp at h; omega) | simp at h | skip)) | fail)
    exact done_row (mk := fun v => .tuple #[v, .bool (decide (((dg bb (dval l)).length : Int) ≤ 8))]) rfl rfl 22 A cap rfl rfl
end Go.Proofs.YtmekcdjaafegaaaGreatDoor
