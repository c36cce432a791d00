/-
  The walks of the reference: the decimal text of a whole number.
-/
import Derived.Test.YtmekcdjaafegaaaGreatDoorR14
import Derived.Test.YtmekcdjaafegaaaGreatDoorN17
namespace Go.Proofs.YtmekcdjaafegaaaGreatDoor
open Go Sat Go.RowKit Go.PlainAid
set_option linter.unusedSimpArgs false
set_option linter.unusedVariables false
theorem dg6_ten : dg b6 10 = [10] := by
  rw [dg_pos b6_2 (by omega)]
  rfl
def tt (k n : Nat) : List UInt8 := ((List.range k).map fun i => dch (n / 10 ^ i % 10)).reverse
def tB (k n : Nat) : ByteArray := ⟨(tt k n).toArray⟩
theorem tt_len (k n : Nat) : (tt k n).length = k := by simp [tt]
theorem tB_size (k n : Nat) : (tB k n).size = k := by
  show (tt k n).toArray.size = k
  rw [List.size_toArray, tt_len]
theorem tt_succ (k n : Nat) : tt (k + 1) n = dch (n / 10 ^ k % 10) :: tt k n := by
  unfold tt
  rw [List.range_succ, List.map_append, List.reverse_append]
  rfl
theorem tt_all (n : Nat) : tt (dg 10 n).length n = ((dg 10 n).map dch).reverse := by
  unfold tt
  congr 1
  refine List.ext_getElem? fun i => ?_
  rw [List.getElem?_map, List.getElem?_map]
  rcases Nat.lt_or_ge i (dg 10 n).length with hi | hi
  · rw [List.getElem?_range hi, dg_get (by decide) i n hi]
    rfl
  · rw [List.getElem?_eq_none (by simpa using hi), List.getElem?_eq_none hi]
    rfl
theorem tB_next {k n : Nat} {d : Int} (h : d = ((n / 10 ^ k % 10 : Nat) : Int)) : strOf [IntKind.u8.wrap (48 + d)] ++ tB k n = tB (k + 1) n := by
  have hd : n / 10 ^ k % 10 < 10 := Nat.mod_lt _ (by decide)
  refine ByteArray.ext ?_
  refine Array.toList_inj.1 ?_
  rw [ByteArray.data_append, Array.toList_append, strOf_data]
  show _ ++ tt k n = tt (k + 1) n
  rw [tt_succ]
  subst h
  rw [IntKind.wrap_u8]
  show [UInt8.ofNat _] ++ _ = _
  rw [show ((48 + ((n / 10 ^ k % 10 : Nat) : Int)) % 256).toNat = 48 + n / 10 ^ k % 10 by omega]
  rfl
theorem tB_end {k n : Nat} (h0 : 0 < k) (h : n / 10 ^ k = 0) (hk : k ≤ max 1 (dg 10 n).length) : tB k n = txN n := by
  have hl : (dg 10 n).length ≤ k := (dg_len (by decide) k n).2 ((Nat.div_eq_zero_iff.1 h).resolve_left (Nat.ne_of_gt (Nat.pow_pos (by decide))))
  unfold tB txN
  rcases Nat.eq_zero_or_pos n with h1 | h1
  · subst h1
    rw [dg_zero] at hk
    obtain rfl : k = 1 := by simp at hk; omega
    rfl
  · rw [txL_pos h1, ← tt_all]
    have : 0 < (dg 10 n).length := Nat.pos_of_ne_zero fun e => by
      have := (dg_nil (B := 10) (by decide)).1 (List.eq_nil_of_length_eq_zero e)
      omega
    rw [show k = (dg 10 n).length by omega]
theorem div_len {n k : Nat} (h : 0 < n / 10 ^ k) : k + 1 ≤ (dg 10 n).length := by
  rcases Nat.lt_or_ge k (dg 10 n).length with h1 | h1
  · omega
  · have := (dg_len (B := 10) (by decide) k n).1 h1
    rw [Nat.div_eq_of_lt this] at h
    omega
theorem tB_next0 {k n : Nat} {d : Int} (h : d = ((n / 10 ^ k % 10 : Nat) : Int)) : strOf [48 + d] ++ tB k n = tB (k + 1) n := by
  rw [← tB_next h, IntKind.wrap_u8]
  have hd : n / 10 ^ k % 10 < 10 := Nat.mod_lt _ (by decide)
  rw [show (48 + d) % 256 = 48 + d by omega]
set_option maxRecDepth 100000 in
set_option maxHeartbeats 8000000 in
theorem rdecimal_any (n : Nat) (X : Option (Nat × Nat)) (capX : Nat) (w : World) (hn : n < big) (hx : Ro w X (dg b6 n).length 1 (iv (dg b6 n))) (hcx : (dg b6 n).length ≤ capX) :
    Calls Tryz.prog 75 #[.slice (adr X) (dg b6 n).length capX] w fun e w' => e = .returned (.string (txN n)) ∧ Below w.heap.size w w' := by
  have hl16 := dg_big6 hn
  have h78 : (dg 10 n).length ≤ 78 := (dg_len (by decide) 78 n).2 (Nat.lt_trans hn (by decide))
  refine calls_sat (cx := Tryz.cx 35 [] [] [] w) (Tryz.ok ..) Tryz.func75 rfl [.o 100 X (dg b6 n).length capX] rfl (by show 1 ≤ 35; omega) [(100, .ro X (dg b6 n).length 1 (iv (dg b6 n)))] (holds_ros rfl rfl ⟨hx, trivial⟩) ?_
  repeat' ((conv => whnf); first | refine walk (Tryz.ok ..) ?_ | fail)
  refine sat_loop (Tryz.ok ..) (α := Nat × Option (Nat × Nat) × Nat × Bool) (fun s => match s.1, s.2.2.2 with
    | 0, _ => ([(0, .yes, .o 100 X (dg b6 n).length capX), (3, .yes, .v (.string ⟨#[]⟩))], [(100, .ro X (dg b6 n).length 1 (iv (dg b6 n)))])
    | k + 1, true => ([(0, .yes, .o 401 s.2.1 (dg b6 (n / 10 ^ (k + 1))).length s.2.2.1), (3, .yes, .v (.string (tB (k + 1) n)))], [(401, .row s.2.1 3 1 (dg b6 (n / 10 ^ (k + 1))).length s.2.2.1 (iv (dg b6 (n / 10 ^ (k + 1)))))])
    | k + 1, false => ([(0, .yes, .o 402 s.2.1 (dg b6 (n / 10 ^ (k + 1))).length s.2.2.1), (3, .yes, .v (.string (tB (k + 1) n)))], [(402, .row s.2.1 3 1 (dg b6 (n / 10 ^ (k + 1))).length s.2.2.1 (iv (dg b6 (n / 10 ^ (k + 1)))))]))
    (fun s => s.1 ≤ max 1 (dg 10 n).length) (fun s => 80 - s.1) (fun s => by obtain ⟨k, _, _, p⟩ := s; cases k <;> cases p <;> rfl) ?_ ?_
  · refine ⟨(0, none, 0, true), Nat.zero_le _, ?_, ?_, rfl⟩
    all_goals ((repeat' (first | exact trivial | exact rfl | refine And.intro ?_ ?_)) <;> (try (conv => whnf)) <;> (try simp only [SV.real, SV.r2, SV.r1]))
  rintro ⟨k, A, c, p⟩ hk
  dsimp only at hk
  have hxn : n / 10 ^ k ≤ n := Nat.div_le_self _ _
  have hdl := div_len (n := n) (k := k)
  have hq : n / 10 ^ k / 10 = n / 10 ^ (k + 1) := by rw [Nat.div_div_eq_div_mul, Nat.pow_succ]
  have hxl : (dg b6 (n / 10 ^ k)).length ≤ 16 := Nat.le_trans (len_le b6_2 hxn) hl16
  obtain ⟨x, ex⟩ : ∃ x, x = n / 10 ^ k := ⟨_, rfl⟩
  rw [← ex] at hdl hxl hxn
  cases k with
  | zero =>
    have hk1 : 0 + 1 ≤ max 1 (dg 10 n).length := by omega
    have e0 : x = n := by rw [ex, Nat.pow_zero, Nat.div_one]
    have e1 : dg b6 n = dg b6 x := by rw [e0]
    rw [e1] at hcx ⊢
    have hq : x / 10 = n / 10 ^ 1 := by rw [e0, Nat.pow_one]
    by_cases hz : x = 0
    · have hl0 : (dg b6 x).length = 0 := len_zero.2 hz
      have hlt : x < 10 := by omega
      repeat' ((conv => whnf); first | refine walk (Tryz.ok ..) ?_ | (refine Cnd.mk (fun h => ?_) (fun h => ?_) <;> (first | exact cndT h (by (try dsimp only); omega) | exact cndF h (by (try dsimp only); omega) | (exfalso; simp at h; omega) | simp at h | skip)) | refine side2 ?_ | fail)
      (conv => whnf)
      intro g16 hg16
      skip
      refine called_row 401 (xs := iv (dg b6 (x / 10))) (m := (dg b6 (x / 10)).length) (fun v => .tuple #[v, .slice (adr X) (dg b6 x).length capX]) (fun A' cap => .t [.o 401 A' (dg b6 (x / 10)).length cap, .o 100 X (dg b6 x).length capX]) (fun _ _ => rfl) (fun w' hh => by have h := rdiv_less2 x 10 X (some (g16, 0)) capX 1 w' hlt (ro_of_ro hh (id := 100) rfl) (by rw [dg6_ten]; exact ro_of_blk hh (id := 16) rfl 0 1 1 (by decide)) (by omega) (by rw [dg6_ten]; decide); rw [dg6_ten] at h; exact h) ?_
      intro B cB
      repeat' ((conv => whnf); first | refine walk (Tryz.ok ..) ?_ | (refine Cnd.mk (fun h => ?_) (fun h => ?_) <;> (first | exact cndT h (by (try dsimp only); omega) | exact cndF h (by (try dsimp only); omega) | (exfalso; simp at h; omega) | simp at h | skip)) | refine sideL2 ?_ | fail)
      (conv => whnf)
      intro g29 hg29
      repeat' ((conv => whnf); first | refine walk (Tryz.ok ..) ?_ | refine side2 ?_ | refine Exists.intro [_] (And.intro (one_byte rfl) ?_) | fail)
      have e9 := tB_next0 (k := 0) (n := n) (d := 0) (by omega)
      skip
      refine ⟨(0 + 1, B, cB, true), ⟨hk1, by dsimp only; omega⟩, ?_, ?_, rfl⟩
      · dsimp only
        rw [← hq]
        ((repeat' (first | exact trivial | exact rfl | refine And.intro ?_ ?_)) <;> (try (conv => whnf)) <;> (try simp only [SV.real, SV.r2, SV.r1]))
        all_goals exact congrArg Value.string e9
      · dsimp only
        rw [← hq]
        ((repeat' (first | exact trivial | exact rfl | refine And.intro ?_ ?_)) <;> (try (conv => whnf)) <;> (try simp only [SV.real, SV.r2, SV.r1]))
    · have hl0 : 0 < (dg b6 x).length := Nat.pos_of_ne_zero fun h => hz (len_zero.1 h)
      repeat' ((conv => whnf); first | refine walk (Tryz.ok ..) ?_ | (refine Cnd.mk (fun h => ?_) (fun h => ?_) <;> (first | exact cndT h (by (try dsimp only); omega) | exact cndF h (by (try dsimp only); omega) | (exfalso; simp at h; omega) | simp at h | skip)) | refine side2 ?_ | fail)
      (conv => whnf)
      intro g16 hg16
      skip
      rcases Nat.lt_or_ge x 10 with hlt | hlt
      · refine called_row 401 (xs := iv (dg b6 (x / 10))) (m := (dg b6 (x / 10)).length) (fun v => .tuple #[v, .slice (adr X) (dg b6 x).length capX]) (fun A' cap => .t [.o 401 A' (dg b6 (x / 10)).length cap, .o 100 X (dg b6 x).length capX]) (fun _ _ => rfl) (fun w' hh => by have h := rdiv_less2 x 10 X (some (g16, 0)) capX 1 w' hlt (ro_of_ro hh (id := 100) rfl) (by rw [dg6_ten]; exact ro_of_blk hh (id := 16) rfl 0 1 1 (by decide)) (by omega) (by rw [dg6_ten]; decide); rw [dg6_ten] at h; exact h) ?_
        intro B cB
        have hx1 := dg_get b6_2 0 x hl0
        rw [Nat.pow_zero, Nat.div_one, Nat.mod_eq_of_lt (show x < b6 from Nat.lt_trans hlt (by decide))] at hx1
        repeat' ((conv => whnf); first | refine walk (Tryz.ok ..) ?_ | (refine Cnd.mk (fun h => ?_) (fun h => ?_) <;> (first | exact cndT h (by (try dsimp only); omega) | exact cndF h (by (try dsimp only); omega) | (exfalso; simp at h; omega) | simp at h | skip)) | refine side2 ?_ | refine sideL2 ?_ | refine xi _ (i_at hx1 rfl) ?_ | fail)
        (conv => whnf)
        intro g29 hg29
        repeat' ((conv => whnf); first | refine walk (Tryz.ok ..) ?_ | refine side2 ?_ | refine Exists.intro [_] (And.intro (one_byte rfl) ?_) | fail)
        have e9 := tB_next0 (k := 0) (n := n) (d := (x : Int)) (by omega)
        skip
        refine ⟨(0 + 1, B, cB, true), ⟨hk1, by dsimp only; omega⟩, ?_, ?_, rfl⟩
        · dsimp only
          rw [← hq]
          ((repeat' (first | exact trivial | exact rfl | refine And.intro ?_ ?_)) <;> (try (conv => whnf)) <;> (try simp only [SV.real, SV.r2, SV.r1]))
          all_goals exact congrArg Value.string e9
        · dsimp only
          rw [← hq]
          ((repeat' (first | exact trivial | exact rfl | refine And.intro ?_ ?_)) <;> (try (conv => whnf)) <;> (try simp only [SV.real, SV.r2, SV.r1]))
      · refine called_row2 401 403 (m1 := (dg b6 (x / 10)).length) (m2 := (dg b6 (x % 10)).length) (xs1 := iv (dg b6 (x / 10))) (xs2 := iv (dg b6 (x % 10))) (fun v u => .tuple #[v, u]) (fun A c A' c' => .t [.o 401 A (dg b6 (x / 10)).length c, .o 403 A' (dg b6 (x % 10)).length c']) (fun _ _ _ _ => rfl) (fun w' hh => by have h := rdiv_any x 10 X (some (g16, 0)) capX 1 w' hlt (by omega) (ro_of_ro hh (id := 100) rfl) (by rw [dg6_ten]; exact ro_of_blk hh (id := 16) rfl 0 1 1 (by decide)) (by omega) hcx; rw [dg6_ten] at h; exact h) ?_
        intro B cB B' cB'
        have hlt2 : x % 10 < 10 := Nat.mod_lt _ (by decide)
        by_cases hx0 : x % 10 = 0
        · have hl1 : (dg b6 (x % 10)).length = 0 := len_zero.2 hx0
          repeat' ((conv => whnf); first | refine walk (Tryz.ok ..) ?_ | (refine Cnd.mk (fun h => ?_) (fun h => ?_) <;> (first | exact cndT h (by (try dsimp only); omega) | exact cndF h (by (try dsimp only); omega) | (exfalso; simp at h; omega) | simp at h | skip)) | refine sideL2 ?_ | fail)
          (conv => whnf)
          intro g29 hg29
          repeat' ((conv => whnf); first | refine walk (Tryz.ok ..) ?_ | refine side2 ?_ | refine Exists.intro [_] (And.intro (one_byte rfl) ?_) | fail)
          have e9 := tB_next0 (k := 0) (n := n) (d := 0) (by omega)
          skip
          refine ⟨(0 + 1, B, cB, true), ⟨hk1, by dsimp only; omega⟩, ?_, ?_, rfl⟩
          · dsimp only
            rw [← hq]
            ((repeat' (first | exact trivial | exact rfl | refine And.intro ?_ ?_)) <;> (try (conv => whnf)) <;> (try simp only [SV.real, SV.r2, SV.r1]))
            all_goals exact congrArg Value.string e9
          · dsimp only
            rw [← hq]
            ((repeat' (first | exact trivial | exact rfl | refine And.intro ?_ ?_)) <;> (try (conv => whnf)) <;> (try simp only [SV.real, SV.r2, SV.r1]))
        · have hl1 : 0 < (dg b6 (x % 10)).length := Nat.pos_of_ne_zero fun h => hx0 (len_zero.1 h)
          have hx1 := dg_get b6_2 0 (x % 10) hl1
          rw [Nat.pow_zero, Nat.div_one, Nat.mod_eq_of_lt (show x % 10 < b6 from Nat.lt_trans hlt2 (by decide))] at hx1
          repeat' ((conv => whnf); first | refine walk (Tryz.ok ..) ?_ | (refine Cnd.mk (fun h => ?_) (fun h => ?_) <;> (first | exact cndT h (by (try dsimp only); omega) | exact cndF h (by (try dsimp only); omega) | (exfalso; simp at h; omega) | simp at h | skip)) | refine side2 ?_ | refine sideL2 ?_ | refine xi _ (i_at hx1 rfl) ?_ | fail)
          (conv => whnf)
          intro g29 hg29
          repeat' ((conv => whnf); first | refine walk (Tryz.ok ..) ?_ | refine side2 ?_ | refine Exists.intro [_] (And.intro (one_byte rfl) ?_) | fail)
          have e9 := tB_next0 (k := 0) (n := n) (d := ((x % 10 : Nat) : Int)) (by omega)
          skip
          refine ⟨(0 + 1, B, cB, true), ⟨hk1, by dsimp only; omega⟩, ?_, ?_, rfl⟩
          · dsimp only
            rw [← hq]
            ((repeat' (first | exact trivial | exact rfl | refine And.intro ?_ ?_)) <;> (try (conv => whnf)) <;> (try simp only [SV.real, SV.r2, SV.r1]))
            all_goals exact congrArg Value.string e9
          · dsimp only
            rw [← hq]
            ((repeat' (first | exact trivial | exact rfl | refine And.intro ?_ ?_)) <;> (try (conv => whnf)) <;> (try simp only [SV.real, SV.r2, SV.r1]))
  | succ k =>
    rw [← ex] at hq
    have hts := tB_size (k + 1) n
    have hne : tB (k + 1) n ≠ ⟨#[]⟩ := fun h => by
      rw [h] at hts
      exact absurd (show (0 : Nat) = k + 1 from hts) (by omega)
    obtain ⟨T, eT⟩ : ∃ T, T = tB (k + 1) n := ⟨_, rfl⟩
    rw [← eT] at hts hne
    cases p
    · dsimp only
      rw [← eT]
      rw [← ex]
      repeat' ((conv => whnf); first | refine walk (Tryz.ok ..) ?_ | (refine Cnd.mk (fun h => ?_) (fun h => ?_) <;> (first | exact cndT h (by (try dsimp only); omega) | exact cndF h (by (try dsimp only); omega) | (exfalso; simp at h; omega) | simp at h | skip)) | refine side2 ?_ | fail)
      · have hz : x ≠ 0 := fun e => h.elim (fun h1 => Nat.ne_of_gt h1 (len_zero.2 e)) (fun h1 => hne h1)
        have hl0 : 0 < (dg b6 x).length := Nat.pos_of_ne_zero fun h => hz (len_zero.1 h)
        have hk1 : k + 1 + 1 ≤ max 1 (dg 10 n).length := by have := hdl (by omega); omega
        (conv => whnf)
        intro g16 hg16
        skip
        rcases Nat.lt_or_ge x 10 with hlt | hlt
        · refine called_row 401 (xs := iv (dg b6 (x / 10))) (m := (dg b6 (x / 10)).length) (fun v => .tuple #[v, .slice (adr A) (dg b6 x).length c]) (fun A' cap => .t [.o 401 A' (dg b6 (x / 10)).length cap, .o 402 A (dg b6 x).length c]) (fun _ _ => rfl) (fun w' hh => by have h := rdiv_less2 x 10 A (some (g16, 0)) c 1 w' hlt (ro_of_row hh (id := 402) rfl) (by rw [dg6_ten]; exact ro_of_blk hh (id := 16) rfl 0 1 1 (by decide)) (by omega) (by rw [dg6_ten]; decide); rw [dg6_ten] at h; exact h) ?_
          intro B cB
          have hx1 := dg_get b6_2 0 x hl0
          rw [Nat.pow_zero, Nat.div_one, Nat.mod_eq_of_lt (show x < b6 from Nat.lt_trans hlt (by decide))] at hx1
          repeat' ((conv => whnf); first | refine walk (Tryz.ok ..) ?_ | (refine Cnd.mk (fun h => ?_) (fun h => ?_) <;> (first | exact cndT h (by (try dsimp only); omega) | exact cndF h (by (try dsimp only); omega) | (exfalso; simp at h; omega) | simp at h | skip)) | refine side2 ?_ | refine sideL2 ?_ | refine xi _ (i_at hx1 rfl) ?_ | fail)
          (conv => whnf)
          intro g29 hg29
          repeat' ((conv => whnf); first | refine walk (Tryz.ok ..) ?_ | refine side2 ?_ | refine Exists.intro [_] (And.intro (one_byte rfl) ?_) | fail)
          have e9 := tB_next0 (k := k + 1) (n := n) (d := (x : Int)) (by omega)
          rw [← eT] at e9
          refine ⟨(k + 1 + 1, B, cB, true), ⟨hk1, by dsimp only; omega⟩, ?_, ?_, rfl⟩
          · dsimp only
            rw [← hq]
            ((repeat' (first | exact trivial | exact rfl | refine And.intro ?_ ?_)) <;> (try (conv => whnf)) <;> (try simp only [SV.real, SV.r2, SV.r1]))
            all_goals exact congrArg Value.string e9
          · dsimp only
            rw [← hq]
            ((repeat' (first | exact trivial | exact rfl | refine And.intro ?_ ?_)) <;> (try (conv => whnf)) <;> (try simp only [SV.real, SV.r2, SV.r1]))
        · refine called_row2 401 403 (m1 := (dg b6 (x / 10)).length) (m2 := (dg b6 (x % 10)).length) (xs1 := iv (dg b6 (x / 10))) (xs2 := iv (dg b6 (x % 10))) (fun v u => .tuple #[v, u]) (fun A c A' c' => .t [.o 401 A (dg b6 (x / 10)).length c, .o 403 A' (dg b6 (x % 10)).length c']) (fun _ _ _ _ => rfl) (fun w' hh => by have h := rdiv_any x 10 A (some (g16, 0)) c 1 w' hlt (by omega) (ro_of_row hh (id := 402) rfl) (by rw [dg6_ten]; exact ro_of_blk hh (id := 16) rfl 0 1 1 (by decide)) (by omega) (row_cap6 hh (id := 402) rfl); rw [dg6_ten] at h; exact h) ?_
          intro B cB B' cB'
          have hlt2 : x % 10 < 10 := Nat.mod_lt _ (by decide)
          by_cases hx0 : x % 10 = 0
          · have hl1 : (dg b6 (x % 10)).length = 0 := len_zero.2 hx0
            repeat' ((conv => whnf); first | refine walk (Tryz.ok ..) ?_ | (refine Cnd.mk (fun h => ?_) (fun h => ?_) <;> (first | exact cndT h (by (try dsimp only); omega) | exact cndF h (by (try dsimp only); omega) | (exfalso; simp at h; omega) | simp at h | skip)) | refine sideL2 ?_ | fail)
            (conv => whnf)
            intro g29 hg29
            repeat' ((conv => whnf); first | refine walk (Tryz.ok ..) ?_ | refine side2 ?_ | refine Exists.intro [_] (And.intro (one_byte rfl) ?_) | fail)
            have e9 := tB_next0 (k := k + 1) (n := n) (d := 0) (by omega)
            rw [← eT] at e9
            refine ⟨(k + 1 + 1, B, cB, true), ⟨hk1, by dsimp only; omega⟩, ?_, ?_, rfl⟩
            · dsimp only
              rw [← hq]
              ((repeat' (first | exact trivial | exact rfl | refine And.intro ?_ ?_)) <;> (try (conv => whnf)) <;> (try simp only [SV.real, SV.r2, SV.r1]))
              all_goals exact congrArg Value.string e9
            · dsimp only
              rw [← hq]
              ((repeat' (first | exact trivial | exact rfl | refine And.intro ?_ ?_)) <;> (try (conv => whnf)) <;> (try simp only [SV.real, SV.r2, SV.r1]))
          · have hl1 : 0 < (dg b6 (x % 10)).length := Nat.pos_of_ne_zero fun h => hx0 (len_zero.1 h)
            have hx1 := dg_get b6_2 0 (x % 10) hl1
            rw [Nat.pow_zero, Nat.div_one, Nat.mod_eq_of_lt (show x % 10 < b6 from Nat.lt_trans hlt2 (by decide))] at hx1
            repeat' ((conv => whnf); first | refine walk (Tryz.ok ..) ?_ | (refine Cnd.mk (fun h => ?_) (fun h => ?_) <;> (first | exact cndT h (by (try dsimp only); omega) | exact cndF h (by (try dsimp only); omega) | (exfalso; simp at h; omega) | simp at h | skip)) | refine side2 ?_ | refine sideL2 ?_ | refine xi _ (i_at hx1 rfl) ?_ | fail)
            (conv => whnf)
            intro g29 hg29
            repeat' ((conv => whnf); first | refine walk (Tryz.ok ..) ?_ | refine side2 ?_ | refine Exists.intro [_] (And.intro (one_byte rfl) ?_) | fail)
            have e9 := tB_next0 (k := k + 1) (n := n) (d := ((x % 10 : Nat) : Int)) (by omega)
            rw [← eT] at e9
            refine ⟨(k + 1 + 1, B, cB, true), ⟨hk1, by dsimp only; omega⟩, ?_, ?_, rfl⟩
            · dsimp only
              rw [← hq]
              ((repeat' (first | exact trivial | exact rfl | refine And.intro ?_ ?_)) <;> (try (conv => whnf)) <;> (try simp only [SV.real, SV.r2, SV.r1]))
              all_goals exact congrArg Value.string e9
            · dsimp only
              rw [← hq]
              ((repeat' (first | exact trivial | exact rfl | refine And.intro ?_ ?_)) <;> (try (conv => whnf)) <;> (try simp only [SV.real, SV.r2, SV.r1]))
      · have hz : x = 0 := (dg_nil b6_2).1 h.1
        have hd := tB_end (k := k + 1) (n := n) (by omega) (by rw [← ex]; exact hz) hk
        rw [← eT] at hd
        rw [← hd]
        exact done_pure rfl rfl rfl
    · dsimp only
      rw [← eT]
      rw [← ex]
      repeat' ((conv => whnf); first | refine walk (Tryz.ok ..) ?_ | (refine Cnd.mk (fun h => ?_) (fun h => ?_) <;> (first | exact cndT h (by (try dsimp only); omega) | exact cndF h (by (try dsimp only); omega) | (exfalso; simp at h; omega) | simp at h | skip)) | refine side2 ?_ | fail)
      · have hz : x ≠ 0 := fun e => h.elim (fun h1 => Nat.ne_of_gt h1 (len_zero.2 e)) (fun h1 => hne h1)
        have hl0 : 0 < (dg b6 x).length := Nat.pos_of_ne_zero fun h => hz (len_zero.1 h)
        have hk1 : k + 1 + 1 ≤ max 1 (dg 10 n).length := by have := hdl (by omega); omega
        (conv => whnf)
        intro g16 hg16
        skip
        rcases Nat.lt_or_ge x 10 with hlt | hlt
        · refine called_row 402 (xs := iv (dg b6 (x / 10))) (m := (dg b6 (x / 10)).length) (fun v => .tuple #[v, .slice (adr A) (dg b6 x).length c]) (fun A' cap => .t [.o 402 A' (dg b6 (x / 10)).length cap, .o 401 A (dg b6 x).length c]) (fun _ _ => rfl) (fun w' hh => by have h := rdiv_less2 x 10 A (some (g16, 0)) c 1 w' hlt (ro_of_row hh (id := 401) rfl) (by rw [dg6_ten]; exact ro_of_blk hh (id := 16) rfl 0 1 1 (by decide)) (by omega) (by rw [dg6_ten]; decide); rw [dg6_ten] at h; exact h) ?_
          intro B cB
          have hx1 := dg_get b6_2 0 x hl0
          rw [Nat.pow_zero, Nat.div_one, Nat.mod_eq_of_lt (show x < b6 from Nat.lt_trans hlt (by decide))] at hx1
          repeat' ((conv => whnf); first | refine walk (Tryz.ok ..) ?_ | (refine Cnd.mk (fun h => ?_) (fun h => ?_) <;> (first | exact cndT h (by (try dsimp only); omega) | exact cndF h (by (try dsimp only); omega) | (exfalso; simp at h; omega) | simp at h | skip)) | refine side2 ?_ | refine sideL2 ?_ | refine xi _ (i_at hx1 rfl) ?_ | fail)
          (conv => whnf)
          intro g29 hg29
          repeat' ((conv => whnf); first | refine walk (Tryz.ok ..) ?_ | refine side2 ?_ | refine Exists.intro [_] (And.intro (one_byte rfl) ?_) | fail)
          have e9 := tB_next0 (k := k + 1) (n := n) (d := (x : Int)) (by omega)
          rw [← eT] at e9
          refine ⟨(k + 1 + 1, B, cB, false), ⟨hk1, by dsimp only; omega⟩, ?_, ?_, rfl⟩
          · dsimp only
            rw [← hq]
            ((repeat' (first | exact trivial | exact rfl | refine And.intro ?_ ?_)) <;> (try (conv => whnf)) <;> (try simp only [SV.real, SV.r2, SV.r1]))
            all_goals exact congrArg Value.string e9
          · dsimp only
            rw [← hq]
            ((repeat' (first | exact trivial | exact rfl | refine And.intro ?_ ?_)) <;> (try (conv => whnf)) <;> (try simp only [SV.real, SV.r2, SV.r1]))
        · refine called_row2 402 403 (m1 := (dg b6 (x / 10)).length) (m2 := (dg b6 (x % 10)).length) (xs1 := iv (dg b6 (x / 10))) (xs2 := iv (dg b6 (x % 10))) (fun v u => .tuple #[v, u]) (fun A c A' c' => .t [.o 402 A (dg b6 (x / 10)).length c, .o 403 A' (dg b6 (x % 10)).length c']) (fun _ _ _ _ => rfl) (fun w' hh => by have h := rdiv_any x 10 A (some (g16, 0)) c 1 w' hlt (by omega) (ro_of_row hh (id := 401) rfl) (by rw [dg6_ten]; exact ro_of_blk hh (id := 16) rfl 0 1 1 (by decide)) (by omega) (row_cap6 hh (id := 401) rfl); rw [dg6_ten] at h; exact h) ?_
          intro B cB B' cB'
          have hlt2 : x % 10 < 10 := Nat.mod_lt _ (by decide)
          by_cases hx0 : x % 10 = 0
          · have hl1 : (dg b6 (x % 10)).length = 0 := len_zero.2 hx0
            repeat' ((conv => whnf); first | refine walk (Tryz.ok ..) ?_ | (refine Cnd.mk (fun h => ?_) (fun h => ?_) <;> (first | exact cndT h (by (try dsimp only); omega) | exact cndF h (by (try dsimp only); omega) | (exfalso; simp at h; omega) | simp at h | skip)) | refine sideL2 ?_ | fail)
            (conv => whnf)
            intro g29 hg29
            repeat' ((conv => whnf); first | refine walk (Tryz.ok ..) ?_ | refine side2 ?_ | refine Exists.intro [_] (And.intro (one_byte rfl) ?_) | fail)
            have e9 := tB_next0 (k := k + 1) (n := n) (d := 0) (by omega)
            rw [← eT] at e9
            refine ⟨(k + 1 + 1, B, cB, false), ⟨hk1, by dsimp only; omega⟩, ?_, ?_, rfl⟩
            · dsimp only
              rw [← hq]
              ((repeat' (first | exact trivial | exact rfl | refine And.intro ?_ ?_)) <;> (try (conv => whnf)) <;> (try simp only [SV.real, SV.r2, SV.r1]))
              all_goals exact congrArg Value.string e9
            · dsimp only
              rw [← hq]
              ((repeat' (first | exact trivial | exact rfl | refine And.intro ?_ ?_)) <;> (try (conv => whnf)) <;> (try simp only [SV.real, SV.r2, SV.r1]))
          · have hl1 : 0 < (dg b6 (x % 10)).length := Nat.pos_of_ne_zero fun h => hx0 (len_zero.1 h)
            have hx1 := dg_get b6_2 0 (x % 10) hl1
            rw [Nat.pow_zero, Nat.div_one, Nat.mod_eq_of_lt (show x % 10 < b6 from Nat.lt_trans hlt2 (by decide))] at hx1
            repeat' ((conv => whnf); first | refine walk (Tryz.ok ..) ?_ | (refine Cnd.mk (fun h => ?_) (fun h => ?_) <;> (first | exact cndT h (by (try dsimp only); omega) | exact cndF h (by (try dsimp only); omega) | (exfalso; simp at h; omega) | simp at h | skip)) | refine side2 ?_ | refine sideL2 ?_ | refine xi _ (i_at hx1 rfl) ?_ | fail)
            (conv => whnf)
            intro g29 hg29
            repeat' ((conv => whnf); first | refine walk (Tryz.ok ..) ?_ | refine side2 ?_ | refine Exists.intro [_] (And.intro (one_byte rfl) ?_) | fail)
            have e9 := tB_next0 (k := k + 1) (n := n) (d := ((x % 10 : Nat) : Int)) (by omega)
            rw [← eT] at e9
            refine ⟨(k + 1 + 1, B, cB, false), ⟨hk1, by dsimp only; omega⟩, ?_, ?_, rfl⟩
            · dsimp only
              rw [← hq]
              ((repeat' (first | exact trivial | exact rfl | refine And.intro ?_ ?_)) <;> (try (conv => whnf)) <;> (try simp only [SV.real, SV.r2, SV.r1]))
              all_goals exact congrArg Value.string e9
            · dsimp only
              rw [← hq]
              ((repeat' (first | exact trivial | exact rfl | refine And.intro ?_ ?_)) <;> (try (conv => whnf)) <;> (try simp only [SV.real, SV.r2, SV.r1]))
      · have hz : x = 0 := (dg_nil b6_2).1 h.1
        have hd := tB_end (k := k + 1) (n := n) (by omega) (by rw [← ex]; exact hz) hk
        rw [← eT] at hd
        rw [← hd]
        exact done_pure rfl rfl rfl
end Go.Proofs.YtmekcdjaafegaaaGreatDoor
