/-
  The walks of the frac package: common divisors, the parts of a fraction, which fractions are right.
-/
import Derived.Test.YtomhfakkebaciaaN7
namespace Go.Proofs.Ytomhfakkebaciaa
open Go Sat Go.RowKit Go.PlainAid
set_option linter.unusedSimpArgs false
set_option linter.unusedVariables false
set_option maxRecDepth 100000 in
set_option maxHeartbeats 8000000 in
theorem one_any (x : Nat) (X : Option (Nat × Nat)) (capX : Nat) (w : World) (hx : Ro w X (dg bb x).length 1 (us (dg bb x))) (hxl : (dg bb x).length ≤ 100000) :
    Calls Try.prog 62 #[.slice (adr X) (dg bb x).length capX] w fun e w' => e = .returned (.bool (decide (x = 1))) ∧ Below w.heap.size w w' := by
  have hone := len_one (B := bb) (by decide) x
  obtain ⟨l, el⟩ : ∃ l, l = dg bb x := ⟨_, rfl⟩
  rw [← el] at hx hxl hone ⊢
  refine calls_sat (cx := Try.cx 12 [] [] [] w) (Try.ok ..) Try.func62 rfl [.o 100 X l.length capX] rfl (by show 1 ≤ 12; omega) [(100, .ro X l.length 1 (us l))] (holds_ros rfl rfl ⟨hx, trivial⟩) ?_
  by_cases h1 : l.length = 1
  · obtain ⟨a, ha⟩ := us_at (l := l) (k := 0) (by omega)
    have hu : decide (x = 1) = decide ((a : Int) = 1) := by
      have : x = 1 ↔ (a : Int) = 1 := by
        rw [← hone, ha]
        simp only [Option.some.injEq]
        omega
      simp only [this]
    rw [hu, h1]
    rw [h1] at hx
    repeat' ((conv => whnf); first | refine walk (Try.ok ..) ?_ | refine side2 ?_ | refine xi _ (fun _ => u_at ha rfl) ?_ | fail)
    exact done_pure rfl rfl (congrArg Value.bool (by rw [Bool.eq_iff_iff]; simp))
  · have hu : decide (x = 1) = false := decide_eq_false fun h => h1 (hone.2 h).1
    rw [hu]
    repeat' ((conv => whnf); first | refine walk (Try.ok ..) ?_ | refine side2 ?_ | refine xi _ (no_u (by simp; omega)) ?_ | fail)
    exact done_pure rfl rfl (congrArg Value.bool (by rw [Bool.and_eq_false_iff]; left; simpa using (by omega : (l.length : Int) ≠ 1)))
inductive K4 where
  | a | b | c | d
structure CS where
  k : K4
  x : Nat
  y : Nat
  A : Option (Nat × Nat)
  cA : Nat
  B : Option (Nat × Nat)
  cB : Nat
theorem gcd_step (x y : Nat) : Nat.gcd y (x % y) = Nat.gcd x y := by
  rw [Nat.gcd_comm x y, Nat.gcd_rec y x, Nat.gcd_comm]
set_option maxRecDepth 100000 in
set_option maxHeartbeats 8000000 in
theorem common_any (x0 y0 : Nat) (X Y : Option (Nat × Nat)) (capX capY : Nat) (w : World) (hx : Ro w X (dg bb x0).length 1 (us (dg bb x0))) (hy : Ro w Y (dg bb y0).length 1 (us (dg bb y0))) (hxl : (dg bb x0).length ≤ 100000) (hyl : (dg bb y0).length ≤ 100000) (hy0 : 0 < y0) :
    Calls Try.prog 61 #[.slice (adr X) (dg bb x0).length capX, .slice (adr Y) (dg bb y0).length capY] w fun e w' => (e = .returned (.slice (adr Y) (dg bb y0).length capY) ∧ Nat.gcd x0 y0 = y0 ∧ Below w.heap.size w w') ∨ (∃ v, e = .returned v ∧ w'.ownsRow w.heap.size 23 1 v (dg bb (Nat.gcd x0 y0)).length (us (dg bb (Nat.gcd x0 y0))) ∧ Below w.heap.size w w') := by
  have hb2 : (2 : Nat) ≤ bb := by decide
  obtain ⟨G, hG⟩ : ∃ G, G = Nat.gcd x0 y0 := ⟨_, rfl⟩
  rw [← hG]
  refine calls_sat (cx := Try.cx 19 [] [] [] w) (Try.ok ..) Try.func61 rfl [.o 100 X (dg bb x0).length capX, .o 101 Y (dg bb y0).length capY] rfl (by show 2 ≤ 19; omega) [(100, .ro X (dg bb x0).length 1 (us (dg bb x0))), (101, .ro Y (dg bb y0).length 1 (us (dg bb y0)))] (holds_ros rfl rfl ⟨hx, hy, trivial⟩) ?_
  repeat' ((conv => whnf); first | refine walk (Try.ok ..) ?_ | fail)
  refine sat_loop (Try.ok ..) (α := CS) (fun s => match s.k with
    | .a => ([(0, .yes, .o 100 X (dg bb x0).length capX), (1, .yes, .o 101 Y (dg bb y0).length capY)], [(100, .ro X (dg bb x0).length 1 (us (dg bb x0))), (101, .ro Y (dg bb y0).length 1 (us (dg bb y0)))])
    | .b => ([(0, .yes, .o 101 Y (dg bb y0).length capY), (1, .yes, .o 200 s.B (dg bb s.y).length s.cB)], [(101, .ro Y (dg bb y0).length 1 (us (dg bb y0))), (200, .row s.B 23 1 (dg bb s.y).length s.cB (us (dg bb s.y)))])
    | .c => ([(0, .yes, .o 200 s.A (dg bb s.x).length s.cA), (1, .yes, .o 301 s.B (dg bb s.y).length s.cB)], [(200, .row s.A 23 1 (dg bb s.x).length s.cA (us (dg bb s.x))), (301, .row s.B 23 1 (dg bb s.y).length s.cB (us (dg bb s.y)))])
    | .d => ([(0, .yes, .o 301 s.A (dg bb s.x).length s.cA), (1, .yes, .o 200 s.B (dg bb s.y).length s.cB)], [(301, .row s.A 23 1 (dg bb s.x).length s.cA (us (dg bb s.x))), (200, .row s.B 23 1 (dg bb s.y).length s.cB (us (dg bb s.y)))]))
    (fun s => (dg bb s.x).length ≤ 100000 ∧ (dg bb s.y).length ≤ 100000 ∧ Nat.gcd s.x s.y = G ∧ (match s.k with | .a => s.x = x0 ∧ s.y = y0 | .b => s.x = y0 | _ => True)) (fun s => s.y) (fun s => by cases s with | mk k _ _ _ _ _ _ => cases k <;> rfl) ?_ ?_
  · refine ⟨⟨.a, x0, y0, none, 0, none, 0⟩, ⟨hxl, hyl, hG.symm, rfl, rfl⟩, ?_, ?_, rfl⟩
    all_goals ((repeat' (first | exact trivial | exact rfl | refine And.intro ?_ ?_)) <;> (try (conv => whnf)) <;> (try simp only [SV.real, SV.r2, SV.r1]))
  rintro ⟨k, x, y, A1, c1, A2, c2⟩ ⟨hl1, hl2, hgc, hk⟩
  dsimp only at hl1 hl2 hgc hk
  have hgc2 := (gcd_step x y).trans hgc
  have hlm : 0 < y → (dg bb (x % y)).length ≤ 100000 := fun h => Nat.le_trans (len_le hb2 (Nat.le_of_lt (Nat.mod_lt x h))) hl2
  rcases Nat.eq_zero_or_pos y with h0 | h0
  · subst h0
    rw [Nat.gcd_zero_right] at hgc
    cases k
    · dsimp only at hk
      omega
    · dsimp only at hk ⊢
      rw [dg_zero]
      repeat' ((conv => whnf); first | refine walk (Try.ok ..) ?_ | (refine Cnd.mk (fun h => ?_) (fun h => ?_) <;> (first | exact cndT h (by (try dsimp only); omega) | exact cndF h (by (try dsimp only); omega) | (exfalso; simp at h; omega) | simp at h | skip)) | fail)
      exact (done_pure (x := .slice (adr Y) (dg bb y0).length capY) rfl rfl rfl).mono fun e w' hp => .inl ⟨hp.1, by omega, hp.2⟩
    · dsimp only at hk ⊢
      rw [dg_zero]
      repeat' ((conv => whnf); first | refine walk (Try.ok ..) ?_ | (refine Cnd.mk (fun h => ?_) (fun h => ?_) <;> (first | exact cndT h (by (try dsimp only); omega) | exact cndF h (by (try dsimp only); omega) | (exfalso; simp at h; omega) | simp at h | skip)) | fail)
      subst hgc
      exact (done_row (mk := fun v => v) rfl rfl 200 A1 c1 rfl rfl).mono fun e w' hp => .inr hp
    · dsimp only at hk ⊢
      rw [dg_zero]
      repeat' ((conv => whnf); first | refine walk (Try.ok ..) ?_ | (refine Cnd.mk (fun h => ?_) (fun h => ?_) <;> (first | exact cndT h (by (try dsimp only); omega) | exact cndF h (by (try dsimp only); omega) | (exfalso; simp at h; omega) | simp at h | skip)) | fail)
      subst hgc
      exact (done_row (mk := fun v => v) rfl rfl 301 A1 c1 rfl rfl).mono fun e w' hp => .inr hp
  have hlm := hlm h0
  have hlt := Nat.mod_lt x h0
  have hyp : 0 < (dg bb y).length := by
    rcases Nat.eq_zero_or_pos (dg bb y).length with h9 | h9
    · rw [List.length_eq_zero_iff, dg_nil hb2] at h9
      omega
    · exact h9
  cases k
  · obtain ⟨rfl, rfl⟩ := hk
    repeat' ((conv => whnf); first | refine walk (Try.ok ..) ?_ | (refine Cnd.mk (fun h => ?_) (fun h => ?_) <;> (first | exact cndT h (by (try dsimp only); omega) | exact cndF h (by (try dsimp only); omega) | (exfalso; simp at h; omega) | simp at h | skip)) | fail)
    refine called_row2 310 200 (m1 := (dg bb (x / y)).length) (m2 := (dg bb (x % y)).length) (xs1 := us (dg bb (x / y))) (xs2 := us (dg bb (x % y))) (fun v u => .tuple #[v, u]) (fun A c A' c' => .t [.o 310 A (dg bb (x / y)).length c, .o 200 A' (dg bb (x % y)).length c']) (fun _ _ _ _ => rfl) (fun w' hh => divide_any x y X Y capX capY w' (ro_of_ro hh (id := 100) rfl) (ro_of_ro hh (id := 101) rfl) (by omega) (by omega) h0) ?_
    intro A3 cap3 A4 cap4
    repeat' ((conv => whnf); first | refine walk (Try.ok ..) ?_ | fail)
    refine ⟨⟨.b, y, x % y, none, 0, A4, cap4⟩, ⟨⟨by dsimp only; omega, by dsimp only; omega, hgc2, rfl⟩, hlt⟩, ?_, ?_, rfl⟩
    · ((repeat' (first | exact trivial | exact rfl | refine And.intro ?_ ?_)) <;> (try (conv => whnf)) <;> (try simp only [SV.real, SV.r2, SV.r1]))
    · ((repeat' (first | exact trivial | exact rfl | refine And.intro ?_ ?_)) <;> (try (conv => whnf)) <;> (try simp only [SV.real, SV.r2, SV.r1]))
  · dsimp only at hk
    subst hk
    repeat' ((conv => whnf); first | refine walk (Try.ok ..) ?_ | (refine Cnd.mk (fun h => ?_) (fun h => ?_) <;> (first | exact cndT h (by (try dsimp only); omega) | exact cndF h (by (try dsimp only); omega) | (exfalso; simp at h; omega) | simp at h | skip)) | fail)
    refine called_row2 310 301 (m1 := (dg bb (x / y)).length) (m2 := (dg bb (x % y)).length) (xs1 := us (dg bb (x / y))) (xs2 := us (dg bb (x % y))) (fun v u => .tuple #[v, u]) (fun A c A' c' => .t [.o 310 A (dg bb (x / y)).length c, .o 301 A' (dg bb (x % y)).length c']) (fun _ _ _ _ => rfl) (fun w' hh => divide_any x y Y A2 capY c2 w' (ro_of_ro hh (id := 101) rfl) (ro_of_row hh (id := 200) rfl) (by omega) (by omega) h0) ?_
    intro A3 cap3 A4 cap4
    repeat' ((conv => whnf); first | refine walk (Try.ok ..) ?_ | fail)
    refine ⟨⟨.c, y, x % y, A2, c2, A4, cap4⟩, ⟨⟨by dsimp only; omega, by dsimp only; omega, hgc2, trivial⟩, hlt⟩, ?_, ?_, rfl⟩
    · ((repeat' (first | exact trivial | exact rfl | refine And.intro ?_ ?_)) <;> (try (conv => whnf)) <;> (try simp only [SV.real, SV.r2, SV.r1]))
    · ((repeat' (first | exact trivial | exact rfl | refine And.intro ?_ ?_)) <;> (try (conv => whnf)) <;> (try simp only [SV.real, SV.r2, SV.r1]))
  · repeat' ((conv => whnf); first | refine walk (Try.ok ..) ?_ | (refine Cnd.mk (fun h => ?_) (fun h => ?_) <;> (first | exact cndT h (by (try dsimp only); omega) | exact cndF h (by (try dsimp only); omega) | (exfalso; simp at h; omega) | simp at h | skip)) | fail)
    refine called_row2 310 200 (m1 := (dg bb (x / y)).length) (m2 := (dg bb (x % y)).length) (xs1 := us (dg bb (x / y))) (xs2 := us (dg bb (x % y))) (fun v u => .tuple #[v, u]) (fun A c A' c' => .t [.o 310 A (dg bb (x / y)).length c, .o 200 A' (dg bb (x % y)).length c']) (fun _ _ _ _ => rfl) (fun w' hh => divide_any x y A1 A2 c1 c2 w' (ro_of_row hh (id := 200) rfl) (ro_of_row hh (id := 301) rfl) (by omega) (by omega) h0) ?_
    intro A3 cap3 A4 cap4
    repeat' ((conv => whnf); first | refine walk (Try.ok ..) ?_ | fail)
    refine ⟨⟨.d, y, x % y, A2, c2, A4, cap4⟩, ⟨⟨by dsimp only; omega, by dsimp only; omega, hgc2, trivial⟩, hlt⟩, ?_, ?_, rfl⟩
    · ((repeat' (first | exact trivial | exact rfl | refine And.intro ?_ ?_)) <;> (try (conv => whnf)) <;> (try simp only [SV.real, SV.r2, SV.r1]))
    · ((repeat' (first | exact trivial | exact rfl | refine And.intro ?_ ?_)) <;> (try (conv => whnf)) <;> (try simp only [SV.real, SV.r2, SV.r1]))
  · repeat' ((conv => whnf); first | refine walk (Try.ok ..) ?_ | (refine Cnd.mk (fun h => ?_) (fun h => ?_) <;> (first | exact cndT h (by (try dsimp only); omega) | exact cndF h (by (try dsimp only); omega) | (exfalso; simp at h; omega) | simp at h | skip)) | fail)
    refine called_row2 310 301 (m1 := (dg bb (x / y)).length) (m2 := (dg bb (x % y)).length) (xs1 := us (dg bb (x / y))) (xs2 := us (dg bb (x % y))) (fun v u => .tuple #[v, u]) (fun A c A' c' => .t [.o 310 A (dg bb (x / y)).length c, .o 301 A' (dg bb (x % y)).length c']) (fun _ _ _ _ => rfl) (fun w' hh => divide_any x y A1 A2 c1 c2 w' (ro_of_row hh (id := 301) rfl) (ro_of_row hh (id := 200) rfl) (by omega) (by omega) h0) ?_
    intro A3 cap3 A4 cap4
    repeat' ((conv => whnf); first | refine walk (Try.ok ..) ?_ | fail)
    refine ⟨⟨.c, y, x % y, A2, c2, A4, cap4⟩, ⟨⟨by dsimp only; omega, by dsimp only; omega, hgc2, trivial⟩, hlt⟩, ?_, ?_, rfl⟩
    · ((repeat' (first | exact trivial | exact rfl | refine And.intro ?_ ?_)) <;> (try (conv => whnf)) <;> (try simp only [SV.real, SV.r2, SV.r1]))
    · ((repeat' (first | exact trivial | exact rfl | refine And.intro ?_ ?_)) <;> (try (conv => whnf)) <;> (try simp only [SV.real, SV.r2, SV.r1]))
/-! fractions as values -/
def frC (f : Fr) : List SV := .v (.bool f.neg) :: ((us (lim f.num)).map .v ++ (us (lim f.den)).map .v)
def frV (f : Fr) : Value := (SV.a (frC f)).real
theorem frC_len (f : Fr) : (frC f).length = 17 := by
  simp [frC, us_len, lim_len]
theorem map_r1 (l : List Value) : (l.map SV.v).map SV.r1 = l := by
  rw [List.map_map]
  exact getElem?_map_v _
theorem frC_num (f : Fr) : (((frC f).drop 1).take (8 * 1)).map SV.r1 = us (lim f.num) := by
  have e : (frC f).drop 1 = (us (lim f.num)).map SV.v ++ (us (lim f.den)).map SV.v := rfl
  have l : ((us (lim f.num)).map SV.v).length = 8 * 1 := by rw [List.length_map, us_len, lim_len]
  rw [e, ← l, List.take_left, map_r1]
theorem frC_den (f : Fr) : (((frC f).drop 9).take (8 * 1)).map SV.r1 = us (lim f.den) := by
  have e : (frC f).drop 9 = ((us (lim f.num)).map SV.v ++ (us (lim f.den)).map SV.v).drop 8 := rfl
  have l : ((us (lim f.num)).map SV.v).length = 8 := by rw [List.length_map, us_len, lim_len]
  have l2 : ((us (lim f.den)).map SV.v).length = 8 * 1 := by rw [List.length_map, us_len, lim_len]
  have e2 : ((us (lim f.num)).map SV.v ++ (us (lim f.den)).map SV.v).drop 8 = (us (lim f.den)).map SV.v := by
    have := List.drop_left (l₁ := (us (lim f.num)).map SV.v) (l₂ := (us (lim f.den)).map SV.v)
    rw [l] at this
    exact this
  rw [e, e2, List.take_of_length_le (by rw [l2]; exact Nat.le_refl _), map_r1]
theorem ro_lnum {cx : Cx} {H : Heap} {w : World} (hw : Holds cx H w) {id g ty : Nat} {f : Fr} (h : hfind H id = some (.blk g ty (frC f))) : Ro w (some (g, 1)) 8 1 (us (lim f.num)) := by
  have := ro_of_blk hw h 1 8 1 (by rw [frC_len]; omega)
  rw [frC_num] at this
  exact this
theorem ro_lden {cx : Cx} {H : Heap} {w : World} (hw : Holds cx H w) {id g ty : Nat} {f : Fr} (h : hfind H id = some (.blk g ty (frC f))) : Ro w (some (g, 9)) 8 1 (us (lim f.den)) := by
  have := ro_of_blk hw h 9 8 1 (by rw [frC_len]; omega)
  rw [frC_den] at this
  exact this
structure Big (f : Fr) : Prop where
  num : f.num < big
  den : f.den < big
theorem dg_big {n : Nat} (h : n < big) : (dg bb n).length ≤ 8 := (dg_len (by decide) 8 n).2 (by rw [← big_pow]; exact h)
theorem ro_dg {w : World} {A : Option (Nat × Nat)} {n : Nat} (hn : n < big) (h : Ro w A 8 1 (us (lim n))) : Ro w A (dg bb n).length 1 (us (dg bb n)) := by
  have h8 := dg_big hn
  have := h.take_ (m := (dg bb n).length) h8
  rw [Nat.mul_one, us_take, ← lim_dg hn, ← trim_take, lim_dg hn] at this
  exact this
theorem ro_num {cx : Cx} {H : Heap} {w : World} (hw : Holds cx H w) {id g ty : Nat} {f : Fr} (hb : Big f) (h : hfind H id = some (.blk g ty (frC f))) : Ro w (some (g, 1)) (dg bb f.num).length 1 (us (dg bb f.num)) := ro_dg hb.num (ro_lnum hw h)
theorem ro_den {cx : Cx} {H : Heap} {w : World} (hw : Holds cx H w) {id g ty : Nat} {f : Fr} (hb : Big f) (h : hfind H id = some (.blk g ty (frC f))) : Ro w (some (g, 9)) (dg bb f.den).length 1 (us (dg bb f.den)) := ro_dg hb.den (ro_lden hw h)
set_option maxRecDepth 100000 in
set_option maxHeartbeats 8000000 in
theorem parts_any (f : Fr) (w : World) (hb : Big f) :
    Calls Try.prog 42 #[frV f] w fun e w' => ∃ g, e = .returned (.tuple #[.slice (some ⟨g, 1, none⟩) (dg bb f.num).length 8, .slice (some ⟨g, 9, none⟩) (dg bb f.den).length 8]) ∧ w.heap.size ≤ g ∧ w'.heap[g]? = some (.cells ((frC f).map SV.r1).toArray 26 (0, 0)) ∧ Below w.heap.size w w' := by
  refine calls_sat (cx := Try.cx 10 [] [] [] w) (Try.ok ..) Try.func42 rfl [.a (frC f)] rfl (by show 1 ≤ 10; omega) [] (holds_nil (Nat.le_refl _)) ?_
  repeat' ((conv => whnf); first | refine walk (Try.ok ..) ?_ | fail)
  intro g hg
  repeat' ((conv => whnf); first | refine walk (Try.ok ..) ?_ | refine side2 ?_ | refine sideL2 ?_ | fail)
  refine calledQ_at (.s 1 g 0 1 (dg bb f.num).length 8) rfl (fun _ w' hh => by
    have h1 := trim_any (lim f.num) (some (g, 1)) 8 w' (by rw [lim_len]; exact ro_lnum hh (id := 1) rfl) (by rw [lim_len]; omega) (by rw [lim_len]; omega)
    rw [lim_dg hb.num, lim_len] at h1
    exact h1) ?_
  repeat' ((conv => whnf); first | refine side2 ?_ | fail)
  refine calledQ_at (.s 1 g 0 9 (dg bb f.den).length 8) rfl (fun _ w' hh => by
    have h1 := trim_any (lim f.den) (some (g, 9)) 8 w' (by rw [lim_len]; exact ro_lden hh (id := 1) rfl) (by rw [lim_len]; omega) (by rw [lim_len]; omega)
    rw [lim_dg hb.den, lim_len] at h1
    exact h1) ?_
  repeat' ((conv => whnf); first | refine walk (Try.ok ..) ?_ | fail)
  exact done_newblk (r := fun g => .tuple #[.slice (some ⟨g, 1, none⟩) (dg bb f.num).length 8, .slice (some ⟨g, 9, none⟩) (dg bb f.den).length 8]) rfl rfl 1 g rfl rfl
set_option maxRecDepth 100000 in
set_option maxHeartbeats 8000000 in
theorem right_any (f : Fr) (w : World) (hb : Big f) :
    Calls Try.prog 35 #[frV f] w fun e w' => e = .returned (.bool (rightF f)) ∧ Below w.heap.size w w' := by
  have h8n := dg_big hb.num
  have h8d := dg_big hb.den
  refine calls_sat (cx := Try.cx 29 [] [] [] w) (Try.ok ..) Try.func35 rfl [.a (frC f)] rfl (by show 1 ≤ 29; omega) [] (holds_nil (Nat.le_refl _)) ?_
  repeat' ((conv => whnf); first | refine walk (Try.ok ..) ?_ | fail)
  intro g1 hg1
  repeat' ((conv => whnf); first | refine walk (Try.ok ..) ?_ | refine side2 ?_ | fail)
  refine called_newblk 7 (ty := 26) (cs := frC f) (fun g => .t [.s 7 g 0 1 (dg bb f.num).length 8, .s 7 g 0 9 (dg bb f.den).length 8]) (fun w' hh => parts_any f w' hb) ?_
  intro g hg
  rcases Nat.eq_zero_or_pos f.den with hd | hd
  · have hr : rightF f = false := by unfold rightF; rw [hd]; rfl
    have hl0 : (dg bb f.den).length = 0 := by rw [hd]; rfl
    rw [hr, hl0]
    repeat' ((conv => whnf); first | refine walk (Try.ok ..) ?_ | refine side2 ?_ | refine sideL2 ?_ | fail)
    refine calledQ_pure (v := .bool false) (.v (.bool false)) rfl (fun h => absurd h (by simp [Grd.holds])) ?_
    repeat' ((conv => whnf); first | refine sideL2 ?_ | fail)
    refine calledQ_pure (v := .bool false) (.v (.bool false)) rfl (fun h => absurd h (by simp [Grd.holds])) ?_
    repeat' ((conv => whnf); first | refine walk (Try.ok ..) ?_ | refine side2 ?_ | refine xi _ (fun _ => And.intro rfl rfl) ?_ | fail)
    exact done_pure rfl rfl rfl
  have hlp : 0 < (dg bb f.den).length := by
    rcases Nat.eq_zero_or_pos (dg bb f.den).length with h9 | h9
    · rw [List.length_eq_zero_iff, dg_nil (by decide)] at h9
      omega
    · exact h9
  obtain ⟨G, hG⟩ : ∃ G, G = Nat.gcd f.num f.den := ⟨_, rfl⟩
  have hfin : (decide ((0 : Int) < ((dg bb f.den).length : Int)) && decide (G = 1) && !(f.neg && (((dg bb f.num).length : Int) == 0))) = rightF f := by
    unfold rightF
    have e1 : decide ((0 : Int) < ((dg bb f.den).length : Int)) = decide (f.den ≠ 0) := by rw [decide_eq_true (by omega), decide_eq_true (by omega)]
    have e2 : (((dg bb f.num).length : Int) == 0) = decide (f.num = 0) := by
      rw [Bool.eq_iff_iff, beq_iff_eq, decide_eq_true_eq, ← dg_nil (B := bb) (by decide), ← List.length_eq_zero_iff]
      omega
    have e3 : decide (G = 1) = decide (Nat.gcd f.num f.den = 1) := decide_eq_decide.2 (by rw [hG])
    rw [e1, e2, e3]
  repeat' ((conv => whnf); first | refine walk (Try.ok ..) ?_ | refine side2 ?_ | (with_reducible refine Or.inr (Cnd.mk (fun _ => ?_) (fun h => absurd (of_decide_eq_false h) (by omega)))) | fail)
  refine called_alt 16 (e := 23) (s := 1) (m := (dg bb G).length) (xs := us (dg bb G)) (p := G = f.den) (.s 7 g 0 9 (dg bb f.den).length 8) (fun w' hh => by rw [hG]; exact common_any f.num f.den (some (g, 1)) (some (g, 9)) 8 8 w' (ro_num hh hb (id := 7) rfl) (ro_den hh hb (id := 7) rfl) (by omega) (by omega) hd) ?_ ?_
  · intro hgd
    repeat' ((conv => whnf); first | (refine Cnd.mk (fun h => ?_) (fun h => ?_) <;> (first | exact cndT h (by (try dsimp only); omega) | exact cndF h (by (try dsimp only); omega) | (exfalso; simp at h; omega) | simp at h | skip)) | refine Or.inr ?_ | fail)
    refine called_at (.v (.bool (decide (G = 1)))) rfl (fun w' hh => by
      rw [hgd]
      exact one_any f.den (some (g, 9)) 8 w' (ro_den hh hb (id := 7) rfl) (by omega)) ?_
    repeat' ((conv => whnf); first | refine walk (Try.ok ..) ?_ | refine side2 ?_ | refine xi _ (fun _ => And.intro rfl rfl) ?_ | fail)
    exact done_pure rfl rfl (congrArg Value.bool hfin)
  · intro A1 c1
    repeat' ((conv => whnf); first | (refine Cnd.mk (fun h => ?_) (fun h => ?_) <;> (first | exact cndT h (by (try dsimp only); omega) | exact cndF h (by (try dsimp only); omega) | (exfalso; simp at h; omega) | simp at h | skip)) | refine Or.inr ?_ | fail)
    refine called_at (.v (.bool (decide (G = 1)))) rfl (fun w' hh => one_any G A1 c1 w' (ro_of_row hh (id := 16) rfl) (Nat.le_trans (len_le (by decide) (by rw [hG]; exact Nat.gcd_le_right f.num hd)) (show (dg bb f.den).length ≤ 100000 by omega))) ?_
    repeat' ((conv => whnf); first | refine walk (Try.ok ..) ?_ | refine side2 ?_ | refine xi _ (fun _ => And.intro rfl rfl) ?_ | fail)
    exact done_pure rfl rfl (congrArg Value.bool hfin)
end Go.Proofs.Ytomhfakkebaciaa
