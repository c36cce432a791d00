/-
  The walk of the law's parts: texts.
-/
import Derived.Test.YtdejcgmaphmjbaaDoorQ1
set_option linter.unusedSimpArgs false
set_option linter.unusedVariables false
namespace Go.Proofs.YtdejcgmaphmjbaaDoor
open Go Sat Go.RowKit Go.PlainAid
theorem rep_le (s : ByteArray) (n : Nat) (hs : s.size ≤ 10) (hn : n ≤ 70000) : ∃ r : ByteArray, r.size ≤ 700000 ∧ ∀ w, Calls Tryd.prog 26 #[.string s, .int .i64 n] w fun e w' => e = .returned (.string r) ∧ Below w.heap.size w w' := by
  have h1 : n * s.size ≤ 70000 * 10 := Nat.mul_le_mul hn hs
  obtain ⟨r, hr, h2⟩ := rep_any s n (n * s.size) rfl (by omega) (by omega)
  exact ⟨r, by omega, h2⟩
def three : List SV := [.v (.string ⟨#[65]⟩), .v (.string ⟨#[]⟩), .v (.string ⟨#[63, 43]⟩)]
theorem three_get {k : Nat} (h : k < 3) : ∃ s, (three[0 + k]? = some (.v (.string s)) ∧ (SV.v (.string s)).scal = true) ∧ s.size ≤ 2 := by
  match k, h with
  | 0, _ => exact ⟨_, ⟨rfl, rfl⟩, by decide⟩
  | 1, _ => exact ⟨_, ⟨rfl, rfl⟩, by decide⟩
  | 2, _ => exact ⟨_, ⟨rfl, rfl⟩, by decide⟩
/-- a row of one's own as a nest at a callee's world -/
theorem row_nest {α : Type} (R : Lies α) {cx : Cx} {H : Heap} {w : World} (hw : Holds cx H w) (id : Nat) {A : Option (Nat × Nat)} {T n cap : Nat} {xs : List Value} (l : List α) (hf : hfind H id = some (.row A T 1 n cap xs)) (hn : n = l.length) (hx : ∀ (i : Nat) (x : Value) (a : α), xs[i]? = some x → l[i]? = some a → R w (fun _ => True) x a) : Nest R w (fun _ => True) (.slice (adr A) n cap) l := by
  subst hn
  exact ⟨A, cap, xs, rfl, row_caps hw hf, ro_of_row hw hf, fun p hp h0 => ⟨trivial, own_cells0 (hw.at_ hf) h0 p hp⟩, hx⟩
theorem made_strs {w : World} {n m : Nat} : ∀ (i : Nat) (x : Value) (a : ByteArray), (madeCells (Value.cells (.string ⟨#[]⟩)) n).toList[i]? = some x → (List.replicate m (⟨#[]⟩ : ByteArray))[i]? = some a → Text w (fun _ => True) x a := by
  intro i x a hx ha
  rw [show Value.cells (.string ⟨#[]⟩) = #[.string ⟨#[]⟩] from rfl, toList_madeCells_one, List.getElem?_replicate] at hx
  rw [List.getElem?_replicate] at ha
  split at hx
  · split at ha
    · cases hx; cases ha; rfl
    · cases ha
  · cases hx
theorem blk_own {cx : Cx} {H : Heap} {w : World} (L : List Nat) (id : Nat) {g T : Nat} {s : ByteArray} (hw : Holds cx H w) (hf : hfind H id = some (.blk g T [.v (.string s)])) (hi : memN L id = true) {n : Nat} (hn : n = 1) : Nest Text w (fun x => x ∈ gsOf H L) (.slice (some ⟨g, 0, none⟩) n n) [s] := by
  subst hn
  obtain ⟨A, cap, xs, hv, hc, hro, hb, hx⟩ := blk_nest Text hw id [s] [.string s] hf rfl (by show 1 ≤ _; unfold maxLen; omega) (n := 1) rfl ⟨rfl, trivial⟩
  refine ⟨A, cap, xs, hv, hc, hro, fun p hp h0 => ⟨?_, (hb p hp h0).2⟩, hx⟩
  refine gs_sub hi hf ?_
  have := hv
  rw [hp] at this
  simp only [adr, Option.map_some, Value.slice.injEq, Option.some.injEq, Addr.mk.injEq] at this
  simp only [HB.gs, List.mem_singleton]
  exact this.1.1.symm
theorem set_mid {xs : List Value} {k n : Nat} {v z : Value} (h : xs.length = k) (hk : k < n) : (xs ++ List.replicate (n - k) z).set (mulS (k : Int).toNat 1) v = xs ++ [v] ++ List.replicate (n - (k + 1)) z := by
  rw [mulS_eq, Int.toNat_natCast, Nat.mul_one, ← h, List.set_append_right _ _ (Nat.le_refl _), Nat.sub_self, List.append_assoc, show n - xs.length = (n - (xs.length + 1)) + 1 from by omega]
  rfl
theorem take_at {α : Type} {xs : List Value} {k n m : Nat} {a0 : α} {P : Value → α → Prop} (h : ∀ (i : Nat) (x : Value) (a : α), xs[i]? = some x → (List.replicate k a0)[i]? = some a → P x a) (hm : m ≤ k) : ∀ (i : Nat) (x : Value) (a : α), (xs.take n)[i]? = some x → (List.replicate m a0)[i]? = some a → P x a := by
  intro i x a hx ha
  rw [List.getElem?_take] at hx
  rw [List.getElem?_replicate] at ha
  split at hx
  · split at ha
    · exact h i x a hx (by rw [List.getElem?_replicate, if_pos (by omega)]; exact ha)
    · cases ha
  · cases hx
theorem app_at {α : Type} {xs : List Value} {l : List α} {n : Nat} {v : Value} {b : α} {P : Value → α → Prop} (h : ∀ (i : Nat) (x : Value) (a : α), xs[i]? = some x → l[i]? = some a → P x a) (hl : xs.length = l.length) (hn : n = xs.length) (hv : P v b) : ∀ (i : Nat) (x : Value) (a : α), ([] ++ xs.take n ++ [v])[i]? = some x → (l ++ [b])[i]? = some a → P x a := by
  intro i x a hx ha
  rw [List.nil_append, List.take_of_length_le (by omega)] at hx
  rcases Nat.lt_or_ge i xs.length with h1 | h1
  · rw [List.getElem?_append_left h1] at hx
    rw [List.getElem?_append_left (by omega)] at ha
    exact h i x a hx ha
  · rw [List.getElem?_append_right h1] at hx
    rw [List.getElem?_append_right (by omega), ← hl] at ha
    have h2 : i - xs.length = 0 := by
      rcases Nat.eq_zero_or_pos (i - xs.length) with h3 | h3
      · exact h3
      · rw [List.getElem?_eq_none (by simp; omega)] at hx; cases hx
    rw [h2] at hx ha
    cases hx
    cases ha
    exact hv
theorem few_two {k : Nat} (hk : k ≤ 99999) : ∀ s ∈ [List.replicate (k - 1) [(⟨#[120]⟩ : ByteArray)], List.replicate k [(⟨#[120]⟩ : ByteArray)] ++ [[]]], s.length ≤ 100000 ∧ ∀ e ∈ s, e.length ≤ 100000 := by
  intro s hs
  rcases List.mem_cons.1 hs with rfl | hs
  · exact ⟨by rw [List.length_replicate]; omega, fun e he => by rw [List.eq_of_mem_replicate he]; show 1 ≤ _; omega⟩
  rw [List.mem_singleton.1 hs]
  refine ⟨by rw [List.length_append, List.length_replicate]; show k + 1 ≤ _; omega, fun e he => ?_⟩
  rcases List.mem_append.1 he with he | he
  · rw [List.eq_of_mem_replicate he]
    show 1 ≤ _
    omega
  · rw [List.mem_singleton.1 he]
    show 0 ≤ _
    omega
set_option maxRecDepth 100000 in
set_option maxHeartbeats 32000000 in
theorem parts_any (w : World) : Calls Tryd.prog 7 #[] w fun e w' => e = .returned (.bool true) ∧ Below w.heap.size w w' := by
  have q65 : (⟨#[65]⟩ : ByteArray).size = 1 := rfl
  have q39 : (⟨#[39]⟩ : ByteArray).size = 1 := rfl
  have q58 : (⟨#[58]⟩ : ByteArray).size = 1 := rfl
  have q0 : (⟨#[0]⟩ : ByteArray).size = 1 := rfl
  have q63 : (⟨#[63]⟩ : ByteArray).size = 1 := rfl
  have qa : (⟨#[63, 120, 39]⟩ : ByteArray).size = 3 := rfl
  have qb : (⟨#[65, 43]⟩ : ByteArray).size = 2 := rfl
  have qc : (⟨#[63, 58, 39]⟩ : ByteArray).size = 3 := rfl
  have qd : (⟨#[63, 97, 39]⟩ : ByteArray).size = 3 := rfl
  have qe : (⟨#[127, 39]⟩ : ByteArray).size = 2 := rfl
  refine calls_sat (cx := Tryd.cx 185 [22] [] [] w) (Tryd.ok ..) Tryd.func7 rfl [] rfl (by show 0 ≤ 185; omega) [] (holds_nil (Nat.le_refl _)) ?_
  repeat' ((conv => whnf); first | refine walk (Tryd.ok ..) ?_ | (refine Cnd.mk (fun h => ?_) (fun h => ?_) <;> (first | exact cndT h (by (try dsimp only); omega) | exact cndF h (by (try dsimp only); omega) | (exfalso; simp at h; omega) | simp at h | skip)) | refine kp ?_ ?_ | refine tw ?_ ?_ | refine appnil rfl ?_ | refine rawnil rfl ?_ | exact trivial | refine side2 ?_ | refine sideL2 ?_ | refine Or.inr ?_ | refine sat_drawH (Tryd.ok ..) (by kernel_rfl) ?_ | refine xi _ (And.intro rfl rfl) ?_ | refine xi _ (fun _ => And.intro rfl rfl) ?_ | refine xi _ rfl ?_)
  refine sat_loop (Tryd.ok ..) (α := Nat) (fun n => ([(1, .yes, .v (.int .i64 (n : Nat)))], []))
    (fun n => 8 ≤ n ∧ n ≤ 12) (fun n => 12 - n) (fun _ => rfl) ?_ ?_
  · refine ⟨8, ⟨Nat.le_refl _, by omega⟩, ?_, ?_, rfl⟩
    all_goals ((repeat' (first | exact trivial | exact rfl | refine And.intro ?_ ?_)) <;> (try (conv => whnf)) <;> (try simp only [SV.real, SV.r2, SV.r1]))
  rintro n ⟨hn8, hn12⟩
  by_cases hn : n < 12
  · obtain ⟨r2, hr2, hR2⟩ := rep_le ⟨#[65, 58]⟩ n (by decide) (by omega)
    obtain ⟨r3, hr3, hR3⟩ := rep_le ⟨#[43, 65, 58, 66]⟩ 3 (by decide) (by omega)
    repeat' ((conv => whnf); first | refine walk (Tryd.ok ..) ?_ | (refine Cnd.mk (fun h => ?_) (fun h => ?_) <;> (first | exact cndT h (by (try dsimp only); omega) | exact cndF h (by (try dsimp only); omega) | (exfalso; simp at h; omega) | simp at h | skip)) | refine kp ?_ ?_ | refine tw ?_ ?_ | refine appnil rfl ?_ | refine rawnil rfl ?_ | exact trivial | refine side2 ?_ | refine sideL2 ?_ | refine Or.inr ?_ | refine sat_drawH (Tryd.ok ..) (by kernel_rfl) ?_ | refine xi _ (And.intro rfl rfl) ?_ | refine xi _ (fun _ => And.intro rfl rfl) ?_ | refine xi _ rfl ?_)
    (conv => whnf)
    intro g13 hg13
    repeat' ((conv => whnf); first | refine walk (Tryd.ok ..) ?_ | (refine Cnd.mk (fun h => ?_) (fun h => ?_) <;> (first | exact cndT h (by (try dsimp only); omega) | exact cndF h (by (try dsimp only); omega) | (exfalso; simp at h; omega) | simp at h | skip)) | refine kp ?_ ?_ | refine tw ?_ ?_ | refine appnil rfl ?_ | refine rawnil rfl ?_ | exact trivial | refine side2 ?_ | refine sideL2 ?_ | refine Or.inr ?_ | refine sat_drawH (Tryd.ok ..) (by kernel_rfl) ?_ | refine xi _ (And.intro rfl rfl) ?_ | refine xi _ (fun _ => And.intro rfl rfl) ?_ | refine xi _ rfl ?_)
    refine sat_loop (Tryd.ok ..) (α := Nat) (fun k => ([(1, .yes, .v (.int .i64 (n : Nat))), (13, .yes, .s 13 g13 0 0 3 3), (14, .yes, .v (.int .i64 3)), (15, .yes, .v (.int .i64 (k : Nat)))], [(13, .blk g13 9 three)]))
      (fun k => k ≤ 3) (fun k => 3 - k) (fun _ => rfl) ?_ ?_
    · refine ⟨0, Nat.zero_le _, ?_, ?_, rfl⟩
      all_goals ((repeat' (first | exact trivial | exact rfl | refine And.intro ?_ ?_)) <;> (try (conv => whnf)) <;> (try simp only [SV.real, SV.r2, SV.r1]))
    intro k hk
    by_cases hk1 : k < 3
    · obtain ⟨x, hx, hxs⟩ := three_get hk1
      have hcs : (⟨#[58]⟩ ++ x : ByteArray).size ≤ 3 := by rw [ByteArray.size_append, q58]; omega
      obtain ⟨r1, hr1, hR1⟩ := rep_le (⟨#[58]⟩ ++ x) n (by omega) (by omega)
      repeat' ((conv => whnf); first | refine walk (Tryd.ok ..) ?_ | (refine Cnd.mk (fun h => ?_) (fun h => ?_) <;> (first | exact cndT h (by (try dsimp only); omega) | exact cndF h (by (try dsimp only); omega) | (exfalso; simp at h; omega) | simp at h | skip)) | refine kp ?_ ?_ | refine tw ?_ ?_ | refine appnil rfl ?_ | refine rawnil rfl ?_ | exact trivial | refine side2 ?_ | (with_reducible refine Or.inr (Cnd.mk (fun _ => ?_) (fun h => absurd (of_decide_eq_false h) (by omega)))) | (with_reducible refine Or.inr (Cnd.mk (fun _ => ?_) (fun h => absurd h (by simp)))) | refine sideL2 ?_ | refine Or.inr ?_ | refine sat_drawH (Tryd.ok ..) (by kernel_rfl) ?_ | refine xi _ (And.intro rfl rfl) ?_ | refine xi _ (fun _ => And.intro rfl rfl) ?_ | refine xi _ rfl ?_ | refine xi _ (fun _ => hx) ?_ | refine xi _ hx ?_)
      (conv => whnf)
      first | refine called_pure (.v (.string r1)) rfl (fun w' => hR1 w') ?_ | refine calledQ_pure (.v (.string r1)) rfl (fun _ w' => hR1 w') ?_
      repeat' ((conv => whnf); first | refine walk (Tryd.ok ..) ?_ | (refine Cnd.mk (fun h => ?_) (fun h => ?_) <;> (first | exact cndT h (by (try dsimp only); omega) | exact cndF h (by (try dsimp only); omega) | (exfalso; simp at h; omega) | simp at h | skip)) | refine kp ?_ ?_ | refine tw ?_ ?_ | refine appnil rfl ?_ | refine rawnil rfl ?_ | exact trivial | refine side2 ?_ | (with_reducible refine Or.inr (Cnd.mk (fun _ => ?_) (fun h => absurd (of_decide_eq_false h) (by omega)))) | (with_reducible refine Or.inr (Cnd.mk (fun _ => ?_) (fun h => absurd h (by simp)))) | refine sideL2 ?_ | refine Or.inr ?_ | refine sat_drawH (Tryd.ok ..) (by kernel_rfl) ?_ | refine xi _ (And.intro rfl rfl) ?_ | refine xi _ (fun _ => And.intro rfl rfl) ?_ | refine xi _ rfl ?_)
      (conv => whnf)
      first | refine called_pure (.v (.bool true)) rfl (fun w' => reads_any _ w') ?_ | refine calledQ_pure (.v (.bool true)) rfl (fun _ w' => reads_any _ w') ?_
      repeat' ((conv => whnf); first | refine walk (Tryd.ok ..) ?_ | (refine Cnd.mk (fun h => ?_) (fun h => ?_) <;> (first | exact cndT h (by (try dsimp only); omega) | exact cndF h (by (try dsimp only); omega) | (exfalso; simp at h; omega) | simp at h | skip)) | refine kp ?_ ?_ | refine tw ?_ ?_ | refine appnil rfl ?_ | refine rawnil rfl ?_ | exact trivial | refine side2 ?_ | (with_reducible refine Or.inr (Cnd.mk (fun _ => ?_) (fun h => absurd (of_decide_eq_false h) (by omega)))) | (with_reducible refine Or.inr (Cnd.mk (fun _ => ?_) (fun h => absurd h (by simp)))) | refine sideL2 ?_ | refine Or.inr ?_ | refine sat_drawH (Tryd.ok ..) (by kernel_rfl) ?_ | refine xi _ (And.intro rfl rfl) ?_ | refine xi _ (fun _ => And.intro rfl rfl) ?_ | refine xi _ rfl ?_)
      (conv => whnf)
      first | refine called_pure (.v (.string r2)) rfl (fun w' => hR2 w') ?_ | refine calledQ_pure (.v (.string r2)) rfl (fun _ w' => hR2 w') ?_
      repeat' ((conv => whnf); first | refine walk (Tryd.ok ..) ?_ | (refine Cnd.mk (fun h => ?_) (fun h => ?_) <;> (first | exact cndT h (by (try dsimp only); omega) | exact cndF h (by (try dsimp only); omega) | (exfalso; simp at h; omega) | simp at h | skip)) | refine kp ?_ ?_ | refine tw ?_ ?_ | refine appnil rfl ?_ | refine rawnil rfl ?_ | exact trivial | refine side2 ?_ | (with_reducible refine Or.inr (Cnd.mk (fun _ => ?_) (fun h => absurd (of_decide_eq_false h) (by omega)))) | (with_reducible refine Or.inr (Cnd.mk (fun _ => ?_) (fun h => absurd h (by simp)))) | refine sideL2 ?_ | refine Or.inr ?_ | refine sat_drawH (Tryd.ok ..) (by kernel_rfl) ?_ | refine xi _ (And.intro rfl rfl) ?_ | refine xi _ (fun _ => And.intro rfl rfl) ?_ | refine xi _ rfl ?_)
      (conv => whnf)
      first | refine called_pure (.v (.bool true)) rfl (fun w' => reads_any _ w') ?_ | refine calledQ_pure (.v (.bool true)) rfl (fun _ w' => reads_any _ w') ?_
      repeat' ((conv => whnf); first | refine walk (Tryd.ok ..) ?_ | (refine Cnd.mk (fun h => ?_) (fun h => ?_) <;> (first | exact cndT h (by (try dsimp only); omega) | exact cndF h (by (try dsimp only); omega) | (exfalso; simp at h; omega) | simp at h | skip)) | refine kp ?_ ?_ | refine tw ?_ ?_ | refine appnil rfl ?_ | refine rawnil rfl ?_ | exact trivial | refine side2 ?_ | (with_reducible refine Or.inr (Cnd.mk (fun _ => ?_) (fun h => absurd (of_decide_eq_false h) (by omega)))) | (with_reducible refine Or.inr (Cnd.mk (fun _ => ?_) (fun h => absurd h (by simp)))) | refine sideL2 ?_ | refine Or.inr ?_ | refine sat_drawH (Tryd.ok ..) (by kernel_rfl) ?_ | refine xi _ (And.intro rfl rfl) ?_ | refine xi _ (fun _ => And.intro rfl rfl) ?_ | refine xi _ rfl ?_)
      (conv => whnf)
      first | refine called_pure (.v (.string r3)) rfl (fun w' => hR3 w') ?_ | refine calledQ_pure (.v (.string r3)) rfl (fun _ w' => hR3 w') ?_
      repeat' ((conv => whnf); first | refine walk (Tryd.ok ..) ?_ | (refine Cnd.mk (fun h => ?_) (fun h => ?_) <;> (first | exact cndT h (by (try dsimp only); omega) | exact cndF h (by (try dsimp only); omega) | (exfalso; simp at h; omega) | simp at h | skip)) | refine kp ?_ ?_ | refine tw ?_ ?_ | refine appnil rfl ?_ | refine rawnil rfl ?_ | exact trivial | refine side2 ?_ | (with_reducible refine Or.inr (Cnd.mk (fun _ => ?_) (fun h => absurd (of_decide_eq_false h) (by omega)))) | (with_reducible refine Or.inr (Cnd.mk (fun _ => ?_) (fun h => absurd h (by simp)))) | refine sideL2 ?_ | refine Or.inr ?_ | refine sat_drawH (Tryd.ok ..) (by kernel_rfl) ?_ | refine xi _ (And.intro rfl rfl) ?_ | refine xi _ (fun _ => And.intro rfl rfl) ?_ | refine xi _ rfl ?_)
      (conv => whnf)
      first | refine called_pure (.v (.string r1)) rfl (fun w' => hR1 w') ?_ | refine calledQ_pure (.v (.string r1)) rfl (fun _ w' => hR1 w') ?_
      repeat' ((conv => whnf); first | refine walk (Tryd.ok ..) ?_ | (refine Cnd.mk (fun h => ?_) (fun h => ?_) <;> (first | exact cndT h (by (try dsimp only); omega) | exact cndF h (by (try dsimp only); omega) | (exfalso; simp at h; omega) | simp at h | skip)) | refine kp ?_ ?_ | refine tw ?_ ?_ | refine appnil rfl ?_ | refine rawnil rfl ?_ | exact trivial | refine side2 ?_ | (with_reducible refine Or.inr (Cnd.mk (fun _ => ?_) (fun h => absurd (of_decide_eq_false h) (by omega)))) | (with_reducible refine Or.inr (Cnd.mk (fun _ => ?_) (fun h => absurd h (by simp)))) | refine sideL2 ?_ | refine Or.inr ?_ | refine sat_drawH (Tryd.ok ..) (by kernel_rfl) ?_ | refine xi _ (And.intro rfl rfl) ?_ | refine xi _ (fun _ => And.intro rfl rfl) ?_ | refine xi _ rfl ?_)
      (conv => whnf)
      first | refine called_pure (.v (.bool true)) rfl (fun w' => reads_any _ w') ?_ | refine calledQ_pure (.v (.bool true)) rfl (fun _ w' => reads_any _ w') ?_
      repeat' ((conv => whnf); first | refine walk (Tryd.ok ..) ?_ | (refine Cnd.mk (fun h => ?_) (fun h => ?_) <;> (first | exact cndT h (by (try dsimp only); omega) | exact cndF h (by (try dsimp only); omega) | (exfalso; simp at h; omega) | simp at h | skip)) | refine kp ?_ ?_ | refine tw ?_ ?_ | refine appnil rfl ?_ | refine rawnil rfl ?_ | exact trivial | refine side2 ?_ | (with_reducible refine Or.inr (Cnd.mk (fun _ => ?_) (fun h => absurd (of_decide_eq_false h) (by omega)))) | (with_reducible refine Or.inr (Cnd.mk (fun _ => ?_) (fun h => absurd h (by simp)))) | refine sideL2 ?_ | refine Or.inr ?_ | refine sat_drawH (Tryd.ok ..) (by kernel_rfl) ?_ | refine xi _ (And.intro rfl rfl) ?_ | refine xi _ (fun _ => And.intro rfl rfl) ?_ | refine xi _ rfl ?_)
      refine ⟨k + 1, ⟨hk1, by omega⟩, ?_, ?_, rfl⟩
      all_goals ((repeat' (first | exact trivial | exact rfl | refine And.intro ?_ ?_)) <;> (try (conv => whnf)) <;> (try simp only [SV.real, SV.r2, SV.r1]))
    obtain rfl : k = 3 := by omega
    repeat' ((conv => whnf); first | refine walk (Tryd.ok ..) ?_ | (refine Cnd.mk (fun h => ?_) (fun h => ?_) <;> (first | exact cndT h (by (try dsimp only); omega) | exact cndF h (by (try dsimp only); omega) | (exfalso; simp at h; omega) | simp at h | skip)) | refine kp ?_ ?_ | refine tw ?_ ?_ | refine appnil rfl ?_ | refine rawnil rfl ?_ | exact trivial | refine side2 ?_ | (with_reducible refine Or.inr (Cnd.mk (fun _ => ?_) (fun h => absurd (of_decide_eq_false h) (by omega)))) | (with_reducible refine Or.inr (Cnd.mk (fun _ => ?_) (fun h => absurd h (by simp)))) | refine sideL2 ?_ | refine Or.inr ?_ | refine sat_drawH (Tryd.ok ..) (by kernel_rfl) ?_ | refine xi _ (And.intro rfl rfl) ?_ | refine xi _ (fun _ => And.intro rfl rfl) ?_ | refine xi _ rfl ?_)
    (conv => whnf)
    intro g47 hg47
    repeat' ((conv => whnf); first | refine walk (Tryd.ok ..) ?_ | (refine Cnd.mk (fun h => ?_) (fun h => ?_) <;> (first | exact cndT h (by (try dsimp only); omega) | exact cndF h (by (try dsimp only); omega) | (exfalso; simp at h; omega) | simp at h | skip)) | refine kp ?_ ?_ | refine tw ?_ ?_ | refine appnil rfl ?_ | refine rawnil rfl ?_ | exact trivial | refine side2 ?_ | (with_reducible refine Or.inr (Cnd.mk (fun _ => ?_) (fun h => absurd (of_decide_eq_false h) (by omega)))) | (with_reducible refine Or.inr (Cnd.mk (fun _ => ?_) (fun h => absurd h (by simp)))) | refine sideL2 ?_ | refine Or.inr ?_ | refine sat_drawH (Tryd.ok ..) (by kernel_rfl) ?_ | refine xi _ (And.intro rfl rfl) ?_ | refine xi _ (fun _ => And.intro rfl rfl) ?_ | refine xi _ rfl ?_)
    (conv => whnf)
    intro g48 hg48
    repeat' ((conv => whnf); first | refine walk (Tryd.ok ..) ?_ | (refine Cnd.mk (fun h => ?_) (fun h => ?_) <;> (first | exact cndT h (by (try dsimp only); omega) | exact cndF h (by (try dsimp only); omega) | (exfalso; simp at h; omega) | simp at h | skip)) | refine kp ?_ ?_ | refine tw ?_ ?_ | refine appnil rfl ?_ | refine rawnil rfl ?_ | exact trivial | refine side2 ?_ | (with_reducible refine Or.inr (Cnd.mk (fun _ => ?_) (fun h => absurd (of_decide_eq_false h) (by omega)))) | (with_reducible refine Or.inr (Cnd.mk (fun _ => ?_) (fun h => absurd h (by simp)))) | refine sideL2 ?_ | refine Or.inr ?_ | refine sat_drawH (Tryd.ok ..) (by kernel_rfl) ?_ | refine xi _ (And.intro rfl rfl) ?_ | refine xi _ (fun _ => And.intro rfl rfl) ?_ | refine xi _ rfl ?_)
    (conv => whnf)
    intro g49 hg49
    repeat' ((conv => whnf); first | refine walk (Tryd.ok ..) ?_ | (refine Cnd.mk (fun h => ?_) (fun h => ?_) <;> (first | exact cndT h (by (try dsimp only); omega) | exact cndF h (by (try dsimp only); omega) | (exfalso; simp at h; omega) | simp at h | skip)) | refine kp ?_ ?_ | refine tw ?_ ?_ | refine appnil rfl ?_ | refine rawnil rfl ?_ | exact trivial | refine side2 ?_ | (with_reducible refine Or.inr (Cnd.mk (fun _ => ?_) (fun h => absurd (of_decide_eq_false h) (by omega)))) | (with_reducible refine Or.inr (Cnd.mk (fun _ => ?_) (fun h => absurd h (by simp)))) | refine sideL2 ?_ | refine Or.inr ?_ | refine sat_drawH (Tryd.ok ..) (by kernel_rfl) ?_ | refine xi _ (And.intro rfl rfl) ?_ | refine xi _ (fun _ => And.intro rfl rfl) ?_ | refine xi _ rfl ?_)
    (conv => whnf)
    refine called_at (.v (.bool true)) rfl (fun w' hh => by
      have h47 := row_nest (cx := Tryd.cxg 185 [22] [] [] w.heap.size [] w) Text hh 47 (List.replicate n ⟨#[]⟩) rfl (by rw [List.length_replicate]; exact Int.toNat_natCast n) made_strs
      have h48 := blk_nest (cx := Tryd.cxg 185 [22] [] [] w.heap.size [] w) NE hh 48 [List.replicate n ⟨#[]⟩] [.slice (some ⟨g47, 0, none⟩) (n : Int).toNat (n : Int).toNat] rfl rfl (by show 1 ≤ _; unfold maxLen; omega) rfl ⟨h47, trivial⟩
      have h49 := blk_nest (cx := Tryd.cxg 185 [22] [] [] w.heap.size [] w) NS hh 49 [[List.replicate n ⟨#[]⟩]] [.slice (some ⟨g48, 0, none⟩) 1 1] rfl rfl (by show 1 ≤ _; unfold maxLen; omega) rfl ⟨h48, trivial⟩
      exact writes_at h49 (few_of (by show 1 ≤ _; omega) (by simp; omega))) ?_
    repeat' ((conv => whnf); first | refine walk (Tryd.ok ..) ?_ | (refine Cnd.mk (fun h => ?_) (fun h => ?_) <;> (first | exact cndT h (by (try dsimp only); omega) | exact cndF h (by (try dsimp only); omega) | (exfalso; simp at h; omega) | simp at h | skip)) | refine kp ?_ ?_ | refine tw ?_ ?_ | refine appnil rfl ?_ | refine rawnil rfl ?_ | exact trivial | refine side2 ?_ | (with_reducible refine Or.inr (Cnd.mk (fun _ => ?_) (fun h => absurd (of_decide_eq_false h) (by omega)))) | (with_reducible refine Or.inr (Cnd.mk (fun _ => ?_) (fun h => absurd h (by simp)))) | refine sideL2 ?_ | refine Or.inr ?_ | refine sat_drawH (Tryd.ok ..) (by kernel_rfl) ?_ | refine xi _ (And.intro rfl rfl) ?_ | refine xi _ (fun _ => And.intro rfl rfl) ?_ | refine xi _ rfl ?_)
    (conv => whnf)
    intro g53 hg53
    repeat' ((conv => whnf); first | refine walk (Tryd.ok ..) ?_ | (refine Cnd.mk (fun h => ?_) (fun h => ?_) <;> (first | exact cndT h (by (try dsimp only); omega) | exact cndF h (by (try dsimp only); omega) | (exfalso; simp at h; omega) | simp at h | skip)) | refine kp ?_ ?_ | refine tw ?_ ?_ | refine appnil rfl ?_ | refine rawnil rfl ?_ | exact trivial | refine side2 ?_ | (with_reducible refine Or.inr (Cnd.mk (fun _ => ?_) (fun h => absurd (of_decide_eq_false h) (by omega)))) | (with_reducible refine Or.inr (Cnd.mk (fun _ => ?_) (fun h => absurd h (by simp)))) | refine sideL2 ?_ | refine Or.inr ?_ | refine sat_drawH (Tryd.ok ..) (by kernel_rfl) ?_ | refine xi _ (And.intro rfl rfl) ?_ | refine xi _ (fun _ => And.intro rfl rfl) ?_ | refine xi _ rfl ?_)
    (conv => whnf)
    intro g55 hg55
    repeat' ((conv => whnf); first | refine walk (Tryd.ok ..) ?_ | (refine Cnd.mk (fun h => ?_) (fun h => ?_) <;> (first | exact cndT h (by (try dsimp only); omega) | exact cndF h (by (try dsimp only); omega) | (exfalso; simp at h; omega) | simp at h | skip)) | refine kp ?_ ?_ | refine tw ?_ ?_ | refine appnil rfl ?_ | refine rawnil rfl ?_ | exact trivial | refine side2 ?_ | (with_reducible refine Or.inr (Cnd.mk (fun _ => ?_) (fun h => absurd (of_decide_eq_false h) (by omega)))) | (with_reducible refine Or.inr (Cnd.mk (fun _ => ?_) (fun h => absurd h (by simp)))) | refine sideL2 ?_ | refine Or.inr ?_ | refine sat_drawH (Tryd.ok ..) (by kernel_rfl) ?_ | refine xi _ (And.intro rfl rfl) ?_ | refine xi _ (fun _ => And.intro rfl rfl) ?_ | refine xi _ rfl ?_)
    (conv => whnf)
    intro g56 hg56
    repeat' ((conv => whnf); first | refine walk (Tryd.ok ..) ?_ | (refine Cnd.mk (fun h => ?_) (fun h => ?_) <;> (first | exact cndT h (by (try dsimp only); omega) | exact cndF h (by (try dsimp only); omega) | (exfalso; simp at h; omega) | simp at h | skip)) | refine kp ?_ ?_ | refine tw ?_ ?_ | refine appnil rfl ?_ | refine rawnil rfl ?_ | exact trivial | refine side2 ?_ | (with_reducible refine Or.inr (Cnd.mk (fun _ => ?_) (fun h => absurd (of_decide_eq_false h) (by omega)))) | (with_reducible refine Or.inr (Cnd.mk (fun _ => ?_) (fun h => absurd h (by simp)))) | refine sideL2 ?_ | refine Or.inr ?_ | refine sat_drawH (Tryd.ok ..) (by kernel_rfl) ?_ | refine xi _ (And.intro rfl rfl) ?_ | refine xi _ (fun _ => And.intro rfl rfl) ?_ | refine xi _ rfl ?_)
    (conv => whnf)
    intro g57 hg57
    repeat' ((conv => whnf); first | refine walk (Tryd.ok ..) ?_ | (refine Cnd.mk (fun h => ?_) (fun h => ?_) <;> (first | exact cndT h (by (try dsimp only); omega) | exact cndF h (by (try dsimp only); omega) | (exfalso; simp at h; omega) | simp at h | skip)) | refine kp ?_ ?_ | refine tw ?_ ?_ | refine appnil rfl ?_ | refine rawnil rfl ?_ | exact trivial | refine side2 ?_ | (with_reducible refine Or.inr (Cnd.mk (fun _ => ?_) (fun h => absurd (of_decide_eq_false h) (by omega)))) | (with_reducible refine Or.inr (Cnd.mk (fun _ => ?_) (fun h => absurd h (by simp)))) | refine sideL2 ?_ | refine Or.inr ?_ | refine sat_drawH (Tryd.ok ..) (by kernel_rfl) ?_ | refine xi _ (And.intro rfl rfl) ?_ | refine xi _ (fun _ => And.intro rfl rfl) ?_ | refine xi _ rfl ?_)
    (conv => whnf)
    intro g58 hg58
    repeat' ((conv => whnf); first | refine walk (Tryd.ok ..) ?_ | (refine Cnd.mk (fun h => ?_) (fun h => ?_) <;> (first | exact cndT h (by (try dsimp only); omega) | exact cndF h (by (try dsimp only); omega) | (exfalso; simp at h; omega) | simp at h | skip)) | refine kp ?_ ?_ | refine tw ?_ ?_ | refine appnil rfl ?_ | refine rawnil rfl ?_ | exact trivial | refine side2 ?_ | (with_reducible refine Or.inr (Cnd.mk (fun _ => ?_) (fun h => absurd (of_decide_eq_false h) (by omega)))) | (with_reducible refine Or.inr (Cnd.mk (fun _ => ?_) (fun h => absurd h (by simp)))) | refine sideL2 ?_ | refine Or.inr ?_ | refine sat_drawH (Tryd.ok ..) (by kernel_rfl) ?_ | refine xi _ (And.intro rfl rfl) ?_ | refine xi _ (fun _ => And.intro rfl rfl) ?_ | refine xi _ rfl ?_)
    (conv => whnf)
    refine called_at (.v (.bool true)) rfl (fun w' hh => by
      have h53 := blk_nest (cx := Tryd.cxg 185 [22] [] [] w.heap.size [] w) Text hh 53 [⟨#[65]⟩] [.string ⟨#[65]⟩] rfl rfl (by show 1 ≤ _; unfold maxLen; omega) rfl ⟨rfl, trivial⟩
      have h55 := row_nest (cx := Tryd.cxg 185 [22] [] [] w.heap.size [] w) Text hh 55 (List.replicate n ⟨#[]⟩) rfl (by rw [List.length_replicate]; exact Int.toNat_natCast n) made_strs
      have h56 := blk_nest (cx := Tryd.cxg 185 [22] [] [] w.heap.size [] w) NE hh 56 [[⟨#[65]⟩], List.replicate n ⟨#[]⟩] [.slice (some ⟨g53, 0, none⟩) 1 1, .slice (some ⟨g55, 0, none⟩) (n : Int).toNat (n : Int).toNat] rfl rfl (by show 2 ≤ _; unfold maxLen; omega) rfl ⟨h53, h55, trivial⟩
      have h57 := blk_nest (cx := Tryd.cxg 185 [22] [] [] w.heap.size [] w) NE hh 57 [] [] rfl rfl (by show 0 ≤ _; omega) rfl trivial
      have h58 := blk_nest (cx := Tryd.cxg 185 [22] [] [] w.heap.size [] w) NS hh 58 [[[⟨#[65]⟩], List.replicate n ⟨#[]⟩], []] [.slice (some ⟨g56, 0, none⟩) 2 2, .slice (some ⟨g57, 0, none⟩) 0 0] rfl rfl (by show 2 ≤ _; unfold maxLen; omega) rfl ⟨h56, h57, trivial⟩
      exact writes_at h58 (few_of (by show 2 ≤ _; omega) (by simp; omega))) ?_
    repeat' ((conv => whnf); first | refine walk (Tryd.ok ..) ?_ | (refine Cnd.mk (fun h => ?_) (fun h => ?_) <;> (first | exact cndT h (by (try dsimp only); omega) | exact cndF h (by (try dsimp only); omega) | (exfalso; simp at h; omega) | simp at h | skip)) | refine kp ?_ ?_ | refine tw ?_ ?_ | refine appnil rfl ?_ | refine rawnil rfl ?_ | exact trivial | refine side2 ?_ | (with_reducible refine Or.inr (Cnd.mk (fun _ => ?_) (fun h => absurd (of_decide_eq_false h) (by omega)))) | (with_reducible refine Or.inr (Cnd.mk (fun _ => ?_) (fun h => absurd h (by simp)))) | refine sideL2 ?_ | refine Or.inr ?_ | refine sat_drawH (Tryd.ok ..) (by kernel_rfl) ?_ | refine xi _ (And.intro rfl rfl) ?_ | refine xi _ (fun _ => And.intro rfl rfl) ?_ | refine xi _ rfl ?_)
    refine ⟨n + 1, ⟨⟨by omega, hn⟩, by omega⟩, ?_, ?_, rfl⟩
    all_goals ((repeat' (first | exact trivial | exact rfl | refine And.intro ?_ ?_)) <;> (try (conv => whnf)) <;> (try simp only [SV.real, SV.r2, SV.r1]))
  obtain rfl : n = 12 := by omega
  clear hn8 hn12 hn
  repeat' ((conv => whnf); first | refine walk (Tryd.ok ..) ?_ | (refine Cnd.mk (fun h => ?_) (fun h => ?_) <;> (first | exact cndT h (by (try dsimp only); omega) | exact cndF h (by (try dsimp only); omega) | (exfalso; simp at h; omega) | simp at h | skip)) | refine kp ?_ ?_ | refine tw ?_ ?_ | refine appnil rfl ?_ | refine rawnil rfl ?_ | exact trivial | refine side2 ?_ | refine sideL2 ?_ | refine Or.inr ?_ | refine sat_drawH (Tryd.ok ..) (by kernel_rfl) ?_ | refine xi _ (And.intro rfl rfl) ?_ | refine xi _ (fun _ => And.intro rfl rfl) ?_ | refine xi _ rfl ?_)
  refine sat_loop (Tryd.ok ..) (α := Nat) (fun n => ([(4, .yes, .v (.int .i64 (n : Nat)))], []))
    (fun n => 28 ≤ n ∧ n ≤ 33) (fun n => 33 - n) (fun _ => rfl) ?_ ?_
  · refine ⟨28, ⟨Nat.le_refl _, by omega⟩, ?_, ?_, rfl⟩
    all_goals ((repeat' (first | exact trivial | exact rfl | refine And.intro ?_ ?_)) <;> (try (conv => whnf)) <;> (try simp only [SV.real, SV.r2, SV.r1]))
  rintro n ⟨hn8, hn12⟩
  by_cases hn : n < 33
  · obtain ⟨r4, hr4, hR4⟩ := rep_le ⟨#[43]⟩ n (by decide) (by omega)
    obtain ⟨r5, hr5, hR5⟩ := rep_le ⟨#[43, 98, 58, 99]⟩ n (by decide) (by omega)
    obtain ⟨r6, hr6, hR6⟩ := rep_le ⟨#[43, 255]⟩ n (by decide) (by omega)
    repeat' ((conv => whnf); first | refine walk (Tryd.ok ..) ?_ | (refine Cnd.mk (fun h => ?_) (fun h => ?_) <;> (first | exact cndT h (by (try dsimp only); omega) | exact cndF h (by (try dsimp only); omega) | (exfalso; simp at h; omega) | simp at h | skip)) | refine kp ?_ ?_ | refine tw ?_ ?_ | refine appnil rfl ?_ | refine rawnil rfl ?_ | exact trivial | refine side2 ?_ | (with_reducible refine Or.inr (Cnd.mk (fun _ => ?_) (fun h => absurd (of_decide_eq_false h) (by omega)))) | (with_reducible refine Or.inr (Cnd.mk (fun _ => ?_) (fun h => absurd h (by simp)))) | refine sideL2 ?_ | refine Or.inr ?_ | refine sat_drawH (Tryd.ok ..) (by kernel_rfl) ?_ | refine xi _ (And.intro rfl rfl) ?_ | refine xi _ (fun _ => And.intro rfl rfl) ?_ | refine xi _ rfl ?_)
    (conv => whnf)
    first | refine called_pure (.v (.string r4)) rfl (fun w' => hR4 w') ?_ | refine calledQ_pure (.v (.string r4)) rfl (fun _ w' => hR4 w') ?_
    repeat' ((conv => whnf); first | refine walk (Tryd.ok ..) ?_ | (refine Cnd.mk (fun h => ?_) (fun h => ?_) <;> (first | exact cndT h (by (try dsimp only); omega) | exact cndF h (by (try dsimp only); omega) | (exfalso; simp at h; omega) | simp at h | skip)) | refine kp ?_ ?_ | refine tw ?_ ?_ | refine appnil rfl ?_ | refine rawnil rfl ?_ | exact trivial | refine side2 ?_ | (with_reducible refine Or.inr (Cnd.mk (fun _ => ?_) (fun h => absurd (of_decide_eq_false h) (by omega)))) | (with_reducible refine Or.inr (Cnd.mk (fun _ => ?_) (fun h => absurd h (by simp)))) | refine sideL2 ?_ | refine Or.inr ?_ | refine sat_drawH (Tryd.ok ..) (by kernel_rfl) ?_ | refine xi _ (And.intro rfl rfl) ?_ | refine xi _ (fun _ => And.intro rfl rfl) ?_ | refine xi _ rfl ?_)
    (conv => whnf)
    first | refine called_pure (.v (.bool true)) rfl (fun w' => reads_any _ w') ?_ | refine calledQ_pure (.v (.bool true)) rfl (fun _ w' => reads_any _ w') ?_
    repeat' ((conv => whnf); first | refine walk (Tryd.ok ..) ?_ | (refine Cnd.mk (fun h => ?_) (fun h => ?_) <;> (first | exact cndT h (by (try dsimp only); omega) | exact cndF h (by (try dsimp only); omega) | (exfalso; simp at h; omega) | simp at h | skip)) | refine kp ?_ ?_ | refine tw ?_ ?_ | refine appnil rfl ?_ | refine rawnil rfl ?_ | exact trivial | refine side2 ?_ | (with_reducible refine Or.inr (Cnd.mk (fun _ => ?_) (fun h => absurd (of_decide_eq_false h) (by omega)))) | (with_reducible refine Or.inr (Cnd.mk (fun _ => ?_) (fun h => absurd h (by simp)))) | refine sideL2 ?_ | refine Or.inr ?_ | refine sat_drawH (Tryd.ok ..) (by kernel_rfl) ?_ | refine xi _ (And.intro rfl rfl) ?_ | refine xi _ (fun _ => And.intro rfl rfl) ?_ | refine xi _ rfl ?_)
    (conv => whnf)
    first | refine called_pure (.v (.string r5)) rfl (fun w' => hR5 w') ?_ | refine calledQ_pure (.v (.string r5)) rfl (fun _ w' => hR5 w') ?_
    repeat' ((conv => whnf); first | refine walk (Tryd.ok ..) ?_ | (refine Cnd.mk (fun h => ?_) (fun h => ?_) <;> (first | exact cndT h (by (try dsimp only); omega) | exact cndF h (by (try dsimp only); omega) | (exfalso; simp at h; omega) | simp at h | skip)) | refine kp ?_ ?_ | refine tw ?_ ?_ | refine appnil rfl ?_ | refine rawnil rfl ?_ | exact trivial | refine side2 ?_ | (with_reducible refine Or.inr (Cnd.mk (fun _ => ?_) (fun h => absurd (of_decide_eq_false h) (by omega)))) | (with_reducible refine Or.inr (Cnd.mk (fun _ => ?_) (fun h => absurd h (by simp)))) | refine sideL2 ?_ | refine Or.inr ?_ | refine sat_drawH (Tryd.ok ..) (by kernel_rfl) ?_ | refine xi _ (And.intro rfl rfl) ?_ | refine xi _ (fun _ => And.intro rfl rfl) ?_ | refine xi _ rfl ?_)
    (conv => whnf)
    first | refine called_pure (.v (.bool true)) rfl (fun w' => reads_any _ w') ?_ | refine calledQ_pure (.v (.bool true)) rfl (fun _ w' => reads_any _ w') ?_
    repeat' ((conv => whnf); first | refine walk (Tryd.ok ..) ?_ | (refine Cnd.mk (fun h => ?_) (fun h => ?_) <;> (first | exact cndT h (by (try dsimp only); omega) | exact cndF h (by (try dsimp only); omega) | (exfalso; simp at h; omega) | simp at h | skip)) | refine kp ?_ ?_ | refine tw ?_ ?_ | refine appnil rfl ?_ | refine rawnil rfl ?_ | exact trivial | refine side2 ?_ | (with_reducible refine Or.inr (Cnd.mk (fun _ => ?_) (fun h => absurd (of_decide_eq_false h) (by omega)))) | (with_reducible refine Or.inr (Cnd.mk (fun _ => ?_) (fun h => absurd h (by simp)))) | refine sideL2 ?_ | refine Or.inr ?_ | refine sat_drawH (Tryd.ok ..) (by kernel_rfl) ?_ | refine xi _ (And.intro rfl rfl) ?_ | refine xi _ (fun _ => And.intro rfl rfl) ?_ | refine xi _ rfl ?_)
    (conv => whnf)
    first | refine called_pure (.v (.string r6)) rfl (fun w' => hR6 w') ?_ | refine calledQ_pure (.v (.string r6)) rfl (fun _ w' => hR6 w') ?_
    repeat' ((conv => whnf); first | refine walk (Tryd.ok ..) ?_ | (refine Cnd.mk (fun h => ?_) (fun h => ?_) <;> (first | exact cndT h (by (try dsimp only); omega) | exact cndF h (by (try dsimp only); omega) | (exfalso; simp at h; omega) | simp at h | skip)) | refine kp ?_ ?_ | refine tw ?_ ?_ | refine appnil rfl ?_ | refine rawnil rfl ?_ | exact trivial | refine side2 ?_ | (with_reducible refine Or.inr (Cnd.mk (fun _ => ?_) (fun h => absurd (of_decide_eq_false h) (by omega)))) | (with_reducible refine Or.inr (Cnd.mk (fun _ => ?_) (fun h => absurd h (by simp)))) | refine sideL2 ?_ | refine Or.inr ?_ | refine sat_drawH (Tryd.ok ..) (by kernel_rfl) ?_ | refine xi _ (And.intro rfl rfl) ?_ | refine xi _ (fun _ => And.intro rfl rfl) ?_ | refine xi _ rfl ?_)
    (conv => whnf)
    first | refine called_pure (.v (.bool true)) rfl (fun w' => reads_any _ w') ?_ | refine calledQ_pure (.v (.bool true)) rfl (fun _ w' => reads_any _ w') ?_
    repeat' ((conv => whnf); first | refine walk (Tryd.ok ..) ?_ | (refine Cnd.mk (fun h => ?_) (fun h => ?_) <;> (first | exact cndT h (by (try dsimp only); omega) | exact cndF h (by (try dsimp only); omega) | (exfalso; simp at h; omega) | simp at h | skip)) | refine kp ?_ ?_ | refine tw ?_ ?_ | refine appnil rfl ?_ | refine rawnil rfl ?_ | exact trivial | refine side2 ?_ | (with_reducible refine Or.inr (Cnd.mk (fun _ => ?_) (fun h => absurd (of_decide_eq_false h) (by omega)))) | (with_reducible refine Or.inr (Cnd.mk (fun _ => ?_) (fun h => absurd h (by simp)))) | refine sideL2 ?_ | refine Or.inr ?_ | refine sat_drawH (Tryd.ok ..) (by kernel_rfl) ?_ | refine xi _ (And.intro rfl rfl) ?_ | refine xi _ (fun _ => And.intro rfl rfl) ?_ | refine xi _ rfl ?_)
    (conv => whnf)
    intro g87 hg87
    repeat' ((conv => whnf); first | refine walk (Tryd.ok ..) ?_ | (refine Cnd.mk (fun h => ?_) (fun h => ?_) <;> (first | exact cndT h (by (try dsimp only); omega) | exact cndF h (by (try dsimp only); omega) | (exfalso; simp at h; omega) | simp at h | skip)) | refine kp ?_ ?_ | refine tw ?_ ?_ | refine appnil rfl ?_ | refine rawnil rfl ?_ | exact trivial | refine side2 ?_ | (with_reducible refine Or.inr (Cnd.mk (fun _ => ?_) (fun h => absurd (of_decide_eq_false h) (by omega)))) | (with_reducible refine Or.inr (Cnd.mk (fun _ => ?_) (fun h => absurd h (by simp)))) | refine sideL2 ?_ | refine Or.inr ?_ | refine sat_drawH (Tryd.ok ..) (by kernel_rfl) ?_ | refine xi _ (And.intro rfl rfl) ?_ | refine xi _ (fun _ => And.intro rfl rfl) ?_ | refine xi _ rfl ?_)
    refine sat_fuse 77 [] rfl fun w0 hw0 => ?_
    refine sat_loop (Tryd.ok ..) (α := Nat × List Value × World × List Nat) (fun t => ([(4, .yes, .v (.int .i64 (n : Nat))), (5, .yes, .o 87 (some (g87, 0)) (n : Int).toNat (n : Int).toNat), (89, .yes, .v (.int .i64 n)), (90, .yes, .v (.int .i64 t.1))], [(87, .row (some (g87, 0)) 25 1 (n : Int).toNat (n : Int).toNat (t.2.1 ++ List.replicate (n - t.1) (.slice none 0 0))), (77, .own t.2.2.2 (Frz t.2.2.1 t.2.2.2))]))
      (fun t => t.1 ≤ n ∧ t.2.1.length = t.1 ∧ Got NE t.2.2.1 t.2.2.2 t.2.1 (List.replicate t.1 [⟨#[120]⟩])) (fun t => n - t.1) (fun _ => rfl) ?_ ?_
    · refine ⟨(0, [], w0, []), ⟨Nat.zero_le _, rfl, Got.nil⟩, ?_, ?_, rfl⟩
      all_goals ((repeat' (first | exact trivial | exact rfl | refine And.intro ?_ ?_)) <;> (try (conv => whnf)) <;> (try simp only [SV.real, SV.r2, SV.r1]))
      rw [show Value.cells (.slice none 0 0) = #[.slice none 0 0] from rfl, toList_madeCells_one, Nat.mul_one]
      rfl
    rintro ⟨k, xs, w1, gs⟩ ⟨hk, hxl, hgot⟩
    dsimp only at hk hxl hgot ⊢
    by_cases hk1 : k < n
    · repeat' ((conv => whnf); first | refine walk (Tryd.ok ..) ?_ | (refine Cnd.mk (fun h => ?_) (fun h => ?_) <;> (first | exact cndT h (by (try dsimp only); omega) | exact cndF h (by (try dsimp only); omega) | (exfalso; simp at h; omega) | simp at h | skip)) | refine kp ?_ ?_ | refine tw ?_ ?_ | refine appnil rfl ?_ | refine rawnil rfl ?_ | exact trivial | refine side2 ?_ | (with_reducible refine Or.inr (Cnd.mk (fun _ => ?_) (fun h => absurd (of_decide_eq_false h) (by omega)))) | (with_reducible refine Or.inr (Cnd.mk (fun _ => ?_) (fun h => absurd h (by simp)))) | refine sideL2 ?_ | refine Or.inr ?_ | refine sat_drawH (Tryd.ok ..) (by kernel_rfl) ?_ | refine xi _ (And.intro rfl rfl) ?_ | refine xi _ (fun _ => And.intro rfl rfl) ?_ | refine xi _ rfl ?_)
      (conv => whnf)
      intro g95 hg95
      repeat' ((conv => whnf); first | refine walk (Tryd.ok ..) ?_ | (refine Cnd.mk (fun h => ?_) (fun h => ?_) <;> (first | exact cndT h (by (try dsimp only); omega) | exact cndF h (by (try dsimp only); omega) | (exfalso; simp at h; omega) | simp at h | skip)) | refine kp ?_ ?_ | refine tw ?_ ?_ | refine appnil rfl ?_ | refine rawnil rfl ?_ | exact trivial | refine side2 ?_ | (with_reducible refine Or.inr (Cnd.mk (fun _ => ?_) (fun h => absurd (of_decide_eq_false h) (by omega)))) | (with_reducible refine Or.inr (Cnd.mk (fun _ => ?_) (fun h => absurd h (by simp)))) | refine sideL2 ?_ | refine Or.inr ?_ | refine sat_drawH (Tryd.ok ..) (by kernel_rfl) ?_ | refine xi _ (And.intro rfl rfl) ?_ | refine xi _ (fun _ => And.intro rfl rfl) ?_ | refine xi _ rfl ?_)
      (conv => whnf)
      have hlt : mulS (k : Int).toNat 1 < (xs ++ List.replicate (n - k) (Value.slice none 0 0)).length := by
        rw [mulS_eq, Int.toNat_natCast, List.length_append, List.length_replicate]
        omega
      refine ⟨hlt, ?_⟩
      repeat' ((conv => whnf); first | refine walk (Tryd.ok ..) ?_ | (refine Cnd.mk (fun h => ?_) (fun h => ?_) <;> (first | exact cndT h (by (try dsimp only); omega) | exact cndF h (by (try dsimp only); omega) | (exfalso; simp at h; omega) | simp at h | skip)) | refine kp ?_ ?_ | refine tw ?_ ?_ | refine appnil rfl ?_ | refine rawnil rfl ?_ | exact trivial | refine side2 ?_ | (with_reducible refine Or.inr (Cnd.mk (fun _ => ?_) (fun h => absurd (of_decide_eq_false h) (by omega)))) | (with_reducible refine Or.inr (Cnd.mk (fun _ => ?_) (fun h => absurd h (by simp)))) | refine sideL2 ?_ | refine Or.inr ?_ | refine sat_drawH (Tryd.ok ..) (by kernel_rfl) ?_ | refine xi _ (And.intro rfl rfl) ?_ | refine xi _ (fun _ => And.intro rfl rfl) ?_ | refine xi _ rfl ?_)
      refine sat_fuse 77 [77, 95] rfl fun w4 hw4 => ?_
      have hgot' := (hgot.fuse ne_stays [77, 95] 77 hw4 rfl rfl).ext (a := [⟨#[120]⟩]) (by rw [hxl, List.length_replicate]) (blk_own [77, 95] 95 hw4 rfl rfl rfl)
      refine sat_ops (Tryd.ok ..) ?_
      repeat' ((conv => whnf); first | refine walk (Tryd.ok ..) ?_ | (refine Cnd.mk (fun h => ?_) (fun h => ?_) <;> (first | exact cndT h (by (try dsimp only); omega) | exact cndF h (by (try dsimp only); omega) | (exfalso; simp at h; omega) | simp at h | skip)) | refine kp ?_ ?_ | refine tw ?_ ?_ | refine appnil rfl ?_ | refine rawnil rfl ?_ | exact trivial | refine side2 ?_ | (with_reducible refine Or.inr (Cnd.mk (fun _ => ?_) (fun h => absurd (of_decide_eq_false h) (by omega)))) | (with_reducible refine Or.inr (Cnd.mk (fun _ => ?_) (fun h => absurd h (by simp)))) | refine sideL2 ?_ | refine Or.inr ?_ | refine sat_drawH (Tryd.ok ..) (by kernel_rfl) ?_ | refine xi _ (And.intro rfl rfl) ?_ | refine xi _ (fun _ => And.intro rfl rfl) ?_ | refine xi _ rfl ?_)
      refine ⟨(k + 1, xs ++ [.slice (some ⟨g95, 0, none⟩) 1 1], w4, _), ⟨⟨hk1, by rw [List.length_append, hxl]; rfl, by rw [List.replicate_succ']; exact hgot'⟩, by show n - (k + 1) < n - k; omega⟩, ?_, ?_, rfl⟩
      all_goals ((repeat' (first | exact trivial | exact rfl | refine And.intro ?_ ?_)) <;> (try (conv => whnf)) <;> (try simp only [SV.real, SV.r2, SV.r1]))
      exact set_mid hxl hk1
    obtain rfl : k = n := by omega
    have hE : xs ++ List.replicate (k - k) (Value.slice none 0 0) = xs := by rw [Nat.sub_self, List.replicate_zero, List.append_nil]
    rw [hE]
    clear hE
    have hx1 : (k : Int).toNat * 1 ≤ xs.length := by rw [Int.toNat_natCast, hxl]; omega
    have hall : allV (List.take ((k : Int).toNat * 1) xs) = true := by
      rw [Int.toNat_natCast, Nat.mul_one, List.take_of_length_le (by omega)]
      exact nest_all (R := NE) (fun _ _ _ _ h => nest_cells h) (by rw [hxl, List.length_replicate]) hgot.at_
    repeat' ((conv => whnf); first | refine walk (Tryd.ok ..) ?_ | (refine Cnd.mk (fun h => ?_) (fun h => ?_) <;> (first | exact cndT h (by (try dsimp only); omega) | exact cndF h (by (try dsimp only); omega) | (exfalso; simp at h; omega) | simp at h | skip)) | refine kp ?_ ?_ | refine tw ?_ ?_ | refine appnil rfl ?_ | refine rawnil rfl ?_ | exact trivial | refine side2 ?_ | (with_reducible refine Or.inr (Cnd.mk (fun _ => ?_) (fun h => absurd (of_decide_eq_false h) (by omega)))) | (with_reducible refine Or.inr (Cnd.mk (fun _ => ?_) (fun h => absurd h (by simp)))) | refine sideL2 ?_ | refine Or.inr ?_ | refine sat_drawH (Tryd.ok ..) (by kernel_rfl) ?_ | refine xi _ (And.intro rfl rfl) ?_ | refine xi _ (fun _ => And.intro rfl rfl) ?_ | refine xi _ rfl ?_)
    (conv => whnf)
    intro g99 hg99
    repeat' ((conv => whnf); first | refine walk (Tryd.ok ..) ?_ | (refine Cnd.mk (fun h => ?_) (fun h => ?_) <;> (first | exact cndT h (by (try dsimp only); omega) | exact cndF h (by (try dsimp only); omega) | (exfalso; simp at h; omega) | simp at h | skip)) | refine kp ?_ ?_ | refine tw ?_ ?_ | refine appnil rfl ?_ | refine rawnil rfl ?_ | exact trivial | refine side2 ?_ | (with_reducible refine Or.inr (Cnd.mk (fun _ => ?_) (fun h => absurd (of_decide_eq_false h) (by omega)))) | (with_reducible refine Or.inr (Cnd.mk (fun _ => ?_) (fun h => absurd h (by simp)))) | refine sideL2 ?_ | refine Or.inr ?_ | refine sat_drawH (Tryd.ok ..) (by kernel_rfl) ?_ | refine xi _ (And.intro rfl rfl) ?_ | refine xi _ (fun _ => And.intro rfl rfl) ?_ | refine xi _ rfl ?_)
    (conv => whnf)
    refine called_at (.v (.bool true)) rfl (fun w' hh => by
      have h87 := row_nest (cx := Tryd.cxg 185 [22] [] [] w.heap.size [] w) NE hh 87 (List.replicate k [⟨#[120]⟩]) rfl (by rw [List.length_replicate]; exact Int.toNat_natCast k) (fun i x a hx ha => frz_nest (d := 77) ne_stays (hgot.at_ i x a hx ha) rfl hh)
      have h99 := blk_nest (cx := Tryd.cxg 185 [22] [] [] w.heap.size [] w) NS hh 99 [List.replicate k [⟨#[120]⟩]] [.slice (some ⟨g87, 0, none⟩) (k : Int).toNat (k : Int).toNat] rfl rfl (by show 1 ≤ _; unfold maxLen; omega) rfl ⟨h87, trivial⟩
      exact writes_at h99 (few_of (by show 1 ≤ _; omega) (by simp; omega))) ?_
    repeat' ((conv => whnf); first | refine walk (Tryd.ok ..) ?_ | (refine Cnd.mk (fun h => ?_) (fun h => ?_) <;> (first | exact cndT h (by (try dsimp only); omega) | exact cndF h (by (try dsimp only); omega) | (exfalso; simp at h; omega) | simp at h | skip)) | refine kp ?_ ?_ | refine tw ?_ ?_ | refine appnil rfl ?_ | refine rawnil rfl ?_ | exact trivial | refine side2 ?_ | (with_reducible refine Or.inr (Cnd.mk (fun _ => ?_) (fun h => absurd (of_decide_eq_false h) (by omega)))) | (with_reducible refine Or.inr (Cnd.mk (fun _ => ?_) (fun h => absurd h (by simp)))) | refine sideL2 ?_ | refine Or.inr ?_ | refine sat_drawH (Tryd.ok ..) (by kernel_rfl) ?_ | refine xi _ (And.intro rfl rfl) ?_ | refine xi _ (fun _ => And.intro rfl rfl) ?_ | refine xi _ rfl ?_ | intro g hg | (refine And.intro hx1 ?_) | (refine And.intro hall ?_))
    all_goals
      (conv => whnf)
      refine called_at (.v (.bool true)) rfl (fun w' hh => by
        have hg' : ∀ (i : Nat) (x : Value) (a : List ByteArray), xs[i]? = some x → (List.replicate k [(⟨#[120]⟩ : ByteArray)])[i]? = some a → NE w' (fun _ => True) x a := fun i x a hx ha => frz_nest (d := 77) ne_stays (hgot.at_ i x a hx ha) rfl hh
        have h106 := row_nest NE (hh.cut_ (id := 87) rfl ((k : Int) - 1).toNat (by omega)) 87 (List.replicate (k - 1) [(⟨#[120]⟩ : ByteArray)]) rfl (by rw [List.length_replicate]; omega) (take_at hg' (by omega))
        have h111 := row_nest NE hh 107 (List.replicate k [(⟨#[120]⟩ : ByteArray)] ++ [[]]) rfl (by rw [List.length_append, List.length_replicate, Int.toNat_natCast, Nat.zero_add]; rfl) (app_at hg' (by rw [hxl, List.length_replicate]) (by rw [Int.toNat_natCast, Nat.mul_one, hxl]) nest_nil)
        have h112 := blk_nest NS hh 112 [List.replicate (k - 1) [(⟨#[120]⟩ : ByteArray)], List.replicate k [(⟨#[120]⟩ : ByteArray)] ++ [[]]] _ rfl rfl (by show 2 ≤ _; unfold maxLen; omega) rfl ⟨h106, h111, trivial⟩
        exact writes_at h112 (few_of (by show 2 ≤ _; omega) (few_two (by omega)))) ?_
      repeat' ((conv => whnf); first | refine walk (Tryd.ok ..) ?_ | (refine Cnd.mk (fun h => ?_) (fun h => ?_) <;> (first | exact cndT h (by (try dsimp only); omega) | exact cndF h (by (try dsimp only); omega) | (exfalso; simp at h; omega) | simp at h | skip)) | refine kp ?_ ?_ | refine tw ?_ ?_ | refine appnil rfl ?_ | refine rawnil rfl ?_ | exact trivial | refine side2 ?_ | (with_reducible refine Or.inr (Cnd.mk (fun _ => ?_) (fun h => absurd (of_decide_eq_false h) (by omega)))) | (with_reducible refine Or.inr (Cnd.mk (fun _ => ?_) (fun h => absurd h (by simp)))) | refine sideL2 ?_ | refine Or.inr ?_ | refine sat_drawH (Tryd.ok ..) (by kernel_rfl) ?_ | refine xi _ (And.intro rfl rfl) ?_ | refine xi _ (fun _ => And.intro rfl rfl) ?_ | refine xi _ rfl ?_)
      refine ⟨k + 1, ⟨⟨by omega, hn⟩, by omega⟩, ?_, ?_, rfl⟩
      all_goals ((repeat' (first | exact trivial | exact rfl | refine And.intro ?_ ?_)) <;> (try (conv => whnf)) <;> (try simp only [SV.real, SV.r2, SV.r1]))
  obtain rfl : n = 33 := by omega
  clear hn8 hn12 hn
  repeat' ((conv => whnf); first | refine walk (Tryd.ok ..) ?_ | (refine Cnd.mk (fun h => ?_) (fun h => ?_) <;> (first | exact cndT h (by (try dsimp only); omega) | exact cndF h (by (try dsimp only); omega) | (exfalso; simp at h; omega) | simp at h | skip)) | refine kp ?_ ?_ | refine tw ?_ ?_ | refine appnil rfl ?_ | refine rawnil rfl ?_ | exact trivial | refine side2 ?_ | refine sideL2 ?_ | refine Or.inr ?_ | refine sat_drawH (Tryd.ok ..) (by kernel_rfl) ?_ | refine xi _ (And.intro rfl rfl) ?_ | refine xi _ (fun _ => And.intro rfl rfl) ?_ | refine xi _ rfl ?_)
  refine sat_loop (Tryd.ok ..) (α := Nat) (fun n => ([(7, .yes, .v (.int .i64 (n : Nat)))], []))
    (fun n => 98 ≤ n ∧ n ≤ 103) (fun n => 103 - n) (fun _ => rfl) ?_ ?_
  · refine ⟨98, ⟨Nat.le_refl _, by omega⟩, ?_, ?_, rfl⟩
    all_goals ((repeat' (first | exact trivial | exact rfl | refine And.intro ?_ ?_)) <;> (try (conv => whnf)) <;> (try simp only [SV.real, SV.r2, SV.r1]))
  rintro n ⟨hn8, hn12⟩
  by_cases hn : n < 103
  · obtain ⟨r7, hr7, hR7⟩ := rep_le ⟨#[120]⟩ n (by decide) (by omega)
    obtain ⟨r8, hr8, hR8⟩ := rep_le ⟨#[63, 39]⟩ n (by decide) (by omega)
    repeat' ((conv => whnf); first | refine walk (Tryd.ok ..) ?_ | (refine Cnd.mk (fun h => ?_) (fun h => ?_) <;> (first | exact cndT h (by (try dsimp only); omega) | exact cndF h (by (try dsimp only); omega) | (exfalso; simp at h; omega) | simp at h | skip)) | refine kp ?_ ?_ | refine tw ?_ ?_ | refine appnil rfl ?_ | refine rawnil rfl ?_ | exact trivial | refine side2 ?_ | (with_reducible refine Or.inr (Cnd.mk (fun _ => ?_) (fun h => absurd (of_decide_eq_false h) (by omega)))) | (with_reducible refine Or.inr (Cnd.mk (fun _ => ?_) (fun h => absurd h (by simp)))) | refine sideL2 ?_ | refine Or.inr ?_ | refine sat_drawH (Tryd.ok ..) (by kernel_rfl) ?_ | refine xi _ (And.intro rfl rfl) ?_ | refine xi _ (fun _ => And.intro rfl rfl) ?_ | refine xi _ rfl ?_)
    (conv => whnf)
    first | refine called_pure (.v (.string r7)) rfl (fun w' => hR7 w') ?_ | refine calledQ_pure (.v (.string r7)) rfl (fun _ w' => hR7 w') ?_
    repeat' ((conv => whnf); first | refine walk (Tryd.ok ..) ?_ | (refine Cnd.mk (fun h => ?_) (fun h => ?_) <;> (first | exact cndT h (by (try dsimp only); omega) | exact cndF h (by (try dsimp only); omega) | (exfalso; simp at h; omega) | simp at h | skip)) | refine kp ?_ ?_ | refine tw ?_ ?_ | refine appnil rfl ?_ | refine rawnil rfl ?_ | exact trivial | refine side2 ?_ | (with_reducible refine Or.inr (Cnd.mk (fun _ => ?_) (fun h => absurd (of_decide_eq_false h) (by omega)))) | (with_reducible refine Or.inr (Cnd.mk (fun _ => ?_) (fun h => absurd h (by simp)))) | refine sideL2 ?_ | refine Or.inr ?_ | refine sat_drawH (Tryd.ok ..) (by kernel_rfl) ?_ | refine xi _ (And.intro rfl rfl) ?_ | refine xi _ (fun _ => And.intro rfl rfl) ?_ | refine xi _ rfl ?_)
    (conv => whnf)
    first | refine called_pure (.v (.bool true)) rfl (fun w' => reads_any _ w') ?_ | refine calledQ_pure (.v (.bool true)) rfl (fun _ w' => reads_any _ w') ?_
    repeat' ((conv => whnf); first | refine walk (Tryd.ok ..) ?_ | (refine Cnd.mk (fun h => ?_) (fun h => ?_) <;> (first | exact cndT h (by (try dsimp only); omega) | exact cndF h (by (try dsimp only); omega) | (exfalso; simp at h; omega) | simp at h | skip)) | refine kp ?_ ?_ | refine tw ?_ ?_ | refine appnil rfl ?_ | refine rawnil rfl ?_ | exact trivial | refine side2 ?_ | (with_reducible refine Or.inr (Cnd.mk (fun _ => ?_) (fun h => absurd (of_decide_eq_false h) (by omega)))) | (with_reducible refine Or.inr (Cnd.mk (fun _ => ?_) (fun h => absurd h (by simp)))) | refine sideL2 ?_ | refine Or.inr ?_ | refine sat_drawH (Tryd.ok ..) (by kernel_rfl) ?_ | refine xi _ (And.intro rfl rfl) ?_ | refine xi _ (fun _ => And.intro rfl rfl) ?_ | refine xi _ rfl ?_)
    (conv => whnf)
    first | refine called_pure (.v (.bool true)) rfl (fun w' => reads_any _ w') ?_ | refine calledQ_pure (.v (.bool true)) rfl (fun _ w' => reads_any _ w') ?_
    repeat' ((conv => whnf); first | refine walk (Tryd.ok ..) ?_ | (refine Cnd.mk (fun h => ?_) (fun h => ?_) <;> (first | exact cndT h (by (try dsimp only); omega) | exact cndF h (by (try dsimp only); omega) | (exfalso; simp at h; omega) | simp at h | skip)) | refine kp ?_ ?_ | refine tw ?_ ?_ | refine appnil rfl ?_ | refine rawnil rfl ?_ | exact trivial | refine side2 ?_ | (with_reducible refine Or.inr (Cnd.mk (fun _ => ?_) (fun h => absurd (of_decide_eq_false h) (by omega)))) | (with_reducible refine Or.inr (Cnd.mk (fun _ => ?_) (fun h => absurd h (by simp)))) | refine sideL2 ?_ | refine Or.inr ?_ | refine sat_drawH (Tryd.ok ..) (by kernel_rfl) ?_ | refine xi _ (And.intro rfl rfl) ?_ | refine xi _ (fun _ => And.intro rfl rfl) ?_ | refine xi _ rfl ?_)
    (conv => whnf)
    first | refine called_pure (.v (.bool true)) rfl (fun w' => reads_any _ w') ?_ | refine calledQ_pure (.v (.bool true)) rfl (fun _ w' => reads_any _ w') ?_
    repeat' ((conv => whnf); first | refine walk (Tryd.ok ..) ?_ | (refine Cnd.mk (fun h => ?_) (fun h => ?_) <;> (first | exact cndT h (by (try dsimp only); omega) | exact cndF h (by (try dsimp only); omega) | (exfalso; simp at h; omega) | simp at h | skip)) | refine kp ?_ ?_ | refine tw ?_ ?_ | refine appnil rfl ?_ | refine rawnil rfl ?_ | exact trivial | refine side2 ?_ | (with_reducible refine Or.inr (Cnd.mk (fun _ => ?_) (fun h => absurd (of_decide_eq_false h) (by omega)))) | (with_reducible refine Or.inr (Cnd.mk (fun _ => ?_) (fun h => absurd h (by simp)))) | refine sideL2 ?_ | refine Or.inr ?_ | refine sat_drawH (Tryd.ok ..) (by kernel_rfl) ?_ | refine xi _ (And.intro rfl rfl) ?_ | refine xi _ (fun _ => And.intro rfl rfl) ?_ | refine xi _ rfl ?_)
    (conv => whnf)
    first | refine called_pure (.v (.bool true)) rfl (fun w' => reads_any _ w') ?_ | refine calledQ_pure (.v (.bool true)) rfl (fun _ w' => reads_any _ w') ?_
    repeat' ((conv => whnf); first | refine walk (Tryd.ok ..) ?_ | (refine Cnd.mk (fun h => ?_) (fun h => ?_) <;> (first | exact cndT h (by (try dsimp only); omega) | exact cndF h (by (try dsimp only); omega) | (exfalso; simp at h; omega) | simp at h | skip)) | refine kp ?_ ?_ | refine tw ?_ ?_ | refine appnil rfl ?_ | refine rawnil rfl ?_ | exact trivial | refine side2 ?_ | (with_reducible refine Or.inr (Cnd.mk (fun _ => ?_) (fun h => absurd (of_decide_eq_false h) (by omega)))) | (with_reducible refine Or.inr (Cnd.mk (fun _ => ?_) (fun h => absurd h (by simp)))) | refine sideL2 ?_ | refine Or.inr ?_ | refine sat_drawH (Tryd.ok ..) (by kernel_rfl) ?_ | refine xi _ (And.intro rfl rfl) ?_ | refine xi _ (fun _ => And.intro rfl rfl) ?_ | refine xi _ rfl ?_)
    (conv => whnf)
    first | refine called_pure (.v (.bool true)) rfl (fun w' => reads_any _ w') ?_ | refine calledQ_pure (.v (.bool true)) rfl (fun _ w' => reads_any _ w') ?_
    repeat' ((conv => whnf); first | refine walk (Tryd.ok ..) ?_ | (refine Cnd.mk (fun h => ?_) (fun h => ?_) <;> (first | exact cndT h (by (try dsimp only); omega) | exact cndF h (by (try dsimp only); omega) | (exfalso; simp at h; omega) | simp at h | skip)) | refine kp ?_ ?_ | refine tw ?_ ?_ | refine appnil rfl ?_ | refine rawnil rfl ?_ | exact trivial | refine side2 ?_ | (with_reducible refine Or.inr (Cnd.mk (fun _ => ?_) (fun h => absurd (of_decide_eq_false h) (by omega)))) | (with_reducible refine Or.inr (Cnd.mk (fun _ => ?_) (fun h => absurd h (by simp)))) | refine sideL2 ?_ | refine Or.inr ?_ | refine sat_drawH (Tryd.ok ..) (by kernel_rfl) ?_ | refine xi _ (And.intro rfl rfl) ?_ | refine xi _ (fun _ => And.intro rfl rfl) ?_ | refine xi _ rfl ?_)
    (conv => whnf)
    first | refine called_pure (.v (.string r8)) rfl (fun w' => hR8 w') ?_ | refine calledQ_pure (.v (.string r8)) rfl (fun _ w' => hR8 w') ?_
    repeat' ((conv => whnf); first | refine walk (Tryd.ok ..) ?_ | (refine Cnd.mk (fun h => ?_) (fun h => ?_) <;> (first | exact cndT h (by (try dsimp only); omega) | exact cndF h (by (try dsimp only); omega) | (exfalso; simp at h; omega) | simp at h | skip)) | refine kp ?_ ?_ | refine tw ?_ ?_ | refine appnil rfl ?_ | refine rawnil rfl ?_ | exact trivial | refine side2 ?_ | (with_reducible refine Or.inr (Cnd.mk (fun _ => ?_) (fun h => absurd (of_decide_eq_false h) (by omega)))) | (with_reducible refine Or.inr (Cnd.mk (fun _ => ?_) (fun h => absurd h (by simp)))) | refine sideL2 ?_ | refine Or.inr ?_ | refine sat_drawH (Tryd.ok ..) (by kernel_rfl) ?_ | refine xi _ (And.intro rfl rfl) ?_ | refine xi _ (fun _ => And.intro rfl rfl) ?_ | refine xi _ rfl ?_)
    (conv => whnf)
    first | refine called_pure (.v (.bool true)) rfl (fun w' => reads_any _ w') ?_ | refine calledQ_pure (.v (.bool true)) rfl (fun _ w' => reads_any _ w') ?_
    repeat' ((conv => whnf); first | refine walk (Tryd.ok ..) ?_ | (refine Cnd.mk (fun h => ?_) (fun h => ?_) <;> (first | exact cndT h (by (try dsimp only); omega) | exact cndF h (by (try dsimp only); omega) | (exfalso; simp at h; omega) | simp at h | skip)) | refine kp ?_ ?_ | refine tw ?_ ?_ | refine appnil rfl ?_ | refine rawnil rfl ?_ | exact trivial | refine side2 ?_ | (with_reducible refine Or.inr (Cnd.mk (fun _ => ?_) (fun h => absurd (of_decide_eq_false h) (by omega)))) | (with_reducible refine Or.inr (Cnd.mk (fun _ => ?_) (fun h => absurd h (by simp)))) | refine sideL2 ?_ | refine Or.inr ?_ | refine sat_drawH (Tryd.ok ..) (by kernel_rfl) ?_ | refine xi _ (And.intro rfl rfl) ?_ | refine xi _ (fun _ => And.intro rfl rfl) ?_ | refine xi _ rfl ?_)
    (conv => whnf)
    first | refine called_pure (.v (.bool true)) rfl (fun w' => reads_any _ w') ?_ | refine calledQ_pure (.v (.bool true)) rfl (fun _ w' => reads_any _ w') ?_
    repeat' ((conv => whnf); first | refine walk (Tryd.ok ..) ?_ | (refine Cnd.mk (fun h => ?_) (fun h => ?_) <;> (first | exact cndT h (by (try dsimp only); omega) | exact cndF h (by (try dsimp only); omega) | (exfalso; simp at h; omega) | simp at h | skip)) | refine kp ?_ ?_ | refine tw ?_ ?_ | refine appnil rfl ?_ | refine rawnil rfl ?_ | exact trivial | refine side2 ?_ | (with_reducible refine Or.inr (Cnd.mk (fun _ => ?_) (fun h => absurd (of_decide_eq_false h) (by omega)))) | (with_reducible refine Or.inr (Cnd.mk (fun _ => ?_) (fun h => absurd h (by simp)))) | refine sideL2 ?_ | refine Or.inr ?_ | refine sat_drawH (Tryd.ok ..) (by kernel_rfl) ?_ | refine xi _ (And.intro rfl rfl) ?_ | refine xi _ (fun _ => And.intro rfl rfl) ?_ | refine xi _ rfl ?_)
    (conv => whnf)
    intro g169 hg169
    repeat' ((conv => whnf); first | refine walk (Tryd.ok ..) ?_ | (refine Cnd.mk (fun h => ?_) (fun h => ?_) <;> (first | exact cndT h (by (try dsimp only); omega) | exact cndF h (by (try dsimp only); omega) | (exfalso; simp at h; omega) | simp at h | skip)) | refine kp ?_ ?_ | refine tw ?_ ?_ | refine appnil rfl ?_ | refine rawnil rfl ?_ | exact trivial | refine side2 ?_ | (with_reducible refine Or.inr (Cnd.mk (fun _ => ?_) (fun h => absurd (of_decide_eq_false h) (by omega)))) | (with_reducible refine Or.inr (Cnd.mk (fun _ => ?_) (fun h => absurd h (by simp)))) | refine sideL2 ?_ | refine Or.inr ?_ | refine sat_drawH (Tryd.ok ..) (by kernel_rfl) ?_ | refine xi _ (And.intro rfl rfl) ?_ | refine xi _ (fun _ => And.intro rfl rfl) ?_ | refine xi _ rfl ?_)
    (conv => whnf)
    intro g170 hg170
    repeat' ((conv => whnf); first | refine walk (Tryd.ok ..) ?_ | (refine Cnd.mk (fun h => ?_) (fun h => ?_) <;> (first | exact cndT h (by (try dsimp only); omega) | exact cndF h (by (try dsimp only); omega) | (exfalso; simp at h; omega) | simp at h | skip)) | refine kp ?_ ?_ | refine tw ?_ ?_ | refine appnil rfl ?_ | refine rawnil rfl ?_ | exact trivial | refine side2 ?_ | (with_reducible refine Or.inr (Cnd.mk (fun _ => ?_) (fun h => absurd (of_decide_eq_false h) (by omega)))) | (with_reducible refine Or.inr (Cnd.mk (fun _ => ?_) (fun h => absurd h (by simp)))) | refine sideL2 ?_ | refine Or.inr ?_ | refine sat_drawH (Tryd.ok ..) (by kernel_rfl) ?_ | refine xi _ (And.intro rfl rfl) ?_ | refine xi _ (fun _ => And.intro rfl rfl) ?_ | refine xi _ rfl ?_)
    (conv => whnf)
    intro g171 hg171
    repeat' ((conv => whnf); first | refine walk (Tryd.ok ..) ?_ | (refine Cnd.mk (fun h => ?_) (fun h => ?_) <;> (first | exact cndT h (by (try dsimp only); omega) | exact cndF h (by (try dsimp only); omega) | (exfalso; simp at h; omega) | simp at h | skip)) | refine kp ?_ ?_ | refine tw ?_ ?_ | refine appnil rfl ?_ | refine rawnil rfl ?_ | exact trivial | refine side2 ?_ | (with_reducible refine Or.inr (Cnd.mk (fun _ => ?_) (fun h => absurd (of_decide_eq_false h) (by omega)))) | (with_reducible refine Or.inr (Cnd.mk (fun _ => ?_) (fun h => absurd h (by simp)))) | refine sideL2 ?_ | refine Or.inr ?_ | refine sat_drawH (Tryd.ok ..) (by kernel_rfl) ?_ | refine xi _ (And.intro rfl rfl) ?_ | refine xi _ (fun _ => And.intro rfl rfl) ?_ | refine xi _ rfl ?_)
    (conv => whnf)
    refine called_at (.v (.bool true)) rfl (fun w' hh => by
      have h169 := blk_nest Text hh 169 [r7] [.string r7] rfl rfl (by show 1 ≤ _; unfold maxLen; omega) rfl ⟨rfl, trivial⟩
      have h170 := blk_nest NE hh 170 [[r7]] [.slice (some ⟨g169, 0, none⟩) 1 1] rfl rfl (by show 1 ≤ _; unfold maxLen; omega) rfl ⟨h169, trivial⟩
      have h171 := blk_nest NS hh 171 [[[r7]]] [.slice (some ⟨g170, 0, none⟩) 1 1] rfl rfl (by show 1 ≤ _; unfold maxLen; omega) rfl ⟨h170, trivial⟩
      exact writes_at h171 (few_of (by show 1 ≤ _; omega) (by simp))) ?_
    repeat' ((conv => whnf); first | refine walk (Tryd.ok ..) ?_ | (refine Cnd.mk (fun h => ?_) (fun h => ?_) <;> (first | exact cndT h (by (try dsimp only); omega) | exact cndF h (by (try dsimp only); omega) | (exfalso; simp at h; omega) | simp at h | skip)) | refine kp ?_ ?_ | refine tw ?_ ?_ | refine appnil rfl ?_ | refine rawnil rfl ?_ | exact trivial | refine side2 ?_ | (with_reducible refine Or.inr (Cnd.mk (fun _ => ?_) (fun h => absurd (of_decide_eq_false h) (by omega)))) | (with_reducible refine Or.inr (Cnd.mk (fun _ => ?_) (fun h => absurd h (by simp)))) | refine sideL2 ?_ | refine Or.inr ?_ | refine sat_drawH (Tryd.ok ..) (by kernel_rfl) ?_ | refine xi _ (And.intro rfl rfl) ?_ | refine xi _ (fun _ => And.intro rfl rfl) ?_ | refine xi _ rfl ?_)
    (conv => whnf)
    intro g176 hg176
    repeat' ((conv => whnf); first | refine walk (Tryd.ok ..) ?_ | (refine Cnd.mk (fun h => ?_) (fun h => ?_) <;> (first | exact cndT h (by (try dsimp only); omega) | exact cndF h (by (try dsimp only); omega) | (exfalso; simp at h; omega) | simp at h | skip)) | refine kp ?_ ?_ | refine tw ?_ ?_ | refine appnil rfl ?_ | refine rawnil rfl ?_ | exact trivial | refine side2 ?_ | (with_reducible refine Or.inr (Cnd.mk (fun _ => ?_) (fun h => absurd (of_decide_eq_false h) (by omega)))) | (with_reducible refine Or.inr (Cnd.mk (fun _ => ?_) (fun h => absurd h (by simp)))) | refine sideL2 ?_ | refine Or.inr ?_ | refine sat_drawH (Tryd.ok ..) (by kernel_rfl) ?_ | refine xi _ (And.intro rfl rfl) ?_ | refine xi _ (fun _ => And.intro rfl rfl) ?_ | refine xi _ rfl ?_)
    (conv => whnf)
    intro g179 hg179
    repeat' ((conv => whnf); first | refine walk (Tryd.ok ..) ?_ | (refine Cnd.mk (fun h => ?_) (fun h => ?_) <;> (first | exact cndT h (by (try dsimp only); omega) | exact cndF h (by (try dsimp only); omega) | (exfalso; simp at h; omega) | simp at h | skip)) | refine kp ?_ ?_ | refine tw ?_ ?_ | refine appnil rfl ?_ | refine rawnil rfl ?_ | exact trivial | refine side2 ?_ | (with_reducible refine Or.inr (Cnd.mk (fun _ => ?_) (fun h => absurd (of_decide_eq_false h) (by omega)))) | (with_reducible refine Or.inr (Cnd.mk (fun _ => ?_) (fun h => absurd h (by simp)))) | refine sideL2 ?_ | refine Or.inr ?_ | refine sat_drawH (Tryd.ok ..) (by kernel_rfl) ?_ | refine xi _ (And.intro rfl rfl) ?_ | refine xi _ (fun _ => And.intro rfl rfl) ?_ | refine xi _ rfl ?_)
    (conv => whnf)
    intro g180 hg180
    repeat' ((conv => whnf); first | refine walk (Tryd.ok ..) ?_ | (refine Cnd.mk (fun h => ?_) (fun h => ?_) <;> (first | exact cndT h (by (try dsimp only); omega) | exact cndF h (by (try dsimp only); omega) | (exfalso; simp at h; omega) | simp at h | skip)) | refine kp ?_ ?_ | refine tw ?_ ?_ | refine appnil rfl ?_ | refine rawnil rfl ?_ | exact trivial | refine side2 ?_ | (with_reducible refine Or.inr (Cnd.mk (fun _ => ?_) (fun h => absurd (of_decide_eq_false h) (by omega)))) | (with_reducible refine Or.inr (Cnd.mk (fun _ => ?_) (fun h => absurd h (by simp)))) | refine sideL2 ?_ | refine Or.inr ?_ | refine sat_drawH (Tryd.ok ..) (by kernel_rfl) ?_ | refine xi _ (And.intro rfl rfl) ?_ | refine xi _ (fun _ => And.intro rfl rfl) ?_ | refine xi _ rfl ?_)
    (conv => whnf)
    intro g181 hg181
    repeat' ((conv => whnf); first | refine walk (Tryd.ok ..) ?_ | (refine Cnd.mk (fun h => ?_) (fun h => ?_) <;> (first | exact cndT h (by (try dsimp only); omega) | exact cndF h (by (try dsimp only); omega) | (exfalso; simp at h; omega) | simp at h | skip)) | refine kp ?_ ?_ | refine tw ?_ ?_ | refine appnil rfl ?_ | refine rawnil rfl ?_ | exact trivial | refine side2 ?_ | (with_reducible refine Or.inr (Cnd.mk (fun _ => ?_) (fun h => absurd (of_decide_eq_false h) (by omega)))) | (with_reducible refine Or.inr (Cnd.mk (fun _ => ?_) (fun h => absurd h (by simp)))) | refine sideL2 ?_ | refine Or.inr ?_ | refine sat_drawH (Tryd.ok ..) (by kernel_rfl) ?_ | refine xi _ (And.intro rfl rfl) ?_ | refine xi _ (fun _ => And.intro rfl rfl) ?_ | refine xi _ rfl ?_)
    (conv => whnf)
    refine called_at (.v (.bool true)) rfl (fun w' hh => by
      have h176 := blk_nest Text hh 176 [⟨#[65]⟩] [.string ⟨#[65]⟩] rfl rfl (by show 1 ≤ _; unfold maxLen; omega) rfl ⟨rfl, trivial⟩
      have h179 := blk_nest Text hh 179 [r7, r7] [.string r7, .string r7] rfl rfl (by show 2 ≤ _; unfold maxLen; omega) rfl ⟨rfl, rfl, trivial⟩
      have h180 := blk_nest NE hh 180 [[⟨#[65]⟩], [r7, r7]] [.slice (some ⟨g176, 0, none⟩) 1 1, .slice (some ⟨g179, 0, none⟩) 2 2] rfl rfl (by show 2 ≤ _; unfold maxLen; omega) rfl ⟨h176, h179, trivial⟩
      have h181 := blk_nest NS hh 181 [[[⟨#[65]⟩], [r7, r7]]] [.slice (some ⟨g180, 0, none⟩) 2 2] rfl rfl (by show 1 ≤ _; unfold maxLen; omega) rfl ⟨h180, trivial⟩
      exact writes_at h181 (few_of (by show 1 ≤ _; omega) (by simp))) ?_
    repeat' ((conv => whnf); first | refine walk (Tryd.ok ..) ?_ | (refine Cnd.mk (fun h => ?_) (fun h => ?_) <;> (first | exact cndT h (by (try dsimp only); omega) | exact cndF h (by (try dsimp only); omega) | (exfalso; simp at h; omega) | simp at h | skip)) | refine kp ?_ ?_ | refine tw ?_ ?_ | refine appnil rfl ?_ | refine rawnil rfl ?_ | exact trivial | refine side2 ?_ | (with_reducible refine Or.inr (Cnd.mk (fun _ => ?_) (fun h => absurd (of_decide_eq_false h) (by omega)))) | (with_reducible refine Or.inr (Cnd.mk (fun _ => ?_) (fun h => absurd h (by simp)))) | refine sideL2 ?_ | refine Or.inr ?_ | refine sat_drawH (Tryd.ok ..) (by kernel_rfl) ?_ | refine xi _ (And.intro rfl rfl) ?_ | refine xi _ (fun _ => And.intro rfl rfl) ?_ | refine xi _ rfl ?_)
    refine ⟨n + 1, ⟨⟨by omega, hn⟩, by omega⟩, ?_, ?_, rfl⟩
    all_goals ((repeat' (first | exact trivial | exact rfl | refine And.intro ?_ ?_)) <;> (try (conv => whnf)) <;> (try simp only [SV.real, SV.r2, SV.r1]))
  obtain rfl : n = 103 := by omega
  repeat' ((conv => whnf); first | refine walk (Tryd.ok ..) ?_ | (refine Cnd.mk (fun h => ?_) (fun h => ?_) <;> (first | exact cndT h (by (try dsimp only); omega) | exact cndF h (by (try dsimp only); omega) | (exfalso; simp at h; omega) | simp at h | skip)) | refine kp ?_ ?_ | refine tw ?_ ?_ | refine appnil rfl ?_ | refine rawnil rfl ?_ | exact trivial | refine side2 ?_ | refine sideL2 ?_ | refine Or.inr ?_ | refine sat_drawH (Tryd.ok ..) (by kernel_rfl) ?_ | refine xi _ (And.intro rfl rfl) ?_ | refine xi _ (fun _ => And.intro rfl rfl) ?_ | refine xi _ rfl ?_)
  exact done_pure rfl rfl rfl
end Go.Proofs.YtdejcgmaphmjbaaDoor
