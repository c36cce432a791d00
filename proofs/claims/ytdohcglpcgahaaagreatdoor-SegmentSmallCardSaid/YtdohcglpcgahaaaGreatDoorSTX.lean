/-
  Data without what is empty at the ends. No program in sight. The walk of Trim.
-/
import Derived.Test.YtdohcglpcgahaaaGreatDoorSB
import Derived.Test.YtdohcglpcgahaaaGreatDoorRX
import Derived.Lib.Builder
set_option linter.unusedSimpArgs false
set_option linter.unusedVariables false
namespace Go.Proofs.YtdohcglpcgahaaaGreatDoor
section
open Go Sat Go.RowKit Go.PlainAid
abbrev Dat := List (List ByteArray)
def emp : ByteArray := ⟨#[]⟩
/-- how many components are left -/
def cutN (e : Elem) : Nat → Nat
  | 0 => 0
  | 1 => 1
  | n + 2 => if e[n + 1]? = some emp then cutN e (n + 1) else n + 2
def trimE (e : Elem) : Elem := if e = [] then [emp] else e.take (cutN e e.length)
def cutM (l : Dat) : Nat → Nat
  | 0 => 0
  | n + 1 => if l[n]? = some [emp] then cutM l n else n + 1
def trimS (l : Dat) : Dat := (l.map trimE).take (cutM (l.map trimE) l.length)
theorem cutN_le (e : Elem) : ∀ n, cutN e n ≤ n
  | 0 => Nat.le_refl _
  | 1 => Nat.le_refl _
  | n + 2 => by
    unfold cutN
    split
    · exact Nat.le_succ_of_le (cutN_le e (n + 1))
    · exact Nat.le_refl _
theorem cutN_pos (e : Elem) : ∀ n, 0 < n → 0 < cutN e n
  | 0, h => by omega
  | 1, _ => by simp [cutN]
  | n + 2, _ => by
    unfold cutN
    split
    · exact cutN_pos e (n + 1) (by omega)
    · omega
theorem cutM_le (l : Dat) : ∀ n, cutM l n ≤ n
  | 0 => Nat.le_refl _
  | n + 1 => by
    unfold cutM
    split
    · exact Nat.le_succ_of_le (cutM_le l n)
    · exact Nat.le_refl _
def Each {α β : Type} (P : α → β → Prop) : List α → List β → Prop
  | [], [] => True
  | x :: xs, a :: l => P x a ∧ Each P xs l
  | _, _ => False
theorem Each.at_ {α β : Type} {P : α → β → Prop} : ∀ {xs : List α} {l : List β}, Each P xs l → xs.length = l.length ∧ ∀ (i : Nat) (x : α) (a : β), xs[i]? = some x → l[i]? = some a → P x a
  | [], [], _ => ⟨rfl, fun i x a h => by simp at h⟩
  | x :: xs, a :: l, h => by
    obtain ⟨h1, h2⟩ := h
    have ih := Each.at_ h2
    refine ⟨by simp [ih.1], fun i y b hy hb => ?_⟩
    cases i with
    | zero => simp at hy hb; subst hy hb; exact h1
    | succ i => simp at hy hb; exact ih.2 i y b hy hb
  | [], _ :: _, h => h.elim
  | _ :: _, [], h => h.elim
/-- a literal list in a block of one's own -/
theorem blk_nest {α : Type} (R : Lies α) {cx : Cx} {H : Heap} {w : World} (hw : Holds cx H w) (id : Nat) {g T : Nat} {cs : List SV} (l : List α) (xs : List Value) (hf : hfind H id = some (.blk g T cs)) (hxs : cs.map SV.r1 = xs) (hm : l.length ≤ maxLen) {n : Nat} (hn : n = l.length) (hx : Each (fun x a => R w (fun _ => True) x a) xs l) : Nest R w (fun _ => True) (.slice (some ⟨g, 0, none⟩) n n) l := by
  subst hn hxs
  have hb : (HB.blk g T cs).holds cx w := hw.at_ hf
  refine ⟨some (g, 0), l.length, cs.map SV.r1, rfl, ⟨Nat.le_refl _, hm⟩, ⟨by rw [hx.at_.1, Nat.mul_one], fun _ => ⟨(g, 0), rfl, heap_lt hb.2, fun j u hu => ?_⟩⟩, fun p hp _ => ⟨trivial, by cases hp; exact ⟨_, _, hb.2⟩⟩, hx.at_.2⟩
  rw [Lib.cell_of_heap hb.2]
  simpa using hu
theorem blk_ownN {α : Type} (R : Lies α) {cx : Cx} {H : Heap} {w : World} (L : List Nat) (id : Nat) {g T : Nat} {cs : List SV} (l : List α) (xs : List Value) (hw : Holds cx H w) (hf : hfind H id = some (.blk g T cs)) (hi : memN L id = true) (hxs : cs.map SV.r1 = xs) (hm : l.length ≤ maxLen) {n : Nat} (hn : n = l.length) (hx : Each (fun x a => R w (fun g => g ∈ gsOf H L) x a) xs l) : Nest R w (fun g => g ∈ gsOf H L) (.slice (some ⟨g, 0, none⟩) n n) l := by
  subst hn hxs
  have hb : (HB.blk g T cs).holds cx w := hw.at_ hf
  refine ⟨some (g, 0), l.length, cs.map SV.r1, rfl, ⟨Nat.le_refl _, hm⟩, ⟨by rw [hx.at_.1, Nat.mul_one], fun _ => ⟨(g, 0), rfl, heap_lt hb.2, fun j u hu => ?_⟩⟩, fun p hp _ => ⟨gs_sub hi hf (by cases hp; exact List.mem_singleton_self _), by cases hp; exact ⟨_, _, hb.2⟩⟩, hx.at_.2⟩
  rw [Lib.cell_of_heap hb.2]
  simpa using hu
theorem nest_cut {α : Type} {R : Lies α} {w : World} {B : Nat → Prop} {a : Option Addr} {n cap : Nat} {l : List α} (h : Nest R w B (.slice a n cap) l) {k : Nat} (hk : k ≤ n) : Nest R w B (.slice a k cap) (l.take k) := by
  obtain ⟨A, cap', xs, hv, hc, hro, hB, hx⟩ := h
  injection hv with h1 h2 h3
  subst h1 h2 h3
  refine ⟨A, cap, xs.take k, by rw [List.length_take, Nat.min_eq_left hk], by rw [List.length_take]; omega, ⟨by rw [List.length_take, List.length_take, hro.1]; omega, fun h0 => ?_⟩, fun p hp h0 => ?_, fun i x b hi hb => ?_⟩
  · rw [List.length_take] at h0
    obtain ⟨p, hp, hl, hc2⟩ := hro.2 (by omega)
    refine ⟨p, hp, hl, fun j u hu => hc2 j u ?_⟩
    rw [List.getElem?_take] at hu
    split at hu
    · exact hu
    · cases hu
  · rw [List.length_take] at h0
    exact hB p hp (by omega)
  · rw [List.getElem?_take] at hi hb
    split at hi
    · rename_i hik
      rw [if_pos hik] at hb
      exact hx i x b hi hb
    · cases hi
end
section
open Go Sat Go.RowKit Go.PlainAid
/-- bounds for data -/
structure FewS (l : Dat) : Prop where
  top : l.length * 24 ≤ 140737488355328
  el : ∀ e ∈ l, e.length * 16 ≤ 140737488355328
theorem ro_take {w : World} {A : Option (Nat × Nat)} {n : Nat} {xs : List Value} (h : Ro w A n 1 xs) {k : Nat} (hk : k ≤ n) : Ro w A k 1 (xs.take k) := by
  refine ⟨by rw [List.length_take, h.1]; omega, fun h0 => ?_⟩
  obtain ⟨p, hp, hl, hc⟩ := h.2 (by omega)
  refine ⟨p, hp, hl, fun j u hu => hc j u ?_⟩
  rw [List.getElem?_take] at hu
  split at hu
  · exact hu
  · cases hu
theorem slice_from0 (p : Nat × Nat) (n : Int) (m c sz : Nat) (hn : n = m) : Value.slice (if c = Int.toNat 0 then adr (some p) else (adr (some p)).map (fun x => x.add (Int.toNat 0 * sz))) (n.toNat - Int.toNat 0) (c - Int.toNat 0) = .slice (adr (some p)) m c := by
  subst hn
  have e : (adr (some p)).map (fun x => x.add (Int.toNat 0 * sz)) = adr (some p) := by simp [adr, add_mk]
  rw [e]
  simp
set_option maxRecDepth 100000 in
set_option maxHeartbeats 8000000 in
theorem trim_any (l : Dat) (v : Value) (w : World) (hA : NSA w (fun _ => True) v l) (hf : FewS l) :
    Calls Tryz.prog 21 #[v] w (Gives id (fun w B v => NS w B v (trimS l)) w) := by
  obtain ⟨A', A, cA, xs, rfl, aA, hcA, hrA, -, hxA⟩ := hA
  refine calls_sat (cx := Tryz.cx 60 [2, 11] [] [] w) (Tryz.ok ..) Tryz.func21 rfl [.v (.slice A' l.length cA)] rfl (by show 1 ≤ 60; omega) [] (holds_nil (Nat.le_refl _)) ?_
  have htop := hf.top
  have hmax : l.length ≤ 9223372036854775807 := Nat.le_trans (Nat.le_trans hcA.1 hcA.2) (by decide)
  repeat' ((conv => whnf); first | refine walk (Tryz.ok ..) ?_ | fail)
  refine sat_fuse 77 [] rfl fun w0 hw0 => ?_
  refine sat_ops (Tryz.ok ..) ?_
  repeat' ((conv => whnf); first | refine walk (Tryz.ok ..) ?_ | fail)
  refine sat_loop (Tryz.ok ..) (α := Nat × Option (Nat × Nat) × Nat × List Value × World × List Nat) (fun s => ([(3, .yes, .o 70 s.2.1 s.1 s.2.2.1), (7, .yes, .v (.slice A' l.length cA)), (8, .yes, .v (.int .i64 l.length)), (9, .yes, .v (.int .i64 s.1))], [(70, .row s.2.1 22 1 s.1 s.2.2.1 s.2.2.2.1), (77, .own s.2.2.2.2.2 (Frz s.2.2.2.2.1 s.2.2.2.2.2))]))
    (fun s => s.1 ≤ l.length ∧ s.2.2.2.1.length = s.1 ∧ Got NE s.2.2.2.2.1 s.2.2.2.2.2 s.2.2.2.1 (l.map trimE)) (fun s => l.length - s.1) (fun _ => rfl) ?_ ?_
  · refine ⟨(0, none, 0, [], w0, []), ⟨Nat.zero_le _, rfl, Got.nil⟩, ?_, ?_, rfl⟩
    all_goals ((repeat' (first | exact trivial | exact rfl | refine And.intro ?_ ?_)) <;> (try (conv => whnf)) <;> (try simp only [SV.real, SV.r2, SV.r1]))
  rintro ⟨k, A3, cap3, xs3, w1, gs⟩ ⟨hk, hl3, hx3⟩
  dsimp only at hk hl3 hx3 ⊢
  by_cases hk1 : k < l.length
  · obtain ⟨e, he⟩ : ∃ e, l[k]? = some e := ⟨_, List.getElem?_eq_getElem hk1⟩
    have hek : (l.map trimE)[k]? = some (trimE e) := by rw [List.getElem?_map, he]; rfl
    obtain ⟨x, hx, hne⟩ := nest_at hxA hrA.1 he
    obtain ⟨A2', A2, cA2, rfl, aA2, hcA2, hrA2, -⟩ := nea_row hne
    obtain ⟨p, rfl, rfl⟩ := some_of aA hrA (by omega)
    have hel := hf.el e (List.mem_of_getElem? he)
    have hmax2 : e.length ≤ 9223372036854775807 := Nat.le_trans (Nat.le_trans hcA2.1 hcA2.2) (by decide)
    repeat' ((conv => whnf); first | refine walk (Tryz.ok ..) ?_ | (refine Cnd.mk (fun h => ?_) (fun h => ?_) <;> (first | exact cndT h (by (try dsimp only); omega) | exact cndF h (by (try dsimp only); omega) | (exfalso; simp at h; omega) | simp at h | skip)) | refine side2 ?_ | refine xi _ (ro_at rfl rfl hrA hx rfl) ?_ | fail)
    refine sat_loop (Tryz.ok ..) (α := Nat) (fun n => ([(3, .yes, .o 70 A3 k cap3), (5, .yes, .v (.slice A2' e.length cA2)), (6, .yes, .v (.int .i64 n)), (7, .yes, .v (.slice (adr (some p)) l.length cA)), (8, .yes, .v (.int .i64 l.length)), (9, .yes, .v (.int .i64 k))], [(70, .row A3 22 1 k cap3 xs3), (77, .own gs (Frz w1 gs))]))
      (fun n => n ≤ e.length ∧ cutN e n = cutN e e.length) (fun n => n) (fun _ => rfl) ?_ ?_
    · refine ⟨e.length, ⟨Nat.le_refl _, rfl⟩, ?_, ?_, rfl⟩
      all_goals ((repeat' (first | exact trivial | exact rfl | refine And.intro ?_ ?_)) <;> (try (conv => whnf)) <;> (try simp only [SV.real, SV.r2, SV.r1]))
    rintro n ⟨hn, hc⟩
    dsimp only at hn hc ⊢
    by_cases hn1 : 1 < n
    · obtain ⟨m, rfl⟩ : ∃ m, n = m + 2 := ⟨n - 2, by omega⟩
      obtain ⟨s, hs⟩ : ∃ s, e[m + 1]? = some s := ⟨_, List.getElem?_eq_getElem (by omega)⟩
      obtain ⟨p2, rfl, rfl⟩ := some_of aA2 hrA2 (by omega)
      repeat' ((conv => whnf); first | refine walk (Tryz.ok ..) ?_ | (refine Cnd.mk (fun h => ?_) (fun h => ?_) <;> (first | exact cndT h (by (try dsimp only); omega) | exact cndF h (by (try dsimp only); omega) | (exfalso; simp at h; omega) | simp at h | skip)) | refine side2 ?_ | refine sideL2 ?_ | refine Or.inr ?_ | refine xi _ (fun _ => (ro_at rfl rfl hrA2 (str_cell hs) (by omega))) ?_ | fail)
      · refine ⟨m + 1, ⟨⟨by omega, ?_⟩, by omega⟩, ?_, ?_, rfl⟩
        · rw [← hc, cutN, if_pos (by rw [hs, h.2]; rfl)]
        all_goals ((repeat' (first | exact trivial | exact rfl | refine And.intro ?_ ?_)) <;> (try (conv => whnf)) <;> (try simp only [SV.real, SV.r2, SV.r1]))
        all_goals exact congrArg (Value.int IntKind.i64) (by omega)
      · have hse : ¬ e[m + 1]? = some emp := fun h0 => by
          rw [hs] at h0
          injection h0 with h0
          exact ‹1 < ((m : Int) + 2) → ¬ s = _› (by omega) h0
        have hte : trimE e = e.take (m + 2) := by
          unfold trimE
          rw [if_neg (fun h0 => by rw [h0] at hn; simp at hn), ← hc]
          rw [cutN, if_neg hse]
        have hlt : (e.take (m + 2)).length = m + 2 := by rw [List.length_take]; omega
        skip
        (conv => whnf)
        refine called_lay [.v (.slice (adr (some p2)) (m + 2) cA2)] _ (congrArg (fun v => [v]) (slice_from0 p2 _ (m + 2) cA2 1 (by omega))) (fun _ h => h) ?_
        refine called_nest 78 (mk := id) (Q := fun w B v => NE w B v (e.take (m + 2))) (fun v => .v v) (fun _ => rfl) (fun w' hh => ?_) ?_
        · have hro := (ro_take hrA2 hn).mono (below_of rfl rfl hh) (Nat.le_refl _)
          rw [← List.map_take] at hro
          have h := clone_any (e.take (m + 2)) p2 cA2 w' (by omega) (by omega) (by rw [hlt]; exact hro)
          rw [hlt] at h
          exact h
        intro w4 gs4 v4 h4
        obtain ⟨a4, n4, c4, hv4⟩ : ∃ a n c, v4 = .slice a n c := by
          obtain ⟨A4, c4, x4, hv, -⟩ := h4
          exact ⟨_, _, _, hv⟩
        subst hv4
        skip
        (conv => whnf)
        intro g38 hg38
        repeat' ((conv => whnf); first | refine side2 ?_ | refine Or.inr ?_ | fail)
        (conv => whnf)
        intro A39 cap39
        repeat' ((conv => whnf); first | refine walk (Tryz.ok ..) ?_ | fail)
        refine sat_fuse 77 [77, 78] rfl fun w5 hw5 => ?_
        have hx3' := (hx3.fuse ne_stays [77, 78] 77 hw5 rfl rfl).snoc (by rw [hl3]; exact hek) (hte ▸ frz_fuse ne_stays [77, 78] 78 h4 hw5 rfl rfl)
        refine sat_ops (Tryz.ok ..) ?_
        repeat' ((conv => whnf); first | refine sideL2 ?_ | fail)
        refine ⟨(k + 1, A39, cap39, _, w5, _), ⟨⟨hk1, by rw [List.length_append, hl3]; rfl, hx3'⟩, by show l.length - (k + 1) < l.length - k; omega⟩, ?_, ?_, rfl⟩
        all_goals ((repeat' (first | exact trivial | exact rfl | refine And.intro ?_ ?_)) <;> (try (conv => whnf)) <;> (try simp only [SV.real, SV.r2, SV.r1]))
    obtain rfl | rfl : n = 0 ∨ n = 1 := by omega
    · have hte : trimE e = [emp] := by
        unfold trimE
        rw [if_pos]
        rcases Nat.eq_zero_or_pos e.length with h0 | h0
        · exact List.eq_nil_of_length_eq_zero h0
        · have := cutN_pos e e.length h0
          rw [← hc] at this
          simp [cutN] at this
      repeat' ((conv => whnf); first | refine walk (Tryz.ok ..) ?_ | refine side2 ?_ | refine sideL2 ?_ | fail)
      refine ⟨.string emp, fun h => absurd (of_decide_eq_true h) (by omega), ?_⟩
      repeat' ((conv => whnf); first | refine walk (Tryz.ok ..) ?_ | (refine Cnd.mk (fun h => ?_) (fun h => ?_) <;> (first | exact cndT h (by (try dsimp only); omega) | exact cndF h (by (try dsimp only); omega) | (exfalso; simp at h; omega) | simp at h | skip)) | refine side2 ?_ | fail)
      (conv => whnf)
      intro g30 hg30
      skip
      (conv => whnf)
      intro g31 hg31
      repeat' ((conv => whnf); first | refine side2 ?_ | refine Or.inr ?_ | fail)
      (conv => whnf)
      intro A32 cap32
      repeat' ((conv => whnf); first | refine walk (Tryz.ok ..) ?_ | fail)
      refine sat_fuse 77 [77, 30] rfl fun w5 hw5 => ?_
      have h30 : NE w5 (fun g => g ∈ gsOf _ [77, 30]) (.slice (some ⟨g30, 0, none⟩) 1 1) [emp] := blk_ownN Text [77, 30] 30 (g := g30) [emp] [.string emp] hw5 rfl rfl rfl (by unfold maxLen; simp) rfl ⟨rfl, trivial⟩
      have hx3' := (hx3.fuse ne_stays [77, 30] 77 hw5 rfl rfl).snoc (by rw [hl3]; exact hek) (hte ▸ h30)
      refine sat_ops (Tryz.ok ..) ?_
      repeat' ((conv => whnf); first | refine sideL2 ?_ | fail)
      refine ⟨(k + 1, A32, cap32, _, w5, _), ⟨⟨hk1, by rw [List.length_append, hl3]; rfl, hx3'⟩, by show l.length - (k + 1) < l.length - k; omega⟩, ?_, ?_, rfl⟩
      all_goals ((repeat' (first | exact trivial | exact rfl | refine And.intro ?_ ?_)) <;> (try (conv => whnf)) <;> (try simp only [SV.real, SV.r2, SV.r1]))
    · repeat' ((conv => whnf); first | refine walk (Tryz.ok ..) ?_ | refine side2 ?_ | refine sideL2 ?_ | fail)
      refine ⟨.string emp, fun h => absurd (of_decide_eq_true h) (by omega), ?_⟩
      obtain ⟨p2, rfl, rfl⟩ := some_of aA2 hrA2 (by omega)
      have hte : trimE e = e.take (1) := by
        unfold trimE
        rw [if_neg (fun h0 => by rw [h0] at hn; simp at hn), ← hc]
        rfl
      have hlt : (e.take (1)).length = 1 := by rw [List.length_take]; omega
      repeat' ((conv => whnf); first | refine walk (Tryz.ok ..) ?_ | (refine Cnd.mk (fun h => ?_) (fun h => ?_) <;> (first | exact cndT h (by (try dsimp only); omega) | exact cndF h (by (try dsimp only); omega) | (exfalso; simp at h; omega) | simp at h | skip)) | refine side2 ?_ | refine Or.inr ?_ | fail)
      (conv => whnf)
      refine called_lay [.v (.slice (adr (some p2)) (1) cA2)] _ (congrArg (fun v => [v]) (slice_from0 p2 _ (1) cA2 1 (by omega))) (fun _ h => h) ?_
      refine called_nest 78 (mk := id) (Q := fun w B v => NE w B v (e.take (1))) (fun v => .v v) (fun _ => rfl) (fun w' hh => ?_) ?_
      · have hro := (ro_take hrA2 hn).mono (below_of rfl rfl hh) (Nat.le_refl _)
        rw [← List.map_take] at hro
        have h := clone_any (e.take (1)) p2 cA2 w' (by omega) (by omega) (by rw [hlt]; exact hro)
        rw [hlt] at h
        exact h
      intro w4 gs4 v4 h4
      obtain ⟨a4, n4, c4, hv4⟩ : ∃ a n c, v4 = .slice a n c := by
        obtain ⟨A4, c4, x4, hv, -⟩ := h4
        exact ⟨_, _, _, hv⟩
      subst hv4
      skip
      (conv => whnf)
      intro g38 hg38
      repeat' ((conv => whnf); first | refine side2 ?_ | refine Or.inr ?_ | fail)
      (conv => whnf)
      intro A39 cap39
      repeat' ((conv => whnf); first | refine walk (Tryz.ok ..) ?_ | fail)
      refine sat_fuse 77 [77, 78] rfl fun w5 hw5 => ?_
      have hx3' := (hx3.fuse ne_stays [77, 78] 77 hw5 rfl rfl).snoc (by rw [hl3]; exact hek) (hte ▸ frz_fuse ne_stays [77, 78] 78 h4 hw5 rfl rfl)
      refine sat_ops (Tryz.ok ..) ?_
      repeat' ((conv => whnf); first | refine sideL2 ?_ | fail)
      refine ⟨(k + 1, A39, cap39, _, w5, _), ⟨⟨hk1, by rw [List.length_append, hl3]; rfl, hx3'⟩, by show l.length - (k + 1) < l.length - k; omega⟩, ?_, ?_, rfl⟩
      all_goals ((repeat' (first | exact trivial | exact rfl | refine And.intro ?_ ?_)) <;> (try (conv => whnf)) <;> (try simp only [SV.real, SV.r2, SV.r1]))
  obtain rfl : k = l.length := by omega
  repeat' ((conv => whnf); first | refine walk (Tryz.ok ..) ?_ | (refine Cnd.mk (fun h => ?_) (fun h => ?_) <;> (first | exact cndT h (by (try dsimp only); omega) | exact cndF h (by (try dsimp only); omega) | (exfalso; simp at h; omega) | simp at h | skip)) | fail)
  refine sat_row 70 rfl fun hcap3 _ => ?_
  refine sat_loop (Tryz.ok ..) (α := Nat) (fun n => ([(3, .yes, .o 70 A3 n cap3)], [(70, .row A3 22 1 l.length cap3 xs3), (77, .own gs (Frz w1 gs))]))
    (fun n => n ≤ l.length ∧ cutM (l.map trimE) n = cutM (l.map trimE) l.length) (fun n => n) (fun _ => rfl) ?_ ?_
  · refine ⟨l.length, ⟨Nat.le_refl _, rfl⟩, ?_, ?_, rfl⟩
    all_goals ((repeat' (first | exact trivial | exact rfl | refine And.intro ?_ ?_)) <;> (try (conv => whnf)) <;> (try simp only [SV.real, SV.r2, SV.r1]))
  rintro n ⟨hn, hc⟩
  dsimp only at hn hc ⊢
  by_cases hn0 : 0 < n
  · have hb : (0 : Int) < (n : Int) := by omega
    obtain ⟨y, hy⟩ : ∃ y, (l.map trimE)[n - 1]? = some y := ⟨_, List.getElem?_eq_getElem (by rw [List.length_map]; omega)⟩
    obtain ⟨x, hx⟩ : ∃ x, xs3[n - 1]? = some x := ⟨_, List.getElem?_eq_getElem (by omega)⟩
    have hxn : xs3[mulS ((n : Int) - 1).toNat 1]? = some x := by
      rw [mulS_eq, Nat.mul_one, ← hx]
      congr 1
      omega
    have hne := hx3.at_ _ _ _ hx hy
    repeat' ((conv => whnf); first | refine walk (Tryz.ok ..) ?_ | (refine Cnd.mk (fun h => ?_) (fun h => ?_) <;> (first | exact cndT h (by (try dsimp only); omega) | exact cndF h (by (try dsimp only); omega) | (exfalso; simp at h; omega) | simp at h | skip)) | refine side2 ?_ | refine sideL2 ?_ | refine Or.inr ?_ | refine xi _ (fun _ => hxn) ?_ | fail)
    · (conv => whnf)
      intro g51 hg51
      repeat' ((conv => whnf); first | refine side2 ?_ | (with_reducible refine Or.inr (Cnd.mk (fun _ => ?_) (fun h => absurd (of_decide_eq_false h) (by omega)))) | fail)
      (conv => whnf)
      refine called_at (.v (.bool (decide (y = [emp])))) rfl (fun w' hh => by
        have h1 := frz_nest ne_stays hne (d := 77) rfl hh
        have h2 := blk_nest Text hh 51 (g := g51) [emp] [.string emp] rfl (by kernel_rfl) (by unfold maxLen; simp) rfl ⟨rfl, trivial⟩
        exact equal_any y [emp] x _ w' (ne_arg h1) (ne_arg h2)) ?_
      repeat' ((conv => whnf); first | refine walk (Tryz.ok ..) ?_ | (refine Cnd.mk (fun h => ?_) (fun h => ?_) <;> (first | exact cndT h (by (try dsimp only); omega) | exact cndF h (by (try dsimp only); omega) | (exfalso; simp at h; omega) | simp at h | skip)) | refine side2 ?_ | refine sideL2 ?_ | fail)
      · refine ⟨n - 1, ⟨⟨by omega, ?_⟩, by omega⟩, ?_, ?_, rfl⟩
        · rw [← hc]
          obtain ⟨m, rfl⟩ : ∃ m, n = m + 1 := ⟨n - 1, by omega⟩
          rw [cutM, if_pos (by rw [← h.2]; exact hy)]
          rfl
        all_goals ((repeat' (first | exact trivial | exact rfl | refine And.intro ?_ ?_)) <;> (try (conv => whnf)) <;> (try simp only [SV.real, SV.r2, SV.r1]))
        all_goals exact congrArg (fun n => Value.slice (adr A3) n cap3) (by omega)
      · have hS : trimS l = (l.map trimE).take n := by
          unfold trimS
          rw [← hc]
          congr 1
          obtain ⟨m, rfl⟩ : ∃ m, n = m + 1 := ⟨n - 1, by omega⟩
          rw [cutM, if_neg]
          intro h0
          refine h hn0 ?_
          rw [show m + 1 - 1 = m from rfl, h0] at hy
          exact (Option.some.inj hy).symm
        refine done_fuse (v := .slice (adr A3) n cap3) rfl rfl [70, 77] (fun w hw => ?_) rfl
        rw [hS]
        exact nest_cut (nest_fuseN [70, 77] 70 (by rw [List.length_map]) hw rfl rfl (hx3.fuse ne_stays [70, 77] 77 hw rfl rfl)) hn
    all_goals omega
  · obtain rfl : n = 0 := by omega
    repeat' ((conv => whnf); first | refine walk (Tryz.ok ..) ?_ | refine side2 ?_ | refine sideL2 ?_ | fail)
    (conv => whnf)
    refine ⟨.slice none 0 0, fun h => absurd (of_decide_eq_true h) (by simp), ?_⟩
    repeat' ((conv => whnf); first | (refine Cnd.mk (fun h => ?_) (fun h => ?_) <;> (first | exact cndT h (by (try dsimp only); omega) | exact cndF h (by (try dsimp only); omega) | (exfalso; simp at h; omega) | simp at h | skip)) | refine sideL2 ?_ | refine Or.inr ?_ | fail)
    (conv => whnf)
    refine calledQ_at (.v (.bool false)) rfl (fun h _ _ => absurd (of_decide_eq_true h) (by simp)) ?_
    repeat' ((conv => whnf); first | refine walk (Tryz.ok ..) ?_ | (refine Cnd.mk (fun h => ?_) (fun h => ?_) <;> (first | exact cndT h (by (try dsimp only); omega) | exact cndF h (by (try dsimp only); omega) | (exfalso; simp at h; omega) | simp at h | skip)) | refine side2 ?_ | fail)
    have hS : trimS l = (l.map trimE).take 0 := by
      unfold trimS
      rw [← hc]
      rfl
    refine done_fuse (v := .slice (adr A3) 0 cap3) rfl rfl [70, 77] (fun w hw => ?_) rfl
    rw [hS]
    exact nest_cut (nest_fuseN [70, 77] 70 (by rw [List.length_map]) hw rfl rfl (hx3.fuse ne_stays [70, 77] 77 hw rfl rfl)) (Nat.zero_le _)
end
end Go.Proofs.YtdohcglpcgahaaaGreatDoor
