/-
  The walks of the reference's reader: cut, component.
-/
import Derived.Test.YtdejcgmaphmjbaaDoorV7
set_option linter.unusedSimpArgs false
set_option linter.unusedVariables false
namespace Go.Proofs.YtdejcgmaphmjbaaDoor
open Go Sat Go.RowKit Go.PlainAid
theorem cutQ_nil (c : UInt8) (n i : Nat) : cutQ c n [] i = [] := by unfold cutQ; rfl
theorem compQ_nil (n i : Nat) (out : List UInt8) (f : Flt) : compQ n [] i out f = (out, f) := by unfold compQ; rfl
theorem cutQ_step {T : List UInt8} {b c : UInt8} {k te : Nat} (h : T[k]? = some c) (hk : k < te) (h63 : c ≠ 63) : cutQ b (te - k) (T.drop k) k = if c = b then (k + 1) :: cutQ b (te - (k + 1)) (T.drop (k + 1)) (k + 1) else cutQ b (te - (k + 1)) (T.drop (k + 1)) (k + 1) := by
  rw [drop_at h, show te - k = 1 + (te - (k + 1)) from by omega, cutQ_b b h63]
theorem cutQ_skip {T : List UInt8} {b : UInt8} {k te : Nat} (h : T[k]? = some 63) (hk : k < te) : cutQ b (te - k) (T.drop k) k = cutQ b (te - (k + 2)) (T.drop (k + 2)) (k + 2) := by
  rw [drop_at h]
  by_cases hl : k + 1 < T.length
  · rw [List.drop_eq_getElem_cons hl]
    conv => lhs; unfold cutQ
    rw [if_neg (by omega), if_pos rfl]
    show cutQ b (te - k - 2) (T.drop (k + 1 + 1)) (k + 2) = _
    rw [Nat.sub_sub]
  · rw [List.drop_eq_nil_of_le (show T.length ≤ k + 1 by omega), List.drop_eq_nil_of_le (show T.length ≤ k + 2 by omega), cutQ_nil]
    conv => lhs; unfold cutQ
    rw [if_neg (by omega), if_pos rfl]
theorem cutQ_len (b : UInt8) : ∀ (n : Nat) (l : List UInt8), l.length ≤ n → ∀ (m i : Nat), (cutQ b m l i).length ≤ l.length
  | 0, l, h, m, i => by
    obtain rfl : l = [] := List.eq_nil_of_length_eq_zero (by omega)
    rw [cutQ_nil]
    exact Nat.le_refl _
  | n + 1, [], h, m, i => by rw [cutQ_nil]; exact Nat.le_refl _
  | n + 1, c :: l, h, m, i => by
    rw [List.length_cons] at h
    unfold cutQ
    split
    · simp
    split
    · cases l with
      | nil => simp
      | cons d l' =>
        have := cutQ_len b n l' (by rw [List.length_cons] at h; omega) (m - 2) (i + 2)
        simp only [List.length_cons]
        omega
    split
    · have := cutQ_len b n l (by omega) (m - 1) (i + 1)
      simp only [List.length_cons]
      omega
    · have := cutQ_len b n l (by omega) (m - 1) (i + 1)
      simp only [List.length_cons]
      omega
def iv (l : List Nat) : List Value := l.map fun n : Nat => Value.int .i64 (n : Int)
theorem iv_len (l : List Nat) : (iv l).length = l.length := by unfold iv; rw [List.length_map]
theorem iv_snoc (l : List Nat) (n : Nat) : iv (l ++ [n]) = iv l ++ [.int .i64 (n : Int)] := by unfold iv; rw [List.map_append]; rfl
theorem u8_eq {b c : UInt8} : b = c ↔ (b.toNat : Int) = c.toNat := ⟨fun h => by rw [h], fun h => UInt8.toNat_inj.1 (by omega)⟩
set_option maxRecDepth 100000 in
set_option maxHeartbeats 8000000 in
theorem cut_any (s : ByteArray) (i te : Nat) (b : UInt8) (hto : te ≤ s.size) (hi : i ≤ te) (hs : s.size ≤ 100000) (w : World) :
    Calls Tryd.prog 51 #[.string s, .int .i64 i, .int .i64 te, .int .u8 (b.toNat : Int)] w fun e w' => ∃ v, e = .returned v ∧ w'.ownsRow w.heap.size 3 1 v (i :: cutQ b (te - i) (s.data.toList.drop i) i).length (iv (i :: cutQ b (te - i) (s.data.toList.drop i) i)) ∧ Below w.heap.size w w' := by
  refine calls_sat (cx := Tryd.cx 36 [] [] [] w) (Tryd.ok ..) Tryd.func51 rfl [.v (.string s), .v (.int .i64 i), .v (.int .i64 te), .v (.int .u8 (b.toNat : Int))] rfl (by show 4 ≤ 36; omega) [] (holds_nil (Nat.le_refl _)) ?_
  have hfull := cutQ_len b _ (s.data.toList.drop i) (Nat.le_refl _) (te - i) i
  have hsz : s.size = s.data.toList.length := rfl
  rw [List.length_drop, ← hsz] at hfull
  generalize hR : i :: cutQ b (te - i) (s.data.toList.drop i) i = R
  have hRl : R.length ≤ 100001 := by rw [← hR, List.length_cons]; omega
  repeat' ((conv => whnf); first | refine walk (Tryd.ok ..) ?_ | (refine Cnd.mk (fun h => ?_) (fun h => ?_) <;> (first | exact cndT h (by (try dsimp only); omega) | exact cndF h (by (try dsimp only); omega) | (exfalso; simp at h; omega) | simp at h | skip)) | refine kp ?_ ?_ | refine tw ?_ ?_ | refine appnil rfl ?_ | refine rawnil rfl ?_ | exact trivial | refine side2 ?_ | refine sideL2 ?_ | refine Or.inr ?_ | refine sat_drawH (Tryd.ok ..) (by kernel_rfl) ?_ | refine xi _ (And.intro rfl rfl) ?_ | refine xi _ (fun _ => And.intro rfl rfl) ?_ | refine xi _ rfl ?_ | intro g hg)
  refine sat_own 12 (n := 1) (size := 1) rfl rfl rfl (by decide) ?_
  refine sat_loop (Tryd.ok ..) (α := Nat × List Nat × Option (Nat × Nat) × Nat) (fun t => ([(0, .yes, .v (.string s)), (2, .yes, .v (.int .i64 te)), (3, .yes, .v (.int .u8 (b.toNat : Int))), (9, .yes, .o 12 t.2.2.1 t.2.1.length t.2.2.2), (10, .yes, .v (.int .i64 t.1))], [(12, .row t.2.2.1 3 1 t.2.1.length t.2.2.2 (iv t.2.1))]))
    (fun t => t.1 ≤ te + 1 ∧ t.2.1 ++ cutQ b (te - t.1) (s.data.toList.drop t.1) t.1 = R) (fun t => te + 1 - t.1) (fun _ => rfl) ?_ ?_
  · refine ⟨(i, [i], some (g, 0), 1), ⟨by omega, hR⟩, ?_, ?_, rfl⟩
    all_goals ((repeat' (first | exact trivial | exact rfl | refine And.intro ?_ ?_)) <;> (try (conv => whnf)) <;> (try simp only [SV.real, SV.r2, SV.r1]))
  rintro ⟨k, L, A, cap⟩ ⟨hk, hL⟩
  dsimp only at hk hL ⊢
  have hLl : L.length ≤ 100001 := by
    have := congrArg List.length hL
    rw [List.length_append] at this
    omega
  by_cases hk1 : k < te
  case neg =>
    rw [show te - k = 0 from by omega, cutQ_zero, List.append_nil] at hL
    subst hL
    repeat' ((conv => whnf); first | refine walk (Tryd.ok ..) ?_ | (refine Cnd.mk (fun h => ?_) (fun h => ?_) <;> (first | exact cndT h (by (try dsimp only); omega) | exact cndF h (by (try dsimp only); omega) | (exfalso; simp at h; omega) | simp at h | skip)) | refine kp ?_ ?_ | refine tw ?_ ?_ | refine appnil rfl ?_ | refine rawnil rfl ?_ | exact trivial | refine side2 ?_ | refine sideL2 ?_ | refine Or.inr ?_ | refine sat_drawH (Tryd.ok ..) (by kernel_rfl) ?_ | refine xi _ (And.intro rfl rfl) ?_ | refine xi _ (fun _ => And.intro rfl rfl) ?_ | refine xi _ rfl ?_)
    exact done_row2 (mk := id) rfl rfl 12 A cap rfl rfl rfl rfl
  obtain ⟨c, hc⟩ : ∃ c, s.data.toList[k]? = some c := ⟨_, List.getElem?_eq_getElem (by omega)⟩
  have hbt : bt s (k : Int).toNat = (c.toNat : Int) := bt_at hc
  have hbt2 : bt s k = (c.toNat : Int) := bt_at hc
  by_cases h63 : c = 63
  · have hn : (c.toNat : Int) = 63 := by rw [h63]; rfl
    rw [cutQ_skip (by rw [← h63]; exact hc) hk1] at hL
    by_cases hk2 : k + 1 < te
    · repeat' ((conv => whnf); first | refine walk (Tryd.ok ..) ?_ | (refine Cnd.mk (fun h => ?_) (fun h => ?_) <;> (first | exact cndT h (by (try dsimp only); omega) | exact cndF h (by (try dsimp only); omega) | (exfalso; simp at h; omega) | simp at h | skip)) | refine kp ?_ ?_ | refine tw ?_ ?_ | refine appnil rfl ?_ | refine rawnil rfl ?_ | exact trivial | refine side2 ?_ | refine sideL2 ?_ | refine Or.inr ?_ | refine sat_drawH (Tryd.ok ..) (by kernel_rfl) ?_ | refine xi _ (And.intro rfl rfl) ?_ | refine xi _ (fun _ => And.intro rfl rfl) ?_ | refine xi _ rfl ?_)
      refine ⟨(k + 2, L, A, cap), ⟨⟨by omega, hL⟩, by omega⟩, ?_, ?_, rfl⟩
      all_goals ((repeat' (first | exact trivial | exact rfl | refine And.intro ?_ ?_)) <;> (try (conv => whnf)) <;> (try simp only [SV.real, SV.r2, SV.r1]))
    · repeat' ((conv => whnf); first | refine walk (Tryd.ok ..) ?_ | (refine Cnd.mk (fun h => ?_) (fun h => ?_) <;> (first | exact cndT h (by (try dsimp only); omega) | exact cndF h (by (try dsimp only); omega) | (exfalso; simp at h; omega) | simp at h | skip)) | refine kp ?_ ?_ | refine tw ?_ ?_ | refine appnil rfl ?_ | refine rawnil rfl ?_ | exact trivial | refine side2 ?_ | refine sideL2 ?_ | refine Or.inr ?_ | refine sat_drawH (Tryd.ok ..) (by kernel_rfl) ?_ | refine xi _ (And.intro rfl rfl) ?_ | refine xi _ (fun _ => And.intro rfl rfl) ?_ | refine xi _ rfl ?_)
      refine ⟨(k + 2, L, A, cap), ⟨⟨by omega, hL⟩, by omega⟩, ?_, ?_, rfl⟩
      all_goals ((repeat' (first | exact trivial | exact rfl | refine And.intro ?_ ?_)) <;> (try (conv => whnf)) <;> (try simp only [SV.real, SV.r2, SV.r1]))
  have hn63 : (c.toNat : Int) ≠ 63 := fun e => h63 (UInt8.toNat_inj.1 (by rw [show (63 : UInt8).toNat = 63 from rfl]; omega))
  rw [cutQ_step hc hk1 h63] at hL
  by_cases hcb : c = b
  · have hn : (c.toNat : Int) = b.toNat := u8_eq.1 hcb
    rw [if_pos hcb] at hL
    repeat' ((conv => whnf); first | refine walk (Tryd.ok ..) ?_ | (refine Cnd.mk (fun h => ?_) (fun h => ?_) <;> (first | exact cndT h (by (try dsimp only); omega) | exact cndF h (by (try dsimp only); omega) | (exfalso; simp at h; omega) | simp at h | skip)) | refine kp ?_ ?_ | refine tw ?_ ?_ | refine appnil rfl ?_ | refine rawnil rfl ?_ | exact trivial | refine side2 ?_ | refine sideL2 ?_ | refine Or.inr ?_ | refine sat_drawH (Tryd.ok ..) (by kernel_rfl) ?_ | refine xi _ (And.intro rfl rfl) ?_ | refine xi _ (fun _ => And.intro rfl rfl) ?_ | refine xi _ rfl ?_)
    (conv => whnf)
    intro g2 hg2
    repeat' ((conv => whnf); first | refine walk (Tryd.ok ..) ?_ | (refine Cnd.mk (fun h => ?_) (fun h => ?_) <;> (first | exact cndT h (by (try dsimp only); omega) | exact cndF h (by (try dsimp only); omega) | (exfalso; simp at h; omega) | simp at h | skip)) | refine kp ?_ ?_ | refine tw ?_ ?_ | refine appnil rfl ?_ | refine rawnil rfl ?_ | exact trivial | refine side2 ?_ | refine sideL2 ?_ | refine Or.inr ?_ | refine sat_drawH (Tryd.ok ..) (by kernel_rfl) ?_ | refine xi _ (And.intro rfl rfl) ?_ | refine xi _ (fun _ => And.intro rfl rfl) ?_ | refine xi _ rfl ?_)
    (conv => whnf)
    intro A2 cap2
    repeat' ((conv => whnf); first | refine walk (Tryd.ok ..) ?_ | (refine Cnd.mk (fun h => ?_) (fun h => ?_) <;> (first | exact cndT h (by (try dsimp only); omega) | exact cndF h (by (try dsimp only); omega) | (exfalso; simp at h; omega) | simp at h | skip)) | refine kp ?_ ?_ | refine tw ?_ ?_ | refine appnil rfl ?_ | refine rawnil rfl ?_ | exact trivial | refine side2 ?_ | refine sideL2 ?_ | refine Or.inr ?_ | refine sat_drawH (Tryd.ok ..) (by kernel_rfl) ?_ | refine xi _ (And.intro rfl rfl) ?_ | refine xi _ (fun _ => And.intro rfl rfl) ?_ | refine xi _ rfl ?_)
    refine ⟨(k + 1, L ++ [k + 1], A2, cap2), ⟨⟨by omega, by rw [List.append_assoc]; exact hL⟩, by omega⟩, ?_, ?_, rfl⟩
    all_goals ((repeat' (first | exact trivial | exact rfl | refine And.intro ?_ ?_)) <;> (try (conv => whnf)) <;> (try simp only [SV.real, SV.r2, SV.r1]))
    · exact congrArg (fun n => Value.slice (adr A2) n cap2) (by rw [List.length_append]; rfl)
    · rw [List.length_append]
      rfl
    · rw [iv_snoc]
      rfl
  · have hn : (c.toNat : Int) ≠ b.toNat := fun e => hcb (u8_eq.2 e)
    rw [if_neg hcb] at hL
    repeat' ((conv => whnf); first | refine walk (Tryd.ok ..) ?_ | (refine Cnd.mk (fun h => ?_) (fun h => ?_) <;> (first | exact cndT h (by (try dsimp only); omega) | exact cndF h (by (try dsimp only); omega) | (exfalso; simp at h; omega) | simp at h | skip)) | refine kp ?_ ?_ | refine tw ?_ ?_ | refine appnil rfl ?_ | refine rawnil rfl ?_ | exact trivial | refine side2 ?_ | refine sideL2 ?_ | refine Or.inr ?_ | refine sat_drawH (Tryd.ok ..) (by kernel_rfl) ?_ | refine xi _ (And.intro rfl rfl) ?_ | refine xi _ (fun _ => And.intro rfl rfl) ?_ | refine xi _ rfl ?_)
    refine ⟨(k + 1, L, A, cap), ⟨⟨by omega, hL⟩, by omega⟩, ?_, ?_, rfl⟩
    all_goals ((repeat' (first | exact trivial | exact rfl | refine And.intro ?_ ?_)) <;> (try (conv => whnf)) <;> (try simp only [SV.real, SV.r2, SV.r1]))
theorem compQ_stop {T : List UInt8} {k te : Nat} (h : te ≤ k) (out : List UInt8) (f : Flt) : compQ (te - k) (T.drop k) k out f = (out, f) := by
  rw [show te - k = 0 from by omega, compQ_zero]
theorem compQ_step {T : List UInt8} {c : UInt8} {k te : Nat} (h : T[k]? = some c) (hk : k < te) (h63 : c ≠ 63) (out : List UInt8) (f : Flt) : compQ (te - k) (T.drop k) k out f = compQ (te - (k + 1)) (T.drop (k + 1)) (k + 1) (out ++ [c]) (if out.length = 100 then worseF (if badB c = true then worseF f ⟨k, 2, 40⟩ else f) ⟨k, 4, 3⟩ else (if badB c = true then worseF f ⟨k, 2, 40⟩ else f)) := by
  rw [drop_at h, show te - k = 1 + (te - (k + 1)) from by omega, compQ_b h63]
theorem compQ_esc {T : List UInt8} {d : UInt8} {k te : Nat} (h : T[k]? = some 63) (hd : T[k + 1]? = some d) (hk : k < te) (out : List UInt8) (f : Flt) : compQ (te - k) (T.drop k) k out f = if ¬ (svc (d.toNat : Int) ∨ d = 32) then compQ (te - (k + 2)) (T.drop (k + 2)) (k + 2) out (worseF f ⟨k, 3, 41⟩) else compQ (te - (k + 2)) (T.drop (k + 2)) (k + 2) (out ++ [d]) (if out.length = 100 then worseF f ⟨k, 4, 3⟩ else f) := by
  rw [drop_at h, drop_at hd]
  conv => lhs; unfold compQ
  rw [if_neg (by omega), if_pos rfl]
  show (if ¬ (svc (d.toNat : Int) ∨ d = 32) then compQ (te - k - 2) (T.drop (k + 1 + 1)) (k + 2) out (worseF f ⟨k, 3, 41⟩) else compQ (te - k - 2) (T.drop (k + 1 + 1)) (k + 2) (out ++ [d]) (if out.length = 100 then worseF f ⟨k, 4, 3⟩ else f)) = _
  rw [Nat.sub_sub]
theorem compQ_last {T : List UInt8} {k te : Nat} (h : T[k]? = some 63) (hl : T.length ≤ k + 1) (hk : k < te) (out : List UInt8) (f : Flt) : compQ (te - k) (T.drop k) k out f = (out, worseF f ⟨k, 3, 41⟩) := by
  rw [drop_at h, List.drop_eq_nil_of_le hl, show te - k = (te - k - 1) + 1 from by omega, compQ_w]
theorem ub_snoc (l : List UInt8) (c : UInt8) : uB (l ++ [c]) = uB l ++ [.int .u8 (c.toNat : Int)] := by unfold uB; rw [List.map_append]; rfl
end Go.Proofs.YtdejcgmaphmjbaaDoor
