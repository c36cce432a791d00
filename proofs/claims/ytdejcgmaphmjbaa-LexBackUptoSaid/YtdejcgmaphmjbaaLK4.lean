/-
  The law LexBack, walked.
-/
import Derived.Test.YtdejcgmaphmjbaaB1
import Derived.Test.YtdejcgmaphmjbaaB2
import Derived.Test.YtdejcgmaphmjbaaLB
set_option linter.unusedSimpArgs false
set_option linter.unusedVariables false
namespace Go.Proofs.Ytdejcgmaphmjbaa
open Go Sat Go.RowKit Go.PlainAid
theorem flat_len_le {α : Type} {f : α → List UInt8} {l : List α} {x : α} (h : x ∈ l) : (f x).length ≤ (l.flatMap f).length := by
  induction l with
  | nil => cases h
  | cons y l ih =>
    rw [List.flatMap_cons, List.length_append]
    rcases List.mem_cons.1 h with rfl | h
    · omega
    · have := ih h
      omega
theorem right_yes {a : Segm} (h : rightS a = true) {va : Value} {w : World} (hA : NS w (fun _ => True) va a) : Calls Try.prog 14 #[va] w fun e w' => e = .returned (.bool true) ∧ Below w.heap.size w w' := by
  have := right_any a va w hA
  rw [h] at this
  exact this
theorem ba_app (a b : List UInt8) : ba (a ++ b) = ba a ++ ba b := ba_ext (by rw [ByteArray.data_append, Array.toList_append]; rfl)
theorem gap_rep (b : UInt8) : True := trivial
theorem gap_one (b : UInt8) : ((⟨#[10, 13, 32]⟩ : ByteArray).extract ((b.toNat : Int) % 3).toNat ((b.toNat : Int) % 3 + 1).toNat).data.toList = [if b.toNat % 3 = 0 then 10 else if b.toNat % 3 = 1 then 13 else 32] := by
  have h : b.toNat % 3 = 0 ∨ b.toNat % 3 = 1 ∨ b.toNat % 3 = 2 := by omega
  have e1 : ((b.toNat : Int) % 3).toNat = b.toNat % 3 := by omega
  have e2 : ((b.toNat : Int) % 3 + 1).toNat = b.toNat % 3 + 1 := by omega
  rw [e1, e2]
  rcases h with h | h | h
  · rw [h]; rfl
  · rw [h]; rfl
  · rw [h]; rfl
theorem rep_one (c : UInt8) : ∀ n, Lib.repeatL [c] n = List.replicate n c
  | 0 => rfl
  | n + 1 => by
    rw [List.replicate_succ, ← rep_one c n]
    rfl
set_option maxRecDepth 100000 in
theorem gap_any (b : UInt8) (w : World) : Calls Try.prog 19 #[.string ((⟨#[10, 13, 32]⟩ : ByteArray).extract ((b.toNat : Int) % 3).toNat ((b.toNat : Int) % 3 + 1).toNat), .int .i64 ((b.toNat : Int) / 3)] w fun e w' => e = .returned (.string (ba (gapL b))) ∧ Below w.heap.size w w' := by
  have hb := UInt8.toNat_lt b
  have h1 := gap_one b
  have hsz : ((⟨#[10, 13, 32]⟩ : ByteArray).extract ((b.toNat : Int) % 3).toNat ((b.toNat : Int) % 3 + 1).toNat).size = 1 := by rw [size_len, h1]; rfl
  have h := Try.strings_Repeat ((⟨#[10, 13, 32]⟩ : ByteArray).extract ((b.toNat : Int) % 3).toNat ((b.toNat : Int) % 3 + 1).toNat) (b.toNat / 3) w (by omega) (by rw [hsz]; omega)
  rw [h1, rep_one, show ((b.toNat / 3 : Nat) : Int) = (b.toNat : Int) / 3 by omega] at h
  exact h
theorem nest_sub {α : Type} {R : Lies α} (hR : Stays R) {cx : Cx} {d : Nat} {w0 : World} {gs : List Nat} {p : Nat × Nat} {n c i : Nat} {xs : List Value} {x : Value} {a : α} (hro : Ro w0 (some p) n 1 xs) (h1 : n ≤ c) (h2 : c ≤ maxLen) (hB : ∀ q, some p = some q → 0 < n → q.1 ∈ gs ∧ Cells0 w0 q.1) (hx : xs[i]? = some x) (ha : R w0 (fun g => g ∈ gs) x a) {H : Heap} (hf : hfind H d = some (.own gs (Frz w0 gs))) {w : World} (hw : Holds cx H w) : Nest R w (fun _ => True) (.slice (adr (some (p.1, p.2 + i))) 1 (c - i)) [a] := by
  have hi : i < xs.length := (List.getElem?_eq_some_iff.1 hx).1
  rw [hro.1] at hi
  obtain ⟨q, hq, hl, hc⟩ := hro.2 (by omega)
  cases hq
  obtain ⟨hg, cur, ty, hcell⟩ := hB p rfl (by omega)
  have hsame := frz_of hf hw p.1 hg
  refine ⟨some (p.1, p.2 + i), c - i, [x], rfl, ⟨by show 1 ≤ c - i; omega, by omega⟩, ⟨rfl, fun _ => ⟨_, rfl, by have := heap_lt (hsame.trans hcell); exact this, fun j u hu => ?_⟩⟩, fun q hq _ => ⟨trivial, by cases hq; exact ⟨cur, ty, hsame.trans hcell⟩⟩, fun j y b hy hb => ?_⟩
  · cases j with
    | zero =>
      cases hu
      rw [← hc i x hx]
      exact World.cell?_of_block hsame
    | succ j => cases hu
  · cases j with
    | zero =>
      cases hy
      cases hb
      exact frz_nest hR ha hf hw
    | succ j => cases hy
set_option maxRecDepth 100000 in
set_option maxHeartbeats 32000000 in
theorem lexBack_any (l : List Segm) (va : Value) (bs : List UInt8) (B : Option (Nat × Nat)) (cB : Nat) (w : World) (hA : NLA w (fun _ => True) va l) (hf : FewL l) (hsum : ∀ s ∈ l, mS s ≤ 1000000000000) (hB : Ro w B bs.length 1 (uB bs)) (hBl : bs.length ≤ 9223372036854775807) :
    Calls Try.prog 8 #[va, .slice (adr B) bs.length cB] w fun e w' => e = .returned (.bool true) ∧ Below w.heap.size w w' := by
  refine calls_sat (cx := Try.cx 129 [] [] [] w) (Try.ok ..) Try.func8 rfl [.v va, .v (.slice (adr B) bs.length cB)] rfl (by show 2 ≤ 129; omega) [] (holds_nil (Nat.le_refl _)) ?_
  repeat' ((conv => whnf); first | refine walk (Try.ok ..) ?_ | (refine Cnd.mk (fun h => ?_) (fun h => ?_) <;> (first | exact cndT h (by (try dsimp only); omega) | exact cndF h (by (try dsimp only); omega) | (exfalso; simp at h; omega) | simp at h | skip)) | refine kp ?_ ?_ | refine tw ?_ ?_ | refine appnil rfl ?_ | refine rawnil rfl ?_ | exact trivial | refine side2 ?_ | refine sideL2 ?_ | refine Or.inr ?_ | refine sat_drawH (Try.ok ..) (by kernel_rfl) ?_ | refine xi _ (And.intro rfl rfl) ?_ | refine xi _ (fun _ => And.intro rfl rfl) ?_ | refine xi _ rfl ?_)
  (conv => whnf)
  refine called_pure (.v (.bool true)) rfl (fun w' => awake_any w') ?_
  repeat' ((conv => whnf); first | refine walk (Try.ok ..) ?_ | (refine Cnd.mk (fun h => ?_) (fun h => ?_) <;> (first | exact cndT h (by (try dsimp only); omega) | exact cndF h (by (try dsimp only); omega) | (exfalso; simp at h; omega) | simp at h | skip)) | refine kp ?_ ?_ | refine tw ?_ ?_ | refine appnil rfl ?_ | refine rawnil rfl ?_ | exact trivial | refine side2 ?_ | refine sideL2 ?_ | refine Or.inr ?_ | refine sat_drawH (Try.ok ..) (by kernel_rfl) ?_ | refine xi _ (And.intro rfl rfl) ?_ | refine xi _ (fun _ => And.intro rfl rfl) ?_ | refine xi _ rfl ?_)
  (conv => whnf)
  refine called_some (SmallSays l) (fun b => .v (.bool b)) (fun w' hh => by exact small_says l va w' (nla_stays _ _ _ _ _ _ hA (fun g _ hg => (below_of rfl rfl hh).block g hg) (fun _ h => h)) hsum) ?_
  intro b hb
  cases b
  · repeat' ((conv => whnf); first | refine walk (Try.ok ..) ?_ | (refine Cnd.mk (fun h => ?_) (fun h => ?_) <;> (first | exact cndT h (by (try dsimp only); omega) | exact cndF h (by (try dsimp only); omega) | (exfalso; simp at h; omega) | simp at h | skip)) | refine kp ?_ ?_ | refine tw ?_ ?_ | refine appnil rfl ?_ | refine rawnil rfl ?_ | exact trivial | refine side2 ?_ | refine sideL2 ?_ | refine Or.inr ?_ | refine sat_drawH (Try.ok ..) (by kernel_rfl) ?_ | refine xi _ (And.intro rfl rfl) ?_ | refine xi _ (fun _ => And.intro rfl rfl) ?_ | refine xi _ rfl ?_)
    all_goals exact done_pure rfl rfl rfl
  obtain ⟨hl40, h700⟩ := hb rfl
  by_cases h300 : 300 < bs.length
  · repeat' ((conv => whnf); first | refine walk (Try.ok ..) ?_ | (refine Cnd.mk (fun h => ?_) (fun h => ?_) <;> (first | exact cndT h (by (try dsimp only); omega) | exact cndF h (by (try dsimp only); omega) | (exfalso; simp at h; omega) | simp at h | skip)) | refine kp ?_ ?_ | refine tw ?_ ?_ | refine appnil rfl ?_ | refine rawnil rfl ?_ | exact trivial | refine side2 ?_ | refine sideL2 ?_ | refine Or.inr ?_ | refine sat_drawH (Try.ok ..) (by kernel_rfl) ?_ | refine xi _ (And.intro rfl rfl) ?_ | refine xi _ (fun _ => And.intro rfl rfl) ?_ | refine xi _ rfl ?_)
    all_goals exact done_pure rfl rfl rfl
  obtain ⟨L, hL⟩ : ∃ L, L = l.map madeS := ⟨_, rfl⟩
  have hLl : L.length ≤ 40 := by rw [hL, List.length_map]; exact hl40
  have hLr : L.all rightS = true := by rw [hL]; exact all_made l
  have hLw : (L.flatMap wS).length ≤ 65536 := by
    have h1 := written_len l h700
    rw [← hL] at h1
    have h2 : l.length * 1402 ≤ 40 * 1402 := Nat.mul_le_mul_right _ hl40
    omega
  have hwl := writeL_eq (by omega) hLr hLw
  have hback : readE (ba (L.flatMap wS)).data.toList = (L, 0, 0) := (readE_short (by show (L.flatMap wS).length ≤ _; omega)).trans (back (by omega) hLr)
  repeat' ((conv => whnf); first | refine walk (Try.ok ..) ?_ | (refine Cnd.mk (fun h => ?_) (fun h => ?_) <;> (first | exact cndT h (by (try dsimp only); omega) | exact cndF h (by (try dsimp only); omega) | (exfalso; simp at h; omega) | simp at h | skip)) | refine kp ?_ ?_ | refine tw ?_ ?_ | refine appnil rfl ?_ | refine rawnil rfl ?_ | exact trivial | refine side2 ?_ | refine sideL2 ?_ | refine Or.inr ?_ | refine sat_drawH (Try.ok ..) (by kernel_rfl) ?_ | refine xi _ (And.intro rfl rfl) ?_ | refine xi _ (fun _ => And.intro rfl rfl) ?_ | refine xi _ rfl ?_)
  (conv => whnf)
  refine called_nest 900 (mk := id) (Q := fun w B v => NL w B v L) (fun v => .v v) (fun _ => rfl) (fun w' hh => by rw [hL]; exact (made_any l va w' (nla_stays _ _ _ _ _ _ hA (fun g _ hg => (below_of rfl rfl hh).block g hg) (fun _ h => h)) hf).mono fun _ _ h => gives_of_R ns_stays h) ?_
  intro w1 gs1 v1 h1
  have h10 := h1
  obtain ⟨A1, c1, xs1, rfl, hc1, hro1, hB1, hx1⟩ := h1
  repeat' ((conv => whnf); first | refine walk (Try.ok ..) ?_ | (refine Cnd.mk (fun h => ?_) (fun h => ?_) <;> (first | exact cndT h (by (try dsimp only); omega) | exact cndF h (by (try dsimp only); omega) | (exfalso; simp at h; omega) | simp at h | skip)) | refine kp ?_ ?_ | refine tw ?_ ?_ | refine appnil rfl ?_ | refine rawnil rfl ?_ | exact trivial | refine side2 ?_ | refine sideL2 ?_ | refine Or.inr ?_ | refine sat_drawH (Try.ok ..) (by kernel_rfl) ?_ | refine xi _ (And.intro rfl rfl) ?_ | refine xi _ (fun _ => And.intro rfl rfl) ?_ | refine xi _ rfl ?_)
  (conv => whnf)
  refine called_at (.t [.v (.string (ba (L.flatMap wS))), .v (.int .i64 0)]) rfl (fun w' hh => by exact write_lit hwl _ w' (frz_any 900 h10 hh rfl)) ?_
  repeat' ((conv => whnf); first | refine walk (Try.ok ..) ?_ | (refine Cnd.mk (fun h => ?_) (fun h => ?_) <;> (first | exact cndT h (by (try dsimp only); omega) | exact cndF h (by (try dsimp only); omega) | (exfalso; simp at h; omega) | simp at h | skip)) | refine kp ?_ ?_ | refine tw ?_ ?_ | refine appnil rfl ?_ | refine rawnil rfl ?_ | exact trivial | refine side2 ?_ | refine sideL2 ?_ | refine Or.inr ?_ | refine sat_drawH (Try.ok ..) (by kernel_rfl) ?_ | refine xi _ (And.intro rfl rfl) ?_ | refine xi _ (fun _ => And.intro rfl rfl) ?_ | refine xi _ rfl ?_)
  (conv => whnf)
  refine called_nest 901 (mk := fun v => .tuple #[v, .int .i64 0, .int .i64 0]) (Q := fun w B v => NL w B v L) (fun v => .t [.v v, .v (.int .i64 0), .v (.int .i64 0)]) (fun _ => rfl) (fun w' _ => by exact read_lit (s := ba (L.flatMap wS)) hback w') ?_
  intro w2 gs2 v2 h2
  repeat' ((conv => whnf); first | refine walk (Try.ok ..) ?_ | (refine Cnd.mk (fun h => ?_) (fun h => ?_) <;> (first | exact cndT h (by (try dsimp only); omega) | exact cndF h (by (try dsimp only); omega) | (exfalso; simp at h; omega) | simp at h | skip)) | refine kp ?_ ?_ | refine tw ?_ ?_ | refine appnil rfl ?_ | refine rawnil rfl ?_ | exact trivial | refine side2 ?_ | refine sideL2 ?_ | refine Or.inr ?_ | refine sat_drawH (Try.ok ..) (by kernel_rfl) ?_ | refine xi _ (And.intro rfl rfl) ?_ | refine xi _ (fun _ => And.intro rfl rfl) ?_ | refine xi _ rfl ?_)
  (conv => whnf)
  refine calledQ_at (.v (.bool (decide (L = L)))) rfl (fun _ w' hh => by exact same_any L L _ _ w' (nl_arg (frz_any 901 h2 hh rfl)) (nl_arg (frz_any 900 h10 hh rfl))) ?_
  rw [decide_eq_true (rfl : L = L)]
  repeat' ((conv => whnf); first | refine walk (Try.ok ..) ?_ | (refine Cnd.mk (fun h => ?_) (fun h => ?_) <;> (first | exact cndT h (by (try dsimp only); omega) | exact cndF h (by (try dsimp only); omega) | (exfalso; simp at h; omega) | simp at h | skip)) | refine kp ?_ ?_ | refine tw ?_ ?_ | refine appnil rfl ?_ | refine rawnil rfl ?_ | exact trivial | refine side2 ?_ | refine sideL2 ?_ | refine Or.inr ?_ | refine sat_drawH (Try.ok ..) (by kernel_rfl) ?_ | refine xi _ (And.intro rfl rfl) ?_ | refine xi _ (fun _ => And.intro rfl rfl) ?_ | refine xi _ rfl ?_)
  refine sat_loop (Try.ok ..) (α := Nat × List UInt8) (fun t => ([(0, .yes, .v (.slice (adr A1) L.length c1)), (1, .yes, .v (.slice (adr B) bs.length cB)), (10, .yes, .v (.string (ba t.2))), (11, .yes, .v (.int .i64 t.1))], [(900, .own gs1 (Frz w1 gs1))]))
    (fun t => t.1 ≤ L.length ∧ Loose L t.1 t.2) (fun t => L.length - t.1) (fun _ => rfl) ?_ ?_
  · refine ⟨(0, []), ⟨Nat.zero_le _, loose0 L⟩, ?_, ?_, rfl⟩
    all_goals ((repeat' (first | exact trivial | exact rfl | refine And.intro ?_ ?_)) <;> (try (conv => whnf)) <;> (try simp only [SV.real, SV.r2, SV.r1]))
  rintro ⟨i, t⟩ ⟨hi, hlo⟩
  dsimp only at hi hlo ⊢
  have hlen := hlo.len
  have hbt : (ba t).size = t.length := rfl
  by_cases hi1 : i < L.length
  case neg =>
    obtain rfl : i = L.length := by omega
    have hend := loose_end hlo
    have hq : (⟨#[32, 10]⟩ : ByteArray).size = 2 := rfl
    have hE : readE (ba t ++ ⟨#[32, 10]⟩).data.toList = (L, 0, 0) ∨ 65536 < (ba t ++ ⟨#[32, 10]⟩).size := by
      rcases Nat.lt_or_ge 65536 (t ++ [32, 10]).length with h9 | h9
      · exact .inr h9
      · exact .inl ((readE_short h9).trans hend)
    repeat' ((conv => whnf); first | refine walk (Try.ok ..) ?_ | (refine Cnd.mk (fun h => ?_) (fun h => ?_) <;> (first | exact cndT h (by (try dsimp only); omega) | exact cndF h (by (try dsimp only); omega) | (exfalso; simp at h; omega) | simp at h | skip)) | refine kp ?_ ?_ | refine tw ?_ ?_ | refine appnil rfl ?_ | refine rawnil rfl ?_ | exact trivial | refine side2 ?_ | refine sideL2 ?_ | refine Or.inr ?_ | refine sat_drawH (Try.ok ..) (by kernel_rfl) ?_ | refine xi _ (And.intro rfl rfl) ?_ | refine xi _ (fun _ => And.intro rfl rfl) ?_ | refine xi _ rfl ?_)
    · exact done_pure rfl rfl rfl
    rcases hE with hE | hE
    case inr =>
      rw [ByteArray.size_append] at hE
      omega
    repeat' ((conv => whnf); first | refine walk (Try.ok ..) ?_ | (refine Cnd.mk (fun h => ?_) (fun h => ?_) <;> (first | exact cndT h (by (try dsimp only); omega) | exact cndF h (by (try dsimp only); omega) | (exfalso; simp at h; omega) | simp at h | skip)) | refine kp ?_ ?_ | refine tw ?_ ?_ | refine appnil rfl ?_ | refine rawnil rfl ?_ | exact trivial | refine side2 ?_ | refine sideL2 ?_ | refine Or.inr ?_ | refine sat_drawH (Try.ok ..) (by kernel_rfl) ?_ | refine xi _ (And.intro rfl rfl) ?_ | refine xi _ (fun _ => And.intro rfl rfl) ?_ | refine xi _ rfl ?_)
    (conv => whnf)
    refine called_nest 902 (mk := fun v => .tuple #[v, .int .i64 0, .int .i64 0]) (Q := fun w B v => NL w B v L) (fun v => .t [.v v, .v (.int .i64 0), .v (.int .i64 0)]) (fun _ => rfl) (fun w' _ => by exact read_lit (s := ba t ++ ⟨#[32, 10]⟩) hE w') ?_
    intro w3 gs3 v3 h3
    repeat' ((conv => whnf); first | refine walk (Try.ok ..) ?_ | (refine Cnd.mk (fun h => ?_) (fun h => ?_) <;> (first | exact cndT h (by (try dsimp only); omega) | exact cndF h (by (try dsimp only); omega) | (exfalso; simp at h; omega) | simp at h | skip)) | refine kp ?_ ?_ | refine tw ?_ ?_ | refine appnil rfl ?_ | refine rawnil rfl ?_ | exact trivial | refine side2 ?_ | refine sideL2 ?_ | refine Or.inr ?_ | refine sat_drawH (Try.ok ..) (by kernel_rfl) ?_ | refine xi _ (And.intro rfl rfl) ?_ | refine xi _ (fun _ => And.intro rfl rfl) ?_ | refine xi _ rfl ?_)
    (conv => whnf)
    refine calledQ_at (.v (.bool (decide (L = L)))) rfl (fun _ w' hh => by exact same_any L L _ _ w' (nl_arg (frz_any 902 h3 hh rfl)) (nl_arg (frz_any 900 h10 hh rfl))) ?_
    rw [decide_eq_true (rfl : L = L)]
    repeat' ((conv => whnf); first | refine walk (Try.ok ..) ?_ | (refine Cnd.mk (fun h => ?_) (fun h => ?_) <;> (first | exact cndT h (by (try dsimp only); omega) | exact cndF h (by (try dsimp only); omega) | (exfalso; simp at h; omega) | simp at h | skip)) | refine kp ?_ ?_ | refine tw ?_ ?_ | refine appnil rfl ?_ | refine rawnil rfl ?_ | exact trivial | refine side2 ?_ | refine sideL2 ?_ | refine Or.inr ?_ | refine sat_drawH (Try.ok ..) (by kernel_rfl) ?_ | refine xi _ (And.intro rfl rfl) ?_ | refine xi _ (fun _ => And.intro rfl rfl) ?_ | refine xi _ rfl ?_)
    exact done_pure rfl rfl (congrArg Value.bool (by simp))
  obtain ⟨s, hs⟩ : ∃ s, L[i]? = some s := ⟨_, List.getElem?_eq_getElem hi1⟩
  obtain ⟨x, hx, hns⟩ := nest_at hx1 hro1.1 hs
  obtain ⟨p, rfl, _⟩ := hro1.some_ (by omega)
  have hsr : rightS s = true := List.all_eq_true.1 hLr s (List.mem_of_getElem? hs)
  have hws : (wS s).length ≤ 65536 := by
    have h9 := flat_len_le (f := wS) (List.mem_of_getElem? hs)
    omega
  have hw1 : writeL [s] = (ba (wS s), 0) := by
    have h9 := writeL_eq (l := [s]) (by show 1 ≤ 5000; omega) (by rw [List.all_cons, hsr]; rfl) (by rw [List.flatMap_cons, List.flatMap_nil, List.append_nil]; exact hws)
    rw [List.flatMap_cons, List.flatMap_nil, List.append_nil] at h9
    exact h9
  have hsw : (ba (wS s)).size = (wS s).length := rfl
  by_cases hib : i < bs.length
  · obtain ⟨b, hb⟩ : ∃ b, bs[i]? = some b := ⟨_, List.getElem?_eq_getElem hib⟩
    have hbu : (uB bs)[i]? = some (.int .u8 (b.toNat : Int)) := by unfold uB; rw [List.getElem?_map, hb]; rfl
    obtain ⟨pB, rfl, _⟩ := hB.some_ (by omega)
    have hbb := UInt8.toNat_lt b
    have hq3 : (⟨#[10, 13, 32]⟩ : ByteArray).size = 3 := rfl
    have hrep := gap_rep b
    repeat' ((conv => whnf); first | refine walk (Try.ok ..) ?_ | (refine Cnd.mk (fun h => ?_) (fun h => ?_) <;> (first | exact cndT h (by (try dsimp only); omega) | exact cndF h (by (try dsimp only); omega) | (exfalso; simp at h; omega) | simp at h | skip)) | refine kp ?_ ?_ | refine tw ?_ ?_ | refine appnil rfl ?_ | refine rawnil rfl ?_ | exact trivial | refine side2 ?_ | refine sideL2 ?_ | refine Or.inr ?_ | refine sat_drawH (Try.ok ..) (by kernel_rfl) ?_ | refine xi _ (And.intro rfl rfl) ?_ | refine xi _ (fun _ => And.intro rfl rfl) ?_ | refine xi _ rfl ?_ | refine xi _ (fun _ => (ro_at rfl rfl hB hbu rfl)) ?_ | refine xi _ (ro_at rfl rfl hB hbu rfl) ?_)
    (conv => whnf)
    refine calledQ_pure (.v (.string (ba (gapL b)))) rfl (fun _ w' => by exact gap_any b w') ?_
    have hgs : (ba (gapL b)).size = (gapL b).length := rfl
    have hgl : (gapL b).length ≤ 100 := by
      unfold gapL
      rw [List.length_replicate]
      omega
    repeat' ((conv => whnf); first | refine walk (Try.ok ..) ?_ | (refine Cnd.mk (fun h => ?_) (fun h => ?_) <;> (first | exact cndT h (by (try dsimp only); omega) | exact cndF h (by (try dsimp only); omega) | (exfalso; simp at h; omega) | simp at h | skip)) | refine kp ?_ ?_ | refine tw ?_ ?_ | refine appnil rfl ?_ | refine rawnil rfl ?_ | exact trivial | refine side2 ?_ | refine sideL2 ?_ | refine Or.inr ?_ | refine sat_drawH (Try.ok ..) (by kernel_rfl) ?_ | refine xi _ (And.intro rfl rfl) ?_ | refine xi _ (fun _ => And.intro rfl rfl) ?_ | refine xi _ rfl ?_)
    (conv => whnf)
    refine called_lay [.v (.slice (adr (some (p.1, p.2 + i))) 1 (c1 - i))] _ (congrArg (fun v => [v]) ?_) (fun w h => h) ?_
    · show Value.slice (if c1 = (i : Int).toNat then adr (some p) else Option.map (fun x => x.add ((i : Int).toNat * 1)) (adr (some p))) (((i : Int) + 1).toNat - (i : Int).toNat) (c1 - (i : Int).toNat) = Value.slice (adr (some (p.1, p.2 + i))) 1 (c1 - i)
      rw [if_neg (by omega), show ((i : Int) + 1).toNat - (i : Int).toNat = 1 by omega, Int.toNat_natCast, Nat.mul_one]
      exact congrArg (fun a => Value.slice a 1 (c1 - i)) (show some ((⟨p.1, p.2, none⟩ : Addr).add i) = some ⟨p.1, p.2 + i, none⟩ by rw [add_mk])
    refine called_at (.t [.v (.string (ba (wS s))), .v (.int .i64 0)]) rfl (fun w' hh => by exact write_lit hw1 _ w' (nest_sub ns_stays hro1 hc1.1 hc1.2 hB1 hx hns (d := 900) rfl hh)) ?_
    repeat' ((conv => whnf); first | refine walk (Try.ok ..) ?_ | (refine Cnd.mk (fun h => ?_) (fun h => ?_) <;> (first | exact cndT h (by (try dsimp only); omega) | exact cndF h (by (try dsimp only); omega) | (exfalso; simp at h; omega) | simp at h | skip)) | refine kp ?_ ?_ | refine tw ?_ ?_ | refine appnil rfl ?_ | refine rawnil rfl ?_ | exact trivial | refine side2 ?_ | refine sideL2 ?_ | refine Or.inr ?_ | refine sat_drawH (Try.ok ..) (by kernel_rfl) ?_ | refine xi _ (And.intro rfl rfl) ?_ | refine xi _ (fun _ => And.intro rfl rfl) ?_ | refine xi _ rfl ?_ | refine xi _ (fun _ => (frz_at (d := 900) hro1 hB1 hx rfl rfl)) ?_ | refine xi _ (frz_at (d := 900) hro1 hB1 hx rfl rfl) ?_)
    (conv => whnf)
    refine calledQ_at (.v (.bool true)) rfl (fun _ w' hh => by exact right_yes hsr (frz_nest ns_stays hns (d := 900) rfl hh)) ?_
    repeat' ((conv => whnf); first | refine walk (Try.ok ..) ?_ | (refine Cnd.mk (fun h => ?_) (fun h => ?_) <;> (first | exact cndT h (by (try dsimp only); omega) | exact cndF h (by (try dsimp only); omega) | (exfalso; simp at h; omega) | simp at h | skip)) | refine kp ?_ ?_ | refine tw ?_ ?_ | refine appnil rfl ?_ | refine rawnil rfl ?_ | exact trivial | refine side2 ?_ | refine sideL2 ?_ | refine Or.inr ?_ | refine sat_drawH (Try.ok ..) (by kernel_rfl) ?_ | refine xi _ (And.intro rfl rfl) ?_ | refine xi _ (fun _ => And.intro rfl rfl) ?_ | refine xi _ rfl ?_)
    refine ⟨(i + 1, t ++ (gapL b) ++ wS s), ⟨⟨hi1, loose_step hlo hs (by omega) hsr hws (.inr ⟨b, rfl⟩)⟩, by omega⟩, ?_, ?_, rfl⟩
    all_goals ((repeat' (first | exact trivial | exact rfl | refine And.intro ?_ ?_)) <;> (try (conv => whnf)) <;> (try simp only [SV.real, SV.r2, SV.r1]))
    all_goals exact congrArg Value.string (by rw [ba_app, ba_app])
  have hgl : ([] : List UInt8).length ≤ 100 := by simp
  repeat' ((conv => whnf); first | refine walk (Try.ok ..) ?_ | (refine Cnd.mk (fun h => ?_) (fun h => ?_) <;> (first | exact cndT h (by (try dsimp only); omega) | exact cndF h (by (try dsimp only); omega) | (exfalso; simp at h; omega) | simp at h | skip)) | refine kp ?_ ?_ | refine tw ?_ ?_ | refine appnil rfl ?_ | refine rawnil rfl ?_ | exact trivial | refine side2 ?_ | refine sideL2 ?_ | refine Or.inr ?_ | refine sat_drawH (Try.ok ..) (by kernel_rfl) ?_ | refine xi _ (And.intro rfl rfl) ?_ | refine xi _ (fun _ => And.intro rfl rfl) ?_ | refine xi _ rfl ?_)
  (conv => whnf)
  refine called_lay [.v (.slice (adr (some (p.1, p.2 + i))) 1 (c1 - i))] _ (congrArg (fun v => [v]) ?_) (fun w h => h) ?_
  · show Value.slice (if c1 = (i : Int).toNat then adr (some p) else Option.map (fun x => x.add ((i : Int).toNat * 1)) (adr (some p))) (((i : Int) + 1).toNat - (i : Int).toNat) (c1 - (i : Int).toNat) = Value.slice (adr (some (p.1, p.2 + i))) 1 (c1 - i)
    rw [if_neg (by omega), show ((i : Int) + 1).toNat - (i : Int).toNat = 1 by omega, Int.toNat_natCast, Nat.mul_one]
    exact congrArg (fun a => Value.slice a 1 (c1 - i)) (show some ((⟨p.1, p.2, none⟩ : Addr).add i) = some ⟨p.1, p.2 + i, none⟩ by rw [add_mk])
  refine called_at (.t [.v (.string (ba (wS s))), .v (.int .i64 0)]) rfl (fun w' hh => by exact write_lit hw1 _ w' (nest_sub ns_stays hro1 hc1.1 hc1.2 hB1 hx hns (d := 900) rfl hh)) ?_
  repeat' ((conv => whnf); first | refine walk (Try.ok ..) ?_ | (refine Cnd.mk (fun h => ?_) (fun h => ?_) <;> (first | exact cndT h (by (try dsimp only); omega) | exact cndF h (by (try dsimp only); omega) | (exfalso; simp at h; omega) | simp at h | skip)) | refine kp ?_ ?_ | refine tw ?_ ?_ | refine appnil rfl ?_ | refine rawnil rfl ?_ | exact trivial | refine side2 ?_ | refine sideL2 ?_ | refine Or.inr ?_ | refine sat_drawH (Try.ok ..) (by kernel_rfl) ?_ | refine xi _ (And.intro rfl rfl) ?_ | refine xi _ (fun _ => And.intro rfl rfl) ?_ | refine xi _ rfl ?_ | refine xi _ (fun _ => (frz_at (d := 900) hro1 hB1 hx rfl rfl)) ?_ | refine xi _ (frz_at (d := 900) hro1 hB1 hx rfl rfl) ?_)
  (conv => whnf)
  refine calledQ_at (.v (.bool true)) rfl (fun _ w' hh => by exact right_yes hsr (frz_nest ns_stays hns (d := 900) rfl hh)) ?_
  repeat' ((conv => whnf); first | refine walk (Try.ok ..) ?_ | (refine Cnd.mk (fun h => ?_) (fun h => ?_) <;> (first | exact cndT h (by (try dsimp only); omega) | exact cndF h (by (try dsimp only); omega) | (exfalso; simp at h; omega) | simp at h | skip)) | refine kp ?_ ?_ | refine tw ?_ ?_ | refine appnil rfl ?_ | refine rawnil rfl ?_ | exact trivial | refine side2 ?_ | refine sideL2 ?_ | refine Or.inr ?_ | refine sat_drawH (Try.ok ..) (by kernel_rfl) ?_ | refine xi _ (And.intro rfl rfl) ?_ | refine xi _ (fun _ => And.intro rfl rfl) ?_ | refine xi _ rfl ?_)
  refine ⟨(i + 1, t ++ [] ++ wS s), ⟨⟨hi1, loose_step hlo hs (by omega) hsr hws (.inl rfl)⟩, by omega⟩, ?_, ?_, rfl⟩
  all_goals ((repeat' (first | exact trivial | exact rfl | refine And.intro ?_ ?_)) <;> (try (conv => whnf)) <;> (try simp only [SV.real, SV.r2, SV.r1]))
  all_goals exact congrArg Value.string (by rw [List.append_nil, ba_app])
end Go.Proofs.Ytdejcgmaphmjbaa
