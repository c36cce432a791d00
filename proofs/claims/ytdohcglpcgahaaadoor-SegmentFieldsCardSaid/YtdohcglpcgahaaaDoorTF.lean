/-
  The walk of SegmentFields.
-/
import Derived.Test.YtdohcglpcgahaaaDoorPX
import Derived.Test.YtdohcglpcgahaaaDoorWX
import Derived.Test.YtdohcglpcgahaaaDoorTL
set_option linter.unusedSimpArgs false
set_option linter.unusedVariables false
namespace Go.Proofs.YtdohcglpcgahaaaDoor
open Go Sat Go.RowKit Go.PlainAid
theorem set_midF {xs : List Value} {k n : Nat} {v z : Value} (h : xs.length = k) (hk : k < n) : (xs ++ List.replicate (n - k) z).set (mulS (k : Int).toNat 1) v = xs ++ [v] ++ List.replicate (n - (k + 1)) z := by
  rw [mulS_eq, Int.toNat_natCast, Nat.mul_one, ← h, List.set_append_right _ _ (Nat.le_refl _), Nat.sub_self, List.append_assoc, show n - xs.length = (n - (xs.length + 1)) + 1 from by omega]
  rfl
theorem fld_few {i k : Nat} {t : ByteArray} (hi : i < 29) (hk : k < 10) : ∀ m ∈ [fldM (fldD i k t)], FewW m := by
  intro m hm
  rw [List.mem_singleton] at hm
  subst hm
  refine ⟨by show 6 ≤ _; omega, by show 1 ≤ _; omega, fun s hs => ?_⟩
  rw [show (fldM (fldD i k t)).segs = [((⟨#[70, 76, 68]⟩ : ByteArray), fldD i k t)] from rfl, List.mem_singleton] at hs
  subst hs
  refine ⟨⟨by show 3 ≤ _; omega, ?_⟩, ⟨?_, fun e he => ?_⟩⟩
  · show (fldD i k t).length * 24 ≤ _
    rw [fldD_len]
    omega
  · show (fldD i k t).length * 24 ≤ _
    rw [fldD_len]
    omega
  · rcases List.mem_append.1 he with h | h
    · rw [List.eq_of_mem_replicate h]
      show 1 * 16 ≤ _
      omega
    · rw [List.mem_singleton] at h
      subst h
      rw [fldE_len]
      omega
/-- one cell of an element of what is one's own -/
theorem frz_cellz {cx : Cx} {A : Option (Nat × Nat)} {n z d : Nat} {w0 : World} {gs : List Nat} {xs : List Value} {k i j : Nat} {cs : List Value} {u : Value} (h : Ro w0 A n z xs) (hB : ∀ p, A = some p → 0 < n → p.1 ∈ gs) (hc : cut1 xs z i = cs) (hl : cs.length = z) (hu : cs[j]? = some u) (hk : k = i * z) (hi : i < n) {H : Heap} (hf : hfind H d = some (.own gs (Frz w0 gs))) : ∀ w, Holds cx H w → w.cell? ((adAt (adr A) k).add j) = some u := fun w hw => (frz_aggz h hB hc hl hk hi hf).2 w hw j u hu
theorem FewW.seg_one {a b : ByteArray} {x : Sg} (h : FewW ⟨a, b, [x]⟩) : FewS x.2 := (h.seg x List.mem_cons_self).2
theorem set_endF {α : Type} {xs : List α} {i : Nat} {v : α} (h : xs.length = i + 1) : xs.set i v = xs.take i ++ [v] := by
  refine List.ext_getElem? fun j => ?_
  rw [List.getElem?_set]
  rcases Nat.lt_trichotomy j i with h1 | h1 | h1
  · rw [if_neg (by omega), List.getElem?_append_left (by rw [List.length_take]; omega), List.getElem?_take, if_pos h1]
  · subst h1
    rw [if_pos rfl, if_pos (by omega), List.getElem?_append_right (by rw [List.length_take]; omega), List.length_take, show j - min j xs.length = 0 by omega]
    rfl
  · rw [if_neg (by omega), List.getElem?_eq_none (by omega), List.getElem?_eq_none (by rw [List.length_append, List.length_take]; simp; omega)]
set_option maxRecDepth 100000 in
set_option maxHeartbeats 16000000 in
theorem segmentFields_any (t : ByteArray) (el co : Int) (w : World) (hw : WfT w) :
    Calls Tryd.prog 8 #[.string t, .int .i64 el, .int .i64 co] w fun e w' => e = .returned (.bool true) ∧ Below w.heap.size w w' := by
  refine calls_sat (cx := Tryd.cx 147 [11, 14] [] [] w) (Tryd.ok ..) Tryd.func8 rfl [.v (.string t), .v (.int .i64 el), .v (.int .i64 co)] rfl (by show 3 ≤ 147; omega) [] (holds_nil (Nat.le_refl _)) ?_
  repeat' ((conv => whnf); first | refine walk (Tryd.ok ..) ?_ | (refine Cnd.mk (fun h => ?_) (fun h => ?_) <;> (first | exact cndT h (by (try dsimp only); omega) | exact cndF h (by (try dsimp only); omega) | (exfalso; simp at h; omega) | simp at h | skip)) | refine kp ?_ ?_ | refine tw ?_ ?_ | refine appnil rfl ?_ | refine rawnil rfl ?_ | exact trivial | refine side2 ?_ | refine sideL2 ?_ | refine Or.inr ?_ | refine sat_drawH (Tryd.ok ..) (by kernel_rfl) ?_ | refine xi _ (And.intro rfl rfl) ?_ | refine xi _ (fun _ => And.intro rfl rfl) ?_ | refine xi _ rfl ?_)
  (conv => whnf)
  refine called_at (.v (.bool true)) rfl (fun w' hh => by exact awakeG_any w' (hw.at_ rfl rfl hh)) ?_
  repeat' ((conv => whnf); first | refine walk (Tryd.ok ..) ?_ | (refine Cnd.mk (fun h => ?_) (fun h => ?_) <;> (first | exact cndT h (by (try dsimp only); omega) | exact cndF h (by (try dsimp only); omega) | (exfalso; simp at h; omega) | simp at h | skip)) | refine kp ?_ ?_ | refine tw ?_ ?_ | refine appnil rfl ?_ | refine rawnil rfl ?_ | exact trivial | refine side2 ?_ | refine sideL2 ?_ | refine Or.inr ?_ | refine sat_drawH (Tryd.ok ..) (by kernel_rfl) ?_ | refine xi _ (And.intro rfl rfl) ?_ | refine xi _ (fun _ => And.intro rfl rfl) ?_ | refine xi _ rfl ?_)
  by_cases hsz : t.size ≤ 100
  case neg =>
    (conv => whnf)
    refine calledQ_pure (.v (.bool (t.data.toList.any badB))) rfl (fun _ w' => containsFuncF_any t w') ?_
    repeat' ((conv => whnf); first | refine walk (Tryd.ok ..) ?_ | (refine Cnd.mk (fun h => ?_) (fun h => ?_) <;> (first | exact cndT h (by (try dsimp only); omega) | exact cndF h (by (try dsimp only); omega) | (exfalso; simp at h; omega) | simp at h | skip)) | refine kp ?_ ?_ | refine tw ?_ ?_ | refine appnil rfl ?_ | refine rawnil rfl ?_ | exact trivial | refine side2 ?_ | refine sideL2 ?_ | refine Or.inr ?_ | refine sat_drawH (Tryd.ok ..) (by kernel_rfl) ?_ | refine xi _ (And.intro rfl rfl) ?_ | refine xi _ (fun _ => And.intro rfl rfl) ?_ | refine xi _ rfl ?_)
    all_goals first | exact done_pure rfl rfl rfl | omega
  (conv => whnf)
  refine calledQ_pure (.v (.bool (t.data.toList.any badB))) rfl (fun _ w' => containsFuncF_any t w') ?_
  cases hb : t.data.toList.any badB with
  | true =>
    repeat' ((conv => whnf); first | refine walk (Tryd.ok ..) ?_ | (refine Cnd.mk (fun h => ?_) (fun h => ?_) <;> (first | exact cndT h (by (try dsimp only); omega) | exact cndF h (by (try dsimp only); omega) | (exfalso; simp at h; omega) | simp at h | skip)) | refine kp ?_ ?_ | refine tw ?_ ?_ | refine appnil rfl ?_ | refine rawnil rfl ?_ | exact trivial | refine side2 ?_ | refine sideL2 ?_ | refine Or.inr ?_ | refine sat_drawH (Tryd.ok ..) (by kernel_rfl) ?_ | refine xi _ (And.intro rfl rfl) ?_ | refine xi _ (fun _ => And.intro rfl rfl) ?_ | refine xi _ rfl ?_)
    all_goals first | exact done_pure rfl rfl rfl | omega
  | false =>
  have ht : rightC t = true := by unfold rightC; rw [hb, decide_eq_true hsz]; rfl
  repeat' ((conv => whnf); first | refine walk (Tryd.ok ..) ?_ | (refine Cnd.mk (fun h => ?_) (fun h => ?_) <;> (first | exact cndT h (by (try dsimp only); omega) | exact cndF h (by (try dsimp only); omega) | (exfalso; simp at h; omega) | simp at h | skip)) | refine kp ?_ ?_ | refine tw ?_ ?_ | refine appnil rfl ?_ | refine rawnil rfl ?_ | exact trivial | refine side2 ?_ | refine sideL2 ?_ | refine Or.inr ?_ | refine sat_drawH (Tryd.ok ..) (by kernel_rfl) ?_ | refine xi _ (And.intro rfl rfl) ?_ | refine xi _ (fun _ => And.intro rfl rfl) ?_ | refine xi _ rfl ?_)
  (conv => whnf)
  obtain ⟨i, hi, hi29⟩ : ∃ i : Nat, el % 29 = i ∧ i < 29 := ⟨(el % 29).toNat, by omega, by omega⟩
  obtain ⟨k, hk, hk10⟩ : ∃ k : Nat, co % 10 = k ∧ k < 10 := ⟨(co % 10).toNat, by omega, by omega⟩
  refine called_at (.v (.int .i64 i)) rfl (fun w' hh => by rw [← hi]; exact pick_any el 29 w' (by omega) (by omega)) ?_
  repeat' ((conv => whnf); first | refine walk (Tryd.ok ..) ?_ | (refine Cnd.mk (fun h => ?_) (fun h => ?_) <;> (first | exact cndT h (by (try dsimp only); omega) | exact cndF h (by (try dsimp only); omega) | (exfalso; simp at h; omega) | simp at h | skip)) | refine kp ?_ ?_ | refine tw ?_ ?_ | refine appnil rfl ?_ | refine rawnil rfl ?_ | exact trivial | refine side2 ?_ | refine sideL2 ?_ | refine Or.inr ?_ | refine sat_drawH (Tryd.ok ..) (by kernel_rfl) ?_ | refine xi _ (And.intro rfl rfl) ?_ | refine xi _ (fun _ => And.intro rfl rfl) ?_ | refine xi _ rfl ?_)
  (conv => whnf)
  refine called_at (.v (.int .i64 k)) rfl (fun w' hh => by rw [← hk]; exact pick_any co 10 w' (by omega) (by omega)) ?_
  repeat' ((conv => whnf); first | refine walk (Tryd.ok ..) ?_ | (refine Cnd.mk (fun h => ?_) (fun h => ?_) <;> (first | exact cndT h (by (try dsimp only); omega) | exact cndF h (by (try dsimp only); omega) | (exfalso; simp at h; omega) | simp at h | skip)) | refine kp ?_ ?_ | refine tw ?_ ?_ | refine appnil rfl ?_ | refine rawnil rfl ?_ | exact trivial | refine side2 ?_ | refine sideL2 ?_ | refine Or.inr ?_ | refine sat_drawH (Tryd.ok ..) (by kernel_rfl) ?_ | refine xi _ (And.intro rfl rfl) ?_ | refine xi _ (fun _ => And.intro rfl rfl) ?_ | refine xi _ rfl ?_)
  (conv => whnf)
  have e1 : ((i : Int) + 1).toNat = i + 1 := by omega
  rw [e1]
  intro g32 hg32
  repeat' ((conv => whnf); first | refine walk (Tryd.ok ..) ?_ | (refine Cnd.mk (fun h => ?_) (fun h => ?_) <;> (first | exact cndT h (by (try dsimp only); omega) | exact cndF h (by (try dsimp only); omega) | (exfalso; simp at h; omega) | simp at h | skip)) | refine kp ?_ ?_ | refine tw ?_ ?_ | refine appnil rfl ?_ | refine rawnil rfl ?_ | exact trivial | refine side2 ?_ | refine sideL2 ?_ | refine Or.inr ?_ | refine sat_drawH (Tryd.ok ..) (by kernel_rfl) ?_ | refine xi _ (And.intro rfl rfl) ?_ | refine xi _ (fun _ => And.intro rfl rfl) ?_ | refine xi _ rfl ?_)
  refine sat_fuse 77 [] rfl fun w0 hw0 => ?_
  refine sat_loop (Tryd.ok ..) (α := Nat × List Value × World × List Nat) (fun s => ([(0, .yes, .v (.string t)), (7, .yes, .v (.int .i64 i)), (8, .yes, .v (.int .i64 k)), (9, .yes, .o 32 (some (g32, 0)) (i + 1) (i + 1)), (34, .yes, .v (.int .i64 ((i + 1 : Nat) : Int))), (35, .yes, .v (.int .i64 s.1))], [(32, .row (some (g32, 0)) 45 1 (i + 1) (i + 1) (s.2.1 ++ List.replicate (i + 1 - s.1) (.slice none 0 0))), (77, .own s.2.2.2 (Frz s.2.2.1 s.2.2.2))]))
    (fun s => s.1 ≤ i + 1 ∧ s.2.1.length = s.1 ∧ Got NE s.2.2.1 s.2.2.2 s.2.1 (List.replicate s.1 [emp])) (fun s => i + 1 - s.1) (fun _ => rfl) ?_ ?_
  · refine ⟨(0, [], w0, []), ⟨Nat.zero_le _, rfl, Got.nil⟩, ?_, ?_, rfl⟩
    all_goals ((repeat' (first | exact trivial | exact rfl | refine And.intro ?_ ?_)) <;> (try (conv => whnf)) <;> (try simp only [SV.real, SV.r2, SV.r1]))
    all_goals rw [show Value.cells (.slice none 0 0) = #[.slice none 0 0] from rfl, toList_madeCells_one, Nat.mul_one]
    all_goals rfl
  rintro ⟨n, xs, w1, gs1⟩ ⟨hn, hxl, hgot⟩
  dsimp only at hn hxl hgot ⊢
  by_cases hn1 : n < i + 1
  · repeat' ((conv => whnf); first | refine walk (Tryd.ok ..) ?_ | (refine Cnd.mk (fun h => ?_) (fun h => ?_) <;> (first | exact cndT h (by (try dsimp only); omega) | exact cndF h (by (try dsimp only); omega) | (exfalso; simp at h; omega) | simp at h | skip)) | refine kp ?_ ?_ | refine tw ?_ ?_ | refine appnil rfl ?_ | refine rawnil rfl ?_ | exact trivial | refine side2 ?_ | refine sideL2 ?_ | refine Or.inr ?_ | refine sat_drawH (Tryd.ok ..) (by kernel_rfl) ?_ | refine xi _ (And.intro rfl rfl) ?_ | refine xi _ (fun _ => And.intro rfl rfl) ?_ | refine xi _ rfl ?_)
    (conv => whnf)
    intro g40 hg40
    repeat' ((conv => whnf); first | refine walk (Tryd.ok ..) ?_ | (refine Cnd.mk (fun h => ?_) (fun h => ?_) <;> (first | exact cndT h (by (try dsimp only); omega) | exact cndF h (by (try dsimp only); omega) | (exfalso; simp at h; omega) | simp at h | skip)) | refine kp ?_ ?_ | refine tw ?_ ?_ | refine appnil rfl ?_ | refine rawnil rfl ?_ | exact trivial | refine side2 ?_ | refine sideL2 ?_ | refine Or.inr ?_ | refine sat_drawH (Tryd.ok ..) (by kernel_rfl) ?_ | refine xi _ (And.intro rfl rfl) ?_ | refine xi _ (fun _ => And.intro rfl rfl) ?_ | refine xi _ rfl ?_)
    (conv => whnf)
    have hlt : mulS (n : Int).toNat 1 < (xs ++ List.replicate (i + 1 - n) (Value.slice none 0 0)).length := by
      rw [mulS_eq, Int.toNat_natCast, List.length_append, List.length_replicate]
      omega
    refine ⟨hlt, ?_⟩
    repeat' ((conv => whnf); first | refine walk (Tryd.ok ..) ?_ | (refine Cnd.mk (fun h => ?_) (fun h => ?_) <;> (first | exact cndT h (by (try dsimp only); omega) | exact cndF h (by (try dsimp only); omega) | (exfalso; simp at h; omega) | simp at h | skip)) | refine kp ?_ ?_ | refine tw ?_ ?_ | refine appnil rfl ?_ | refine rawnil rfl ?_ | exact trivial | refine side2 ?_ | refine sideL2 ?_ | refine Or.inr ?_ | refine sat_drawH (Tryd.ok ..) (by kernel_rfl) ?_ | refine xi _ (And.intro rfl rfl) ?_ | refine xi _ (fun _ => And.intro rfl rfl) ?_ | refine xi _ rfl ?_)
    refine sat_fuse 77 [77, 40] rfl fun w4 hw4 => ?_
    have h40 := blk_ownN Text [77, 40] 40 (g := g40) (n := 1) [emp] [.string ⟨#[]⟩] hw4 rfl rfl rfl (by unfold maxLen; simp) rfl ⟨rfl, trivial⟩
    have hgot' := (hgot.fuse ne_stays [77, 40] 77 hw4 rfl rfl).ext (by rw [hxl, List.length_replicate]) h40
    refine sat_ops (Tryd.ok ..) ?_
    repeat' ((conv => whnf); first | refine walk (Tryd.ok ..) ?_ | (refine Cnd.mk (fun h => ?_) (fun h => ?_) <;> (first | exact cndT h (by (try dsimp only); omega) | exact cndF h (by (try dsimp only); omega) | (exfalso; simp at h; omega) | simp at h | skip)) | refine kp ?_ ?_ | refine tw ?_ ?_ | refine appnil rfl ?_ | refine rawnil rfl ?_ | exact trivial | refine side2 ?_ | refine sideL2 ?_ | refine Or.inr ?_ | refine sat_drawH (Tryd.ok ..) (by kernel_rfl) ?_ | refine xi _ (And.intro rfl rfl) ?_ | refine xi _ (fun _ => And.intro rfl rfl) ?_ | refine xi _ rfl ?_)
    refine ⟨(n + 1, xs ++ [.slice (some ⟨g40, 0, none⟩) 1 1], w4, _), ⟨⟨hn1, by rw [List.length_append, hxl]; rfl, by rw [List.replicate_succ']; exact hgot'⟩, by show i + 1 - (n + 1) < i + 1 - n; omega⟩, ?_, ?_, rfl⟩
    all_goals ((repeat' (first | exact trivial | exact rfl | refine And.intro ?_ ?_)) <;> (try (conv => whnf)) <;> (try simp only [SV.real, SV.r2, SV.r1]))
    exact set_midF hxl hn1
  obtain rfl : n = i + 1 := by omega
  have hE : xs ++ List.replicate (i + 1 - (i + 1)) (Value.slice none 0 0) = xs := by rw [Nat.sub_self, List.replicate_zero, List.append_nil]
  rw [hE]
  clear hE
  repeat' ((conv => whnf); first | refine walk (Tryd.ok ..) ?_ | (refine Cnd.mk (fun h => ?_) (fun h => ?_) <;> (first | exact cndT h (by (try dsimp only); omega) | exact cndF h (by (try dsimp only); omega) | (exfalso; simp at h; omega) | simp at h | skip)) | refine kp ?_ ?_ | refine tw ?_ ?_ | refine appnil rfl ?_ | refine rawnil rfl ?_ | exact trivial | refine side2 ?_ | refine sideL2 ?_ | refine Or.inr ?_ | refine sat_drawH (Tryd.ok ..) (by kernel_rfl) ?_ | refine xi _ (And.intro rfl rfl) ?_ | refine xi _ (fun _ => And.intro rfl rfl) ?_ | refine xi _ rfl ?_)
  (conv => whnf)
  have e2 : ((k : Int) + 1).toNat = k + 1 := by omega
  rw [e2]
  intro g47 hg47
  repeat' ((conv => whnf); first | refine walk (Tryd.ok ..) ?_ | (refine Cnd.mk (fun h => ?_) (fun h => ?_) <;> (first | exact cndT h (by (try dsimp only); omega) | exact cndF h (by (try dsimp only); omega) | (exfalso; simp at h; omega) | simp at h | skip)) | refine kp ?_ ?_ | refine tw ?_ ?_ | refine appnil rfl ?_ | refine rawnil rfl ?_ | exact trivial | refine side2 ?_ | refine sideL2 ?_ | refine Or.inr ?_ | refine sat_drawH (Tryd.ok ..) (by kernel_rfl) ?_ | refine xi _ (And.intro rfl rfl) ?_ | refine xi _ (fun _ => And.intro rfl rfl) ?_ | refine xi _ rfl ?_)
  (conv => whnf)
  have hli : mulS (i : Int).toNat 1 < xs.length := by
    rw [mulS_eq, Int.toNat_natCast]
    omega
  refine ⟨hli, ?_⟩
  have hset : ∀ v, xs.set (mulS (i : Int).toNat 1) v = xs.take i ++ [v] := fun v => by
    rw [mulS_eq, Int.toNat_natCast, Nat.mul_one]
    exact set_endF hxl
  simp only [hset]
  have hcell : ∀ v, (xs.take i ++ [v])[mulS (i : Int).toNat 1]? = some v := fun v => by
    rw [mulS_eq, Int.toNat_natCast, Nat.mul_one, List.getElem?_append_right (by rw [List.length_take]; omega), List.length_take]
    rw [show i - min i xs.length = 0 by omega]
    rfl
  repeat' ((conv => whnf); first | refine walk (Tryd.ok ..) ?_ | (refine Cnd.mk (fun h => ?_) (fun h => ?_) <;> (first | exact cndT h (by (try dsimp only); omega) | exact cndF h (by (try dsimp only); omega) | (exfalso; simp at h; omega) | simp at h | skip)) | refine kp ?_ ?_ | refine tw ?_ ?_ | refine appnil rfl ?_ | refine rawnil rfl ?_ | exact trivial | refine side2 ?_ | refine sideL2 ?_ | refine Or.inr ?_ | refine sat_drawH (Tryd.ok ..) (by kernel_rfl) ?_ | refine xi _ (And.intro rfl rfl) ?_ | refine xi _ (fun _ => And.intro rfl rfl) ?_ | refine xi _ rfl ?_ | refine xi _ (fun _ => (hcell _)) ?_ | refine xi _ (hcell _) ?_)
  (conv => whnf)
  refine storeat (.p 47 g47 0 k) (by
    show Value.pointer (some ⟨g47, k + 0, none⟩) = Value.pointer (some (adAt (adr (some (g47, 0))) (mulS (k : Int).toNat 1)))
    rw [ad_some, mulS_eq, Int.toNat_natCast, Nat.mul_one, Nat.zero_add, Nat.add_zero]) ?_
  repeat' ((conv => whnf); first | refine walk (Tryd.ok ..) ?_ | (refine Cnd.mk (fun h => ?_) (fun h => ?_) <;> (first | exact cndT h (by (try dsimp only); omega) | exact cndF h (by (try dsimp only); omega) | (exfalso; simp at h; omega) | simp at h | skip)) | refine kp ?_ ?_ | refine tw ?_ ?_ | refine appnil rfl ?_ | refine rawnil rfl ?_ | exact trivial | refine side2 ?_ | refine sideL2 ?_ | refine Or.inr ?_ | refine sat_drawH (Tryd.ok ..) (by kernel_rfl) ?_ | refine xi _ (And.intro rfl rfl) ?_ | refine xi _ (fun _ => And.intro rfl rfl) ?_ | refine xi _ rfl ?_)
  (conv => whnf)
  have hmade : (madeCells (Value.string ⟨#[]⟩).cells ((k + 1) * 1)).toList = List.replicate (k + 1) (.string ⟨#[]⟩) := by
    rw [show Value.cells (.string ⟨#[]⟩) = #[.string ⟨#[]⟩] from rfl, toList_madeCells_one, Nat.mul_one]
  have hsetk : (madeCells (Value.string ⟨#[]⟩).cells ((k + 1) * 1)).toList.set k (SV.v (.string t)).r1 = (fldE k t).map Value.string := by
    rw [hmade, set_endF (by simp)]
    show _ = (List.replicate k emp ++ [t]).map Value.string
    rw [List.map_append, List.map_replicate, List.take_replicate, Nat.min_eq_left (Nat.le_succ k)]
    rfl
  refine ⟨by rw [hmade]; simp, ?_⟩
  rw [hsetk]
  repeat' ((conv => whnf); first | refine walk (Tryd.ok ..) ?_ | (refine Cnd.mk (fun h => ?_) (fun h => ?_) <;> (first | exact cndT h (by (try dsimp only); omega) | exact cndF h (by (try dsimp only); omega) | (exfalso; simp at h; omega) | simp at h | skip)) | refine kp ?_ ?_ | refine tw ?_ ?_ | refine appnil rfl ?_ | refine rawnil rfl ?_ | exact trivial | refine side2 ?_ | refine sideL2 ?_ | refine Or.inr ?_ | refine sat_drawH (Tryd.ok ..) (by kernel_rfl) ?_ | refine xi _ (And.intro rfl rfl) ?_ | refine xi _ (fun _ => And.intro rfl rfl) ?_ | refine xi _ rfl ?_)
  refine sat_fuse 78 [77, 47, 32] rfl fun w5 hw5 => ?_
  have h47 := nest_fuseN (R := Text) [77, 47, 32] 47 (l := fldE k t) (fldE_len k t).symm hw5 rfl rfl (got_strs (fldE k t))
  have hgt : Got NE w1 gs1 (xs.take i) (List.replicate i [emp]) := ⟨fun j x a hx ha => by
    rw [List.getElem?_take] at hx
    split at hx
    · rename_i hj
      rw [List.getElem?_replicate] at ha
      refine hgot.at_ j x a hx ?_
      rw [List.getElem?_replicate, if_pos (by omega)]
      rw [if_pos hj] at ha
      exact ha
    · cases hx⟩
  have hgd := (hgt.fuse ne_stays [77, 47, 32] 77 hw5 rfl rfl).ext (by rw [List.length_take, List.length_replicate]; omega) h47
  have hd := nest_fuseN (R := NE) [77, 47, 32] 32 (l := fldD i k t) (fldD_len i k t).symm hw5 rfl rfl hgd
  clear hgd hgt h47 hgot
  generalize hgs : gsOf _ [77, 47, 32] = gs5 at hd ⊢
  refine sat_ops (Tryd.ok ..) ?_
  repeat' ((conv => whnf); first | refine walk (Tryd.ok ..) ?_ | (refine Cnd.mk (fun h => ?_) (fun h => ?_) <;> (first | exact cndT h (by (try dsimp only); omega) | exact cndF h (by (try dsimp only); omega) | (exfalso; simp at h; omega) | simp at h | skip)) | refine kp ?_ ?_ | refine tw ?_ ?_ | refine appnil rfl ?_ | refine rawnil rfl ?_ | exact trivial | refine side2 ?_ | refine sideL2 ?_ | refine Or.inr ?_ | refine sat_drawH (Tryd.ok ..) (by kernel_rfl) ?_ | refine xi _ (And.intro rfl rfl) ?_ | refine xi _ (fun _ => And.intro rfl rfl) ?_ | refine xi _ rfl ?_)
  (conv => whnf)
  intro g59 hg59
  repeat' ((conv => whnf); first | refine walk (Tryd.ok ..) ?_ | (refine Cnd.mk (fun h => ?_) (fun h => ?_) <;> (first | exact cndT h (by (try dsimp only); omega) | exact cndF h (by (try dsimp only); omega) | (exfalso; simp at h; omega) | simp at h | skip)) | refine kp ?_ ?_ | refine tw ?_ ?_ | refine appnil rfl ?_ | refine rawnil rfl ?_ | exact trivial | refine side2 ?_ | refine sideL2 ?_ | refine Or.inr ?_ | refine sat_drawH (Tryd.ok ..) (by kernel_rfl) ?_ | refine xi _ (And.intro rfl rfl) ?_ | refine xi _ (fun _ => And.intro rfl rfl) ?_ | refine xi _ rfl ?_)
  (conv => whnf)
  intro g61 hg61
  repeat' ((conv => whnf); first | refine walk (Tryd.ok ..) ?_ | (refine Cnd.mk (fun h => ?_) (fun h => ?_) <;> (first | exact cndT h (by (try dsimp only); omega) | exact cndF h (by (try dsimp only); omega) | (exfalso; simp at h; omega) | simp at h | skip)) | refine kp ?_ ?_ | refine tw ?_ ?_ | refine appnil rfl ?_ | refine rawnil rfl ?_ | exact trivial | refine side2 ?_ | refine sideL2 ?_ | refine Or.inr ?_ | refine sat_drawH (Tryd.ok ..) (by kernel_rfl) ?_ | refine xi _ (And.intro rfl rfl) ?_ | refine xi _ (fun _ => And.intro rfl rfl) ?_ | refine xi _ rfl ?_)
  (conv => whnf)
  obtain ⟨u, hu1, hu2⟩ := fld_back hi29 hk10 ht
  refine called_at (.t [.v (.string (ba u)), .v (.int .i64 0)]) rfl (fun w' hh => by
    have h59 := blk_nestz (z := 2) (SegR NSA) [61, 59, 78] 59 (g := g59) [((⟨#[70, 76, 68]⟩ : ByteArray), fldD i k t)] [.string ⟨#[70, 76, 68]⟩, .slice (adr (some (g32, 0))) (i + 1) (i + 1)] hh rfl rfl rfl (by unfold maxLen; simp) rfl rfl (one_at ⟨_, rfl, ns_arg (frz_nest' ns_stays hd (d := 78) rfl hh (fun g hg => gs_sub (i := 78) rfl rfl hg))⟩)
    have h61 := blk_nestz (z := 3) (MsgR NSA) [61, 59, 78] 61 (g := g61) [fldM (fldD i k t)] [.string ⟨#[70, 73, 69, 76, 68, 83]⟩, .string ⟨#[49]⟩, .slice (some ⟨g59, 0, none⟩) 1 1] hh rfl rfl rfl (by unfold maxLen; simp) rfl rfl (one_at ⟨_, rfl, h59⟩)
    exact writeG_lit hu1 _ w' (hw.at_ rfl rfl hh) (nmsgs_stays nsa_stays _ _ _ _ _ _ h61 (fun _ _ _ => rfl) (fun _ _ => trivial)) (fld_few hi29 hk10) (by show 3 ≤ _; omega)) ?_
  repeat' ((conv => whnf); first | refine walk (Tryd.ok ..) ?_ | (refine Cnd.mk (fun h => ?_) (fun h => ?_) <;> (first | exact cndT h (by (try dsimp only); omega) | exact cndF h (by (try dsimp only); omega) | (exfalso; simp at h; omega) | simp at h | skip)) | refine kp ?_ ?_ | refine tw ?_ ?_ | refine appnil rfl ?_ | refine rawnil rfl ?_ | exact trivial | refine side2 ?_ | refine sideL2 ?_ | refine Or.inr ?_ | refine sat_drawH (Tryd.ok ..) (by kernel_rfl) ?_ | refine xi _ (And.intro rfl rfl) ?_ | refine xi _ (fun _ => And.intro rfl rfl) ?_ | refine xi _ rfl ?_)
  (conv => whnf)
  refine called_nest 79 (mk := fun v => .tuple #[v, .int .i64 0, .int .i64 0]) (Q := fun w B v => NMsgs NS w B v [trimM (fldM (fldD i k t))]) (fun v => .t [.v v, .v (.int .i64 0), .v (.int .i64 0)]) (fun _ => rfl) (fun w' hh => by exact readG_lit hu2 w' (hw.at_ rfl rfl hh)) ?_
  intro w6 gs6 v6 h6
  obtain ⟨am, Am, cm, xm, rfl, aAm, hcm, hrm, hBm, hxm⟩ := h6
  obtain ⟨vs, hcs, hvs⟩ := hxm 0 _ rfl
  obtain ⟨as', As, cs', xs', rfl, aAs, hcs', hrs, hBs, hxs⟩ := hvs
  obtain ⟨vd, hcd, hvd⟩ := hxs 0 _ rfl
  obtain ⟨ad, nd, cd, rfl⟩ := ns_sl _ _ _ _ hvd
  have hl1 : [trimM (fldM (fldD i k t))].length = 1 := rfl
  have hl2 : (trimM (fldM (fldD i k t))).segs.length = 1 := rfl
  rw [hl1] at aAm hcm hrm hBm ⊢
  rw [hl2] at aAs hcs' hrs hBs hcs
  obtain ⟨pm, rfl, rfl⟩ := some_ofz aAm hrm (by omega)
  obtain ⟨ps, rfl, rfl⟩ := some_ofz aAs hrs (by omega)
  repeat' ((conv => whnf); first | refine walk (Tryd.ok ..) ?_ | (refine Cnd.mk (fun h => ?_) (fun h => ?_) <;> (first | exact cndT h (by (try dsimp only); omega) | exact cndF h (by (try dsimp only); omega) | (exfalso; simp at h; omega) | simp at h | skip)) | refine kp ?_ ?_ | refine tw ?_ ?_ | refine appnil rfl ?_ | refine rawnil rfl ?_ | exact trivial | refine side2 ?_ | refine sideL2 ?_ | refine Or.inr ?_ | refine sat_drawH (Tryd.ok ..) (by kernel_rfl) ?_ | refine xi _ (And.intro rfl rfl) ?_ | refine xi _ (fun _ => And.intro rfl rfl) ?_ | refine xi _ rfl ?_ | refine xi _ (fun _ => (frz_cellz (d := 79) (j := 2) hrm hBm hcs rfl rfl rfl (by omega) rfl)) ?_ | refine xi _ (frz_cellz (d := 79) (j := 2) hrm hBm hcs rfl rfl rfl (by omega) rfl) ?_ | refine xi _ (fun _ => (frz_aggz (d := 79) hrs hBs hcd rfl rfl (by omega) rfl)) ?_ | refine xi _ (frz_aggz (d := 79) hrs hBs hcd rfl rfl (by omega) rfl) ?_)
  (conv => whnf)
  intro g16 hg16
  repeat' ((conv => whnf); first | refine walk (Tryd.ok ..) ?_ | (refine Cnd.mk (fun h => ?_) (fun h => ?_) <;> (first | exact cndT h (by (try dsimp only); omega) | exact cndF h (by (try dsimp only); omega) | (exfalso; simp at h; omega) | simp at h | skip)) | refine kp ?_ ?_ | refine tw ?_ ?_ | refine appnil rfl ?_ | refine rawnil rfl ?_ | exact trivial | refine side2 ?_ | refine sideL2 ?_ | refine Or.inr ?_ | refine xi _ (And.intro rfl rfl) ?_ | refine xi _ (fun _ => And.intro rfl rfl) ?_ | refine xi _ rfl ?_)
  have hnd : nd = (trimS (fldD i k t)).length := by
    obtain ⟨A, cap, xs, hv, -⟩ := hvd
    injection hv
  have h0nd : t = (⟨#[]⟩ : ByteArray) → nd = 0 := fun h1 => by
    have h1 : t = emp := h1
    rw [hnd, h1, fld_none]
    rfl
  have hG : ((t == (⟨#[]⟩ : ByteArray)) && ((nd : Int) != 0)) = false := by
    cases h0 : (t == (⟨#[]⟩ : ByteArray)) with
    | false => rfl
    | true =>
      have h1 : t = emp := (MapKept.bytes_beq _ _).1 h0
      rw [hnd, h1, fld_none]
      rfl
  refine sat_draw (Tryd.ok ..) [] [(16, .blk g16 47 [.v (.string ⟨#[70, 76, 68]⟩), .v (.slice ad nd cd)])] (by kernel_rfl) (fun w hw => hw.sub ?_) ?_
  · exact hsub_of rfl
  have hG' : (!((t == (⟨#[]⟩ : ByteArray)) && ((nd : Int) != 0))) = true := by rw [hG]; rfl
  repeat' ((conv => whnf); first | ((with_reducible refine Or.inr (Cnd.mk (fun _ => ?_) (fun h => absurd h (by rw [hG]; simp))))) | refine walk (Tryd.ok ..) ?_ | (refine Cnd.mk (fun h => ?_) (fun h => ?_) <;> (first | exact cndT h (by (try dsimp only); omega) | exact cndF h (by (try dsimp only); omega) | (exfalso; simp at h; omega) | simp at h | skip)) | refine kp ?_ ?_ | refine tw ?_ ?_ | refine appnil rfl ?_ | refine rawnil rfl ?_ | exact trivial | refine side2 ?_ | refine sideL2 ?_ | refine Or.inr ?_ | refine xi _ (And.intro rfl rfl) ?_ | refine xi _ (fun _ => And.intro rfl rfl) ?_ | refine xi _ rfl ?_)
  · (conv => whnf)
    intro g107 hg107
    repeat' ((conv => whnf); first | ((with_reducible refine Or.inr (Cnd.mk (fun _ => ?_) (fun h => absurd h (by rw [hG]; simp))))) | refine walk (Tryd.ok ..) ?_ | (refine Cnd.mk (fun h => ?_) (fun h => ?_) <;> (first | exact cndT h (by (try dsimp only); omega) | exact cndF h (by (try dsimp only); omega) | (exfalso; simp at h; omega) | simp at h | skip)) | refine kp ?_ ?_ | refine tw ?_ ?_ | refine appnil rfl ?_ | refine rawnil rfl ?_ | exact trivial | refine side2 ?_ | refine sideL2 ?_ | refine Or.inr ?_ | refine xi _ (And.intro rfl rfl) ?_ | refine xi _ (fun _ => And.intro rfl rfl) ?_ | refine xi _ rfl ?_)
    (conv => whnf)
    refine called_nest 80 (mk := id) (Q := fun w B v => NS w B v (trimS (fldD i k t))) (fun v => .v v) (fun _ => rfl) (fun w' hh => by exact trim_any (fldD i k t) _ w' (ns_arg (frz_nest ns_stays hd (d := 78) rfl hh)) (fld_few hi29 hk10 _ List.mem_cons_self).seg_one) ?_
    intro w7 gs7 v7 h7
    obtain ⟨a7, n7, c7, rfl⟩ := ns_sl _ _ _ _ h7
    repeat' ((conv => whnf); first | ((with_reducible refine Or.inr (Cnd.mk (fun _ => ?_) (fun h => absurd h (by rw [hG]; simp))))) | refine walk (Tryd.ok ..) ?_ | (refine Cnd.mk (fun h => ?_) (fun h => ?_) <;> (first | exact cndT h (by (try dsimp only); omega) | exact cndF h (by (try dsimp only); omega) | (exfalso; simp at h; omega) | simp at h | skip)) | refine kp ?_ ?_ | refine tw ?_ ?_ | refine appnil rfl ?_ | refine rawnil rfl ?_ | exact trivial | refine side2 ?_ | refine sideL2 ?_ | refine Or.inr ?_ | refine xi _ (And.intro rfl rfl) ?_ | refine xi _ (fun _ => And.intro rfl rfl) ?_ | refine xi _ rfl ?_)
    (conv => whnf)
    intro g110 hg110
    repeat' ((conv => whnf); first | ((with_reducible refine Or.inr (Cnd.mk (fun _ => ?_) (fun h => absurd h (by rw [hG]; simp))))) | refine walk (Tryd.ok ..) ?_ | (refine Cnd.mk (fun h => ?_) (fun h => ?_) <;> (first | exact cndT h (by (try dsimp only); omega) | exact cndF h (by (try dsimp only); omega) | (exfalso; simp at h; omega) | simp at h | skip)) | refine kp ?_ ?_ | refine tw ?_ ?_ | refine appnil rfl ?_ | refine rawnil rfl ?_ | exact trivial | refine side2 ?_ | refine sideL2 ?_ | refine Or.inr ?_ | refine xi _ (And.intro rfl rfl) ?_ | refine xi _ (fun _ => And.intro rfl rfl) ?_ | refine xi _ rfl ?_)
    (conv => whnf)
    refine called_at (.v (.bool true)) rfl (fun w' hh => by
      have h107 := blk_nest NS hh 107 (g := g107) [trimS (fldD i k t)] [.slice ad nd cd] rfl rfl (by unfold maxLen; simp) rfl ⟨frz_nest ns_stays hvd (d := 79) rfl hh, trivial⟩
      have h110 := blk_nest NS hh 110 (g := g110) [trimS (fldD i k t)] [.slice a7 n7 c7] rfl rfl (by unfold maxLen; simp) rfl ⟨frz_nest ns_stays h7 (d := 80) rfl hh, trivial⟩
      have h := same_any [trimS (fldD i k t)] [trimS (fldD i k t)] _ _ w' (nl_arg h107) (nl_arg h110)
      rw [decide_eq_true rfl] at h
      exact h) ?_
    repeat' ((conv => whnf); first | refine walk (Tryd.ok ..) ?_ | (refine Cnd.mk (fun h => ?_) (fun h => ?_) <;> (first | exact cndT h (by (try dsimp only); omega) | exact cndF h (by (try dsimp only); omega) | (exfalso; simp at h; omega) | simp at h | skip)) | refine kp ?_ ?_ | refine tw ?_ ?_ | refine appnil rfl ?_ | refine rawnil rfl ?_ | exact trivial | refine side2 ?_ | refine sideL2 ?_ | refine Or.inr ?_ | refine sat_drawH (Tryd.ok ..) (by kernel_rfl) ?_ | refine xi _ (And.intro rfl rfl) ?_ | refine xi _ (fun _ => And.intro rfl rfl) ?_ | refine xi _ rfl ?_)
    · exact absurd (h0nd ‹t = _ ∧ _›.1) ‹t = _ ∧ _›.2
    (conv => whnf)
    refine called_at (.v (.string t)) rfl (fun w' hh => by
      have h := field_any ⟨#[70, 76, 68]⟩ (trimS (fldD i k t)) (.slice ad nd cd) i k w' (ns_arg (frz_nest ns_stays hvd (d := 79) rfl hh))
      rw [fieldS_trim, (fieldF i k t).1] at h
      exact h) ?_
    repeat' ((conv => whnf); first | refine walk (Tryd.ok ..) ?_ | (refine Cnd.mk (fun h => ?_) (fun h => ?_) <;> (first | exact cndT h (by (try dsimp only); omega) | exact cndF h (by (try dsimp only); omega) | (exfalso; simp at h; omega) | simp at h | skip)) | refine kp ?_ ?_ | refine tw ?_ ?_ | refine appnil rfl ?_ | refine rawnil rfl ?_ | exact trivial | refine side2 ?_ | refine sideL2 ?_ | refine Or.inr ?_ | refine sat_drawH (Tryd.ok ..) (by kernel_rfl) ?_ | refine xi _ (And.intro rfl rfl) ?_ | refine xi _ (fun _ => And.intro rfl rfl) ?_ | refine xi _ rfl ?_)
    (conv => whnf)
    refine calledQ_at (.v (.string emp)) rfl (fun _ w' hh => by
      have h := field_any ⟨#[70, 76, 68]⟩ (trimS (fldD i k t)) (.slice ad nd cd) i ((k : Int) + 1) w' (ns_arg (frz_nest ns_stays hvd (d := 79) rfl hh))
      rw [fieldS_trim, (fieldF i k t).2.1] at h
      exact h) ?_
    repeat' ((conv => whnf); first | refine walk (Tryd.ok ..) ?_ | (refine Cnd.mk (fun h => ?_) (fun h => ?_) <;> (first | exact cndT h (by (try dsimp only); omega) | exact cndF h (by (try dsimp only); omega) | (exfalso; simp at h; omega) | simp at h | skip)) | refine kp ?_ ?_ | refine tw ?_ ?_ | refine appnil rfl ?_ | refine rawnil rfl ?_ | exact trivial | refine side2 ?_ | refine sideL2 ?_ | refine Or.inr ?_ | refine sat_drawH (Tryd.ok ..) (by kernel_rfl) ?_ | refine xi _ (And.intro rfl rfl) ?_ | refine xi _ (fun _ => And.intro rfl rfl) ?_ | refine xi _ rfl ?_)
    (conv => whnf)
    refine calledQ_at (.v (.string emp)) rfl (fun _ w' hh => by
      have h := field_any ⟨#[70, 76, 68]⟩ (trimS (fldD i k t)) (.slice ad nd cd) ((i : Int) + 1) 0 w' (ns_arg (frz_nest ns_stays hvd (d := 79) rfl hh))
      rw [fieldS_trim, (fieldF i k t).2.2.1] at h
      exact h) ?_
    repeat' ((conv => whnf); first | refine walk (Tryd.ok ..) ?_ | (refine Cnd.mk (fun h => ?_) (fun h => ?_) <;> (first | exact cndT h (by (try dsimp only); omega) | exact cndF h (by (try dsimp only); omega) | (exfalso; simp at h; omega) | simp at h | skip)) | refine kp ?_ ?_ | refine tw ?_ ?_ | refine appnil rfl ?_ | refine rawnil rfl ?_ | exact trivial | refine side2 ?_ | refine sideL2 ?_ | refine Or.inr ?_ | refine sat_drawH (Tryd.ok ..) (by kernel_rfl) ?_ | refine xi _ (And.intro rfl rfl) ?_ | refine xi _ (fun _ => And.intro rfl rfl) ?_ | refine xi _ rfl ?_)
    (conv => whnf)
    refine calledQ_at (.v (.string emp)) rfl (fun _ w' hh => by
      have h := field_any ⟨#[70, 76, 68]⟩ (trimS (fldD i k t)) (.slice ad nd cd) (-1) k w' (ns_arg (frz_nest ns_stays hvd (d := 79) rfl hh))
      rw [fieldS_trim, (fieldF i k t).2.2.2.1] at h
      exact h) ?_
    repeat' ((conv => whnf); first | refine walk (Tryd.ok ..) ?_ | (refine Cnd.mk (fun h => ?_) (fun h => ?_) <;> (first | exact cndT h (by (try dsimp only); omega) | exact cndF h (by (try dsimp only); omega) | (exfalso; simp at h; omega) | simp at h | skip)) | refine kp ?_ ?_ | refine tw ?_ ?_ | refine appnil rfl ?_ | refine rawnil rfl ?_ | exact trivial | refine side2 ?_ | refine sideL2 ?_ | refine Or.inr ?_ | refine sat_drawH (Tryd.ok ..) (by kernel_rfl) ?_ | refine xi _ (And.intro rfl rfl) ?_ | refine xi _ (fun _ => And.intro rfl rfl) ?_ | refine xi _ rfl ?_)
    (conv => whnf)
    refine calledQ_at (.v (.string emp)) rfl (fun _ w' hh => by
      have h := field_any ⟨#[70, 76, 68]⟩ (trimS (fldD i k t)) (.slice ad nd cd) i (-1) w' (ns_arg (frz_nest ns_stays hvd (d := 79) rfl hh))
      rw [fieldS_trim, (fieldF i k t).2.2.2.2] at h
      exact h) ?_
    repeat' ((conv => whnf); first | refine walk (Tryd.ok ..) ?_ | (refine Cnd.mk (fun h => ?_) (fun h => ?_) <;> (first | exact cndT h (by (try dsimp only); omega) | exact cndF h (by (try dsimp only); omega) | (exfalso; simp at h; omega) | simp at h | skip)) | refine kp ?_ ?_ | refine tw ?_ ?_ | refine appnil rfl ?_ | refine rawnil rfl ?_ | exact trivial | refine side2 ?_ | refine sideL2 ?_ | refine Or.inr ?_ | refine sat_drawH (Tryd.ok ..) (by kernel_rfl) ?_ | refine xi _ (And.intro rfl rfl) ?_ | refine xi _ (fun _ => And.intro rfl rfl) ?_ | refine xi _ rfl ?_)
    refine done_pure rfl rfl ?_
    simp only [SV.real, SV.r2, SV.r1]
    congr 1
    have hbt : (t == t) = true := (MapKept.bytes_beq _ _).2 rfl
    have hbe : (emp == (⟨#[]⟩ : ByteArray)) = true := (MapKept.bytes_beq _ _).2 rfl
    simp only [hbt, hbe, Bool.and_self]
  · (conv => whnf)
    refine called_nest 80 (mk := id) (Q := fun w B v => NS w B v (trimS (fldD i k t))) (fun v => .v v) (fun _ => rfl) (fun w' hh => by exact trim_any (fldD i k t) _ w' (ns_arg (frz_nest ns_stays hd (d := 78) rfl hh)) (fld_few hi29 hk10 _ List.mem_cons_self).seg_one) ?_
    intro w7 gs7 v7 h7
    obtain ⟨a7, n7, c7, rfl⟩ := ns_sl _ _ _ _ h7
    repeat' ((conv => whnf); first | ((with_reducible refine Or.inr (Cnd.mk (fun _ => ?_) (fun h => absurd h (by rw [hG]; simp))))) | refine walk (Tryd.ok ..) ?_ | (refine Cnd.mk (fun h => ?_) (fun h => ?_) <;> (first | exact cndT h (by (try dsimp only); omega) | exact cndF h (by (try dsimp only); omega) | (exfalso; simp at h; omega) | simp at h | skip)) | refine kp ?_ ?_ | refine tw ?_ ?_ | refine appnil rfl ?_ | refine rawnil rfl ?_ | exact trivial | refine side2 ?_ | refine sideL2 ?_ | refine Or.inr ?_ | refine xi _ (And.intro rfl rfl) ?_ | refine xi _ (fun _ => And.intro rfl rfl) ?_ | refine xi _ rfl ?_)
    · (conv => whnf)
      intro g107 hg107
      repeat' ((conv => whnf); first | ((with_reducible refine Or.inr (Cnd.mk (fun _ => ?_) (fun h => absurd h (by rw [hG]; simp))))) | refine walk (Tryd.ok ..) ?_ | (refine Cnd.mk (fun h => ?_) (fun h => ?_) <;> (first | exact cndT h (by (try dsimp only); omega) | exact cndF h (by (try dsimp only); omega) | (exfalso; simp at h; omega) | simp at h | skip)) | refine kp ?_ ?_ | refine tw ?_ ?_ | refine appnil rfl ?_ | refine rawnil rfl ?_ | exact trivial | refine side2 ?_ | refine sideL2 ?_ | refine Or.inr ?_ | refine xi _ (And.intro rfl rfl) ?_ | refine xi _ (fun _ => And.intro rfl rfl) ?_ | refine xi _ rfl ?_)
      (conv => whnf)
      intro g110 hg110
      repeat' ((conv => whnf); first | ((with_reducible refine Or.inr (Cnd.mk (fun _ => ?_) (fun h => absurd h (by rw [hG]; simp))))) | refine walk (Tryd.ok ..) ?_ | (refine Cnd.mk (fun h => ?_) (fun h => ?_) <;> (first | exact cndT h (by (try dsimp only); omega) | exact cndF h (by (try dsimp only); omega) | (exfalso; simp at h; omega) | simp at h | skip)) | refine kp ?_ ?_ | refine tw ?_ ?_ | refine appnil rfl ?_ | refine rawnil rfl ?_ | exact trivial | refine side2 ?_ | refine sideL2 ?_ | refine Or.inr ?_ | refine xi _ (And.intro rfl rfl) ?_ | refine xi _ (fun _ => And.intro rfl rfl) ?_ | refine xi _ rfl ?_)
      (conv => whnf)
      refine called_at (.v (.bool true)) rfl (fun w' hh => by
        have h107 := blk_nest NS hh 107 (g := g107) [trimS (fldD i k t)] [.slice ad nd cd] rfl rfl (by unfold maxLen; simp) rfl ⟨frz_nest ns_stays hvd (d := 79) rfl hh, trivial⟩
        have h110 := blk_nest NS hh 110 (g := g110) [trimS (fldD i k t)] [.slice a7 n7 c7] rfl rfl (by unfold maxLen; simp) rfl ⟨frz_nest ns_stays h7 (d := 80) rfl hh, trivial⟩
        have h := same_any [trimS (fldD i k t)] [trimS (fldD i k t)] _ _ w' (nl_arg h107) (nl_arg h110)
        rw [decide_eq_true rfl] at h
        exact h) ?_
      repeat' ((conv => whnf); first | refine walk (Tryd.ok ..) ?_ | (refine Cnd.mk (fun h => ?_) (fun h => ?_) <;> (first | exact cndT h (by (try dsimp only); omega) | exact cndF h (by (try dsimp only); omega) | (exfalso; simp at h; omega) | simp at h | skip)) | refine kp ?_ ?_ | refine tw ?_ ?_ | refine appnil rfl ?_ | refine rawnil rfl ?_ | exact trivial | refine side2 ?_ | refine sideL2 ?_ | refine Or.inr ?_ | refine sat_drawH (Tryd.ok ..) (by kernel_rfl) ?_ | refine xi _ (And.intro rfl rfl) ?_ | refine xi _ (fun _ => And.intro rfl rfl) ?_ | refine xi _ rfl ?_)
      · exact absurd (h0nd ‹t = _ ∧ _›.1) ‹t = _ ∧ _›.2
      (conv => whnf)
      refine called_at (.v (.string t)) rfl (fun w' hh => by
        have h := field_any ⟨#[70, 76, 68]⟩ (trimS (fldD i k t)) (.slice ad nd cd) i k w' (ns_arg (frz_nest ns_stays hvd (d := 79) rfl hh))
        rw [fieldS_trim, (fieldF i k t).1] at h
        exact h) ?_
      repeat' ((conv => whnf); first | refine walk (Tryd.ok ..) ?_ | (refine Cnd.mk (fun h => ?_) (fun h => ?_) <;> (first | exact cndT h (by (try dsimp only); omega) | exact cndF h (by (try dsimp only); omega) | (exfalso; simp at h; omega) | simp at h | skip)) | refine kp ?_ ?_ | refine tw ?_ ?_ | refine appnil rfl ?_ | refine rawnil rfl ?_ | exact trivial | refine side2 ?_ | refine sideL2 ?_ | refine Or.inr ?_ | refine sat_drawH (Tryd.ok ..) (by kernel_rfl) ?_ | refine xi _ (And.intro rfl rfl) ?_ | refine xi _ (fun _ => And.intro rfl rfl) ?_ | refine xi _ rfl ?_)
      (conv => whnf)
      refine calledQ_at (.v (.string emp)) rfl (fun _ w' hh => by
        have h := field_any ⟨#[70, 76, 68]⟩ (trimS (fldD i k t)) (.slice ad nd cd) i ((k : Int) + 1) w' (ns_arg (frz_nest ns_stays hvd (d := 79) rfl hh))
        rw [fieldS_trim, (fieldF i k t).2.1] at h
        exact h) ?_
      repeat' ((conv => whnf); first | refine walk (Tryd.ok ..) ?_ | (refine Cnd.mk (fun h => ?_) (fun h => ?_) <;> (first | exact cndT h (by (try dsimp only); omega) | exact cndF h (by (try dsimp only); omega) | (exfalso; simp at h; omega) | simp at h | skip)) | refine kp ?_ ?_ | refine tw ?_ ?_ | refine appnil rfl ?_ | refine rawnil rfl ?_ | exact trivial | refine side2 ?_ | refine sideL2 ?_ | refine Or.inr ?_ | refine sat_drawH (Tryd.ok ..) (by kernel_rfl) ?_ | refine xi _ (And.intro rfl rfl) ?_ | refine xi _ (fun _ => And.intro rfl rfl) ?_ | refine xi _ rfl ?_)
      (conv => whnf)
      refine calledQ_at (.v (.string emp)) rfl (fun _ w' hh => by
        have h := field_any ⟨#[70, 76, 68]⟩ (trimS (fldD i k t)) (.slice ad nd cd) ((i : Int) + 1) 0 w' (ns_arg (frz_nest ns_stays hvd (d := 79) rfl hh))
        rw [fieldS_trim, (fieldF i k t).2.2.1] at h
        exact h) ?_
      repeat' ((conv => whnf); first | refine walk (Tryd.ok ..) ?_ | (refine Cnd.mk (fun h => ?_) (fun h => ?_) <;> (first | exact cndT h (by (try dsimp only); omega) | exact cndF h (by (try dsimp only); omega) | (exfalso; simp at h; omega) | simp at h | skip)) | refine kp ?_ ?_ | refine tw ?_ ?_ | refine appnil rfl ?_ | refine rawnil rfl ?_ | exact trivial | refine side2 ?_ | refine sideL2 ?_ | refine Or.inr ?_ | refine sat_drawH (Tryd.ok ..) (by kernel_rfl) ?_ | refine xi _ (And.intro rfl rfl) ?_ | refine xi _ (fun _ => And.intro rfl rfl) ?_ | refine xi _ rfl ?_)
      (conv => whnf)
      refine calledQ_at (.v (.string emp)) rfl (fun _ w' hh => by
        have h := field_any ⟨#[70, 76, 68]⟩ (trimS (fldD i k t)) (.slice ad nd cd) (-1) k w' (ns_arg (frz_nest ns_stays hvd (d := 79) rfl hh))
        rw [fieldS_trim, (fieldF i k t).2.2.2.1] at h
        exact h) ?_
      repeat' ((conv => whnf); first | refine walk (Tryd.ok ..) ?_ | (refine Cnd.mk (fun h => ?_) (fun h => ?_) <;> (first | exact cndT h (by (try dsimp only); omega) | exact cndF h (by (try dsimp only); omega) | (exfalso; simp at h; omega) | simp at h | skip)) | refine kp ?_ ?_ | refine tw ?_ ?_ | refine appnil rfl ?_ | refine rawnil rfl ?_ | exact trivial | refine side2 ?_ | refine sideL2 ?_ | refine Or.inr ?_ | refine sat_drawH (Tryd.ok ..) (by kernel_rfl) ?_ | refine xi _ (And.intro rfl rfl) ?_ | refine xi _ (fun _ => And.intro rfl rfl) ?_ | refine xi _ rfl ?_)
      (conv => whnf)
      refine calledQ_at (.v (.string emp)) rfl (fun _ w' hh => by
        have h := field_any ⟨#[70, 76, 68]⟩ (trimS (fldD i k t)) (.slice ad nd cd) i (-1) w' (ns_arg (frz_nest ns_stays hvd (d := 79) rfl hh))
        rw [fieldS_trim, (fieldF i k t).2.2.2.2] at h
        exact h) ?_
      repeat' ((conv => whnf); first | refine walk (Tryd.ok ..) ?_ | (refine Cnd.mk (fun h => ?_) (fun h => ?_) <;> (first | exact cndT h (by (try dsimp only); omega) | exact cndF h (by (try dsimp only); omega) | (exfalso; simp at h; omega) | simp at h | skip)) | refine kp ?_ ?_ | refine tw ?_ ?_ | refine appnil rfl ?_ | refine rawnil rfl ?_ | exact trivial | refine side2 ?_ | refine sideL2 ?_ | refine Or.inr ?_ | refine sat_drawH (Tryd.ok ..) (by kernel_rfl) ?_ | refine xi _ (And.intro rfl rfl) ?_ | refine xi _ (fun _ => And.intro rfl rfl) ?_ | refine xi _ rfl ?_)
      refine done_pure rfl rfl ?_
      simp only [SV.real, SV.r2, SV.r1]
      congr 1
      have hbt : (t == t) = true := (MapKept.bytes_beq _ _).2 rfl
      have hbe : (emp == (⟨#[]⟩ : ByteArray)) = true := (MapKept.bytes_beq _ _).2 rfl
      simp only [hbt, hbe, Bool.and_self]
    · (conv => whnf)
      intro g110 hg110
      repeat' ((conv => whnf); first | ((with_reducible refine Or.inr (Cnd.mk (fun _ => ?_) (fun h => absurd h (by rw [hG]; simp))))) | refine walk (Tryd.ok ..) ?_ | (refine Cnd.mk (fun h => ?_) (fun h => ?_) <;> (first | exact cndT h (by (try dsimp only); omega) | exact cndF h (by (try dsimp only); omega) | (exfalso; simp at h; omega) | simp at h | skip)) | refine kp ?_ ?_ | refine tw ?_ ?_ | refine appnil rfl ?_ | refine rawnil rfl ?_ | exact trivial | refine side2 ?_ | refine sideL2 ?_ | refine Or.inr ?_ | refine xi _ (And.intro rfl rfl) ?_ | refine xi _ (fun _ => And.intro rfl rfl) ?_ | refine xi _ rfl ?_)
      (conv => whnf)
      intro g107 hg107
      repeat' ((conv => whnf); first | ((with_reducible refine Or.inr (Cnd.mk (fun _ => ?_) (fun h => absurd h (by rw [hG]; simp))))) | refine walk (Tryd.ok ..) ?_ | (refine Cnd.mk (fun h => ?_) (fun h => ?_) <;> (first | exact cndT h (by (try dsimp only); omega) | exact cndF h (by (try dsimp only); omega) | (exfalso; simp at h; omega) | simp at h | skip)) | refine kp ?_ ?_ | refine tw ?_ ?_ | refine appnil rfl ?_ | refine rawnil rfl ?_ | exact trivial | refine side2 ?_ | refine sideL2 ?_ | refine Or.inr ?_ | refine xi _ (And.intro rfl rfl) ?_ | refine xi _ (fun _ => And.intro rfl rfl) ?_ | refine xi _ rfl ?_)
      (conv => whnf)
      refine called_at (.v (.bool true)) rfl (fun w' hh => by
        have h107 := blk_nest NS hh 107 (g := g107) [trimS (fldD i k t)] [.slice ad nd cd] rfl rfl (by unfold maxLen; simp) rfl ⟨frz_nest ns_stays hvd (d := 79) rfl hh, trivial⟩
        have h110 := blk_nest NS hh 110 (g := g110) [trimS (fldD i k t)] [.slice a7 n7 c7] rfl rfl (by unfold maxLen; simp) rfl ⟨frz_nest ns_stays h7 (d := 80) rfl hh, trivial⟩
        have h := same_any [trimS (fldD i k t)] [trimS (fldD i k t)] _ _ w' (nl_arg h107) (nl_arg h110)
        rw [decide_eq_true rfl] at h
        exact h) ?_
      repeat' ((conv => whnf); first | refine walk (Tryd.ok ..) ?_ | (refine Cnd.mk (fun h => ?_) (fun h => ?_) <;> (first | exact cndT h (by (try dsimp only); omega) | exact cndF h (by (try dsimp only); omega) | (exfalso; simp at h; omega) | simp at h | skip)) | refine kp ?_ ?_ | refine tw ?_ ?_ | refine appnil rfl ?_ | refine rawnil rfl ?_ | exact trivial | refine side2 ?_ | refine sideL2 ?_ | refine Or.inr ?_ | refine sat_drawH (Tryd.ok ..) (by kernel_rfl) ?_ | refine xi _ (And.intro rfl rfl) ?_ | refine xi _ (fun _ => And.intro rfl rfl) ?_ | refine xi _ rfl ?_)
      · exact absurd (h0nd ‹t = _ ∧ _›.1) ‹t = _ ∧ _›.2
      (conv => whnf)
      refine called_at (.v (.string t)) rfl (fun w' hh => by
        have h := field_any ⟨#[70, 76, 68]⟩ (trimS (fldD i k t)) (.slice ad nd cd) i k w' (ns_arg (frz_nest ns_stays hvd (d := 79) rfl hh))
        rw [fieldS_trim, (fieldF i k t).1] at h
        exact h) ?_
      repeat' ((conv => whnf); first | refine walk (Tryd.ok ..) ?_ | (refine Cnd.mk (fun h => ?_) (fun h => ?_) <;> (first | exact cndT h (by (try dsimp only); omega) | exact cndF h (by (try dsimp only); omega) | (exfalso; simp at h; omega) | simp at h | skip)) | refine kp ?_ ?_ | refine tw ?_ ?_ | refine appnil rfl ?_ | refine rawnil rfl ?_ | exact trivial | refine side2 ?_ | refine sideL2 ?_ | refine Or.inr ?_ | refine sat_drawH (Tryd.ok ..) (by kernel_rfl) ?_ | refine xi _ (And.intro rfl rfl) ?_ | refine xi _ (fun _ => And.intro rfl rfl) ?_ | refine xi _ rfl ?_)
      (conv => whnf)
      refine calledQ_at (.v (.string emp)) rfl (fun _ w' hh => by
        have h := field_any ⟨#[70, 76, 68]⟩ (trimS (fldD i k t)) (.slice ad nd cd) i ((k : Int) + 1) w' (ns_arg (frz_nest ns_stays hvd (d := 79) rfl hh))
        rw [fieldS_trim, (fieldF i k t).2.1] at h
        exact h) ?_
      repeat' ((conv => whnf); first | refine walk (Tryd.ok ..) ?_ | (refine Cnd.mk (fun h => ?_) (fun h => ?_) <;> (first | exact cndT h (by (try dsimp only); omega) | exact cndF h (by (try dsimp only); omega) | (exfalso; simp at h; omega) | simp at h | skip)) | refine kp ?_ ?_ | refine tw ?_ ?_ | refine appnil rfl ?_ | refine rawnil rfl ?_ | exact trivial | refine side2 ?_ | refine sideL2 ?_ | refine Or.inr ?_ | refine sat_drawH (Tryd.ok ..) (by kernel_rfl) ?_ | refine xi _ (And.intro rfl rfl) ?_ | refine xi _ (fun _ => And.intro rfl rfl) ?_ | refine xi _ rfl ?_)
      (conv => whnf)
      refine calledQ_at (.v (.string emp)) rfl (fun _ w' hh => by
        have h := field_any ⟨#[70, 76, 68]⟩ (trimS (fldD i k t)) (.slice ad nd cd) ((i : Int) + 1) 0 w' (ns_arg (frz_nest ns_stays hvd (d := 79) rfl hh))
        rw [fieldS_trim, (fieldF i k t).2.2.1] at h
        exact h) ?_
      repeat' ((conv => whnf); first | refine walk (Tryd.ok ..) ?_ | (refine Cnd.mk (fun h => ?_) (fun h => ?_) <;> (first | exact cndT h (by (try dsimp only); omega) | exact cndF h (by (try dsimp only); omega) | (exfalso; simp at h; omega) | simp at h | skip)) | refine kp ?_ ?_ | refine tw ?_ ?_ | refine appnil rfl ?_ | refine rawnil rfl ?_ | exact trivial | refine side2 ?_ | refine sideL2 ?_ | refine Or.inr ?_ | refine sat_drawH (Tryd.ok ..) (by kernel_rfl) ?_ | refine xi _ (And.intro rfl rfl) ?_ | refine xi _ (fun _ => And.intro rfl rfl) ?_ | refine xi _ rfl ?_)
      (conv => whnf)
      refine calledQ_at (.v (.string emp)) rfl (fun _ w' hh => by
        have h := field_any ⟨#[70, 76, 68]⟩ (trimS (fldD i k t)) (.slice ad nd cd) (-1) k w' (ns_arg (frz_nest ns_stays hvd (d := 79) rfl hh))
        rw [fieldS_trim, (fieldF i k t).2.2.2.1] at h
        exact h) ?_
      repeat' ((conv => whnf); first | refine walk (Tryd.ok ..) ?_ | (refine Cnd.mk (fun h => ?_) (fun h => ?_) <;> (first | exact cndT h (by (try dsimp only); omega) | exact cndF h (by (try dsimp only); omega) | (exfalso; simp at h; omega) | simp at h | skip)) | refine kp ?_ ?_ | refine tw ?_ ?_ | refine appnil rfl ?_ | refine rawnil rfl ?_ | exact trivial | refine side2 ?_ | refine sideL2 ?_ | refine Or.inr ?_ | refine sat_drawH (Tryd.ok ..) (by kernel_rfl) ?_ | refine xi _ (And.intro rfl rfl) ?_ | refine xi _ (fun _ => And.intro rfl rfl) ?_ | refine xi _ rfl ?_)
      (conv => whnf)
      refine calledQ_at (.v (.string emp)) rfl (fun _ w' hh => by
        have h := field_any ⟨#[70, 76, 68]⟩ (trimS (fldD i k t)) (.slice ad nd cd) i (-1) w' (ns_arg (frz_nest ns_stays hvd (d := 79) rfl hh))
        rw [fieldS_trim, (fieldF i k t).2.2.2.2] at h
        exact h) ?_
      repeat' ((conv => whnf); first | refine walk (Tryd.ok ..) ?_ | (refine Cnd.mk (fun h => ?_) (fun h => ?_) <;> (first | exact cndT h (by (try dsimp only); omega) | exact cndF h (by (try dsimp only); omega) | (exfalso; simp at h; omega) | simp at h | skip)) | refine kp ?_ ?_ | refine tw ?_ ?_ | refine appnil rfl ?_ | refine rawnil rfl ?_ | exact trivial | refine side2 ?_ | refine sideL2 ?_ | refine Or.inr ?_ | refine sat_drawH (Tryd.ok ..) (by kernel_rfl) ?_ | refine xi _ (And.intro rfl rfl) ?_ | refine xi _ (fun _ => And.intro rfl rfl) ?_ | refine xi _ rfl ?_)
      refine done_pure rfl rfl ?_
      simp only [SV.real, SV.r2, SV.r1]
      congr 1
      have hbt : (t == t) = true := (MapKept.bytes_beq _ _).2 rfl
      have hbe : (emp == (⟨#[]⟩ : ByteArray)) = true := (MapKept.bytes_beq _ _).2 rfl
      simp only [hbt, hbe, Bool.and_self]
end Go.Proofs.YtdohcglpcgahaaaDoor
