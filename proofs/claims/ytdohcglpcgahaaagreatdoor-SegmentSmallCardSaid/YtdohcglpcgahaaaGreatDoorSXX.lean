/-
  The example of the chapter, walked. The examples of the chapter, walked: awake.
-/
import Derived.Test.YtdohcglpcgahaaaGreatDoorSMX
import Derived.Test.YtdohcglpcgahaaaGreatDoorSWX
import Derived.Test.YtdohcglpcgahaaaGreatDoorSF
set_option linter.unusedSimpArgs false
set_option linter.unusedVariables false
namespace Go.Proofs.YtdohcglpcgahaaaGreatDoor
section
open Go Sat Go.RowKit Go.PlainAid
def exD1 : Dat := [[ba [49, 52, 55]], [ba [48, 48, 49, 48, 49, 56, 50]]]
def exD2 : Dat := [[ba [67, 78], ba []], [ba [67, 83, 81, 85, 51, 48, 53, 52, 51, 56, 51]], [ba [], ba []]]
def exM : Msg := ⟨ba [66, 65, 89, 80, 76, 78], ba [86, 49], [(ba [76, 79, 67], exD1), (ba [69, 81, 68], exD2)]⟩
/-- literal cells of one's own, several to an element -/
theorem blk_nestz {α : Type} {z : Nat} (R : LiesC α) {cx : Cx} {H : Heap} {w : World} (L : List Nat) (id : Nat) {g T : Nat} {cs : List SV} (l : List α) (xs : List Value) (hw : Holds cx H w) (hf : hfind H id = some (.blk g T cs)) (hi : memN L id = true) (hxs : cs.map SV.r1 = xs) (hm : l.length ≤ maxLen) {n : Nat} (hn : n = l.length) (hl : xs.length = l.length * z) (hx : ∀ (i : Nat) (a : α), l[i]? = some a → R w (fun g => g ∈ gsOf H L) (cut1 xs z i) a) : NestZ z R w (fun g => g ∈ gsOf H L) (.slice (some ⟨g, 0, none⟩) n n) l := by
  subst hn hxs
  have hb : (HB.blk g T cs).holds cx w := hw.at_ hf
  refine ⟨_, some (g, 0), l.length, cs.map SV.r1, rfl, ⟨fun _ => rfl⟩, ⟨Nat.le_refl _, hm⟩, ⟨hl, fun _ => ⟨(g, 0), rfl, heap_lt hb.2, fun j u hu => ?_⟩⟩, fun p hp _ => gs_sub hi hf (by cases hp; exact List.mem_singleton_self _), hx⟩
  rw [Lib.cell_of_heap hb.2]
  simpa using hu
theorem two_at {α : Type} {P : Nat → α → Prop} {x y : α} (h0 : P 0 x) (h1 : P 1 y) : ∀ (i : Nat) (a : α), [x, y][i]? = some a → P i a := by
  intro i a h
  match i, h with
  | 0, h => cases h; exact h0
  | 1, h => cases h; exact h1
  | i + 2, h => simp at h
theorem one_at {α : Type} {P : Nat → α → Prop} {x : α} (h0 : P 0 x) : ∀ (i : Nat) (a : α), [x][i]? = some a → P i a := by
  intro i a h
  match i, h with
  | 0, h => cases h; exact h0
  | i + 1, h => simp at h
set_option maxRecDepth 100000 in
set_option maxHeartbeats 8000000 in
theorem example_any (w : World) : Calls Tryz.prog 27 #[] w (Gives (fun v => .agg #[.string exM.kind, .string exM.ref, v]) (fun w B v => NSegs NS w B v exM.segs) w) := by
  refine calls_sat (cx := Tryz.cx 12 [] [] [] w) (Tryz.ok ..) Tryz.func27 rfl [] rfl (by show 0 ≤ 12; omega) [] (holds_nil (Nat.le_refl _)) ?_
  repeat' ((conv => whnf); first | refine walk (Tryz.ok ..) ?_ | (refine Cnd.mk (fun h => ?_) (fun h => ?_) <;> (first | exact cndT h (by (try dsimp only); omega) | exact cndF h (by (try dsimp only); omega) | (exfalso; simp at h; omega) | simp at h | skip)) | refine kp ?_ ?_ | refine tw ?_ ?_ | refine appnil rfl ?_ | refine rawnil rfl ?_ | exact trivial | refine side2 ?_ | refine sideL2 ?_ | refine Or.inr ?_ | refine sat_drawH (Tryz.ok ..) (by kernel_rfl) ?_ | refine xi _ (And.intro rfl rfl) ?_ | refine xi _ (fun _ => And.intro rfl rfl) ?_ | refine xi _ rfl ?_ | intro g hg)
  rename_i g0 hg0 g1 hg1 g2 hg2 g3 hg3 g5 hg5 g6 hg6 g7 hg7 g8 hg8
  refine done_fuse (v := .slice (some ⟨g, 0, none⟩) 2 2) rfl rfl [10, 8, 7, 6, 5, 3, 2, 1] (fun w' hw => ?_) rfl
  have h1 := blk_ownN Text [10, 8, 7, 6, 5, 3, 2, 1] 1 (g := g1) [ba [49, 52, 55]] [.string ⟨#[49, 52, 55]⟩] hw rfl rfl rfl (by unfold maxLen; simp) rfl ⟨rfl, trivial⟩
  have h2 := blk_ownN Text [10, 8, 7, 6, 5, 3, 2, 1] 2 (g := g2) [ba [48, 48, 49, 48, 49, 56, 50]] [.string ⟨#[48, 48, 49, 48, 49, 56, 50]⟩] hw rfl rfl rfl (by unfold maxLen; simp) rfl ⟨rfl, trivial⟩
  have h5 := blk_ownN Text [10, 8, 7, 6, 5, 3, 2, 1] 5 (g := g5) [ba [67, 78], ba []] [.string ⟨#[67, 78]⟩, .string ⟨#[]⟩] hw rfl rfl rfl (by unfold maxLen; simp) rfl ⟨rfl, rfl, trivial⟩
  have h6 := blk_ownN Text [10, 8, 7, 6, 5, 3, 2, 1] 6 (g := g6) [ba [67, 83, 81, 85, 51, 48, 53, 52, 51, 56, 51]] [.string ⟨#[67, 83, 81, 85, 51, 48, 53, 52, 51, 56, 51]⟩] hw rfl rfl rfl (by unfold maxLen; simp) rfl ⟨rfl, trivial⟩
  have h7 := blk_ownN Text [10, 8, 7, 6, 5, 3, 2, 1] 7 (g := g7) [ba [], ba []] [.string ⟨#[]⟩, .string ⟨#[]⟩] hw rfl rfl rfl (by unfold maxLen; simp) rfl ⟨rfl, rfl, trivial⟩
  have h3 := blk_ownN NE [10, 8, 7, 6, 5, 3, 2, 1] 3 (g := g3) exD1 [.slice (some ⟨g1, 0, none⟩) 1 1, .slice (some ⟨g2, 0, none⟩) 1 1] hw rfl rfl rfl (by unfold maxLen; simp [exD1]) rfl ⟨h1, h2, trivial⟩
  have h8 := blk_ownN NE [10, 8, 7, 6, 5, 3, 2, 1] 8 (g := g8) exD2 [.slice (some ⟨g5, 0, none⟩) 2 2, .slice (some ⟨g6, 0, none⟩) 1 1, .slice (some ⟨g7, 0, none⟩) 2 2] hw rfl rfl rfl (by unfold maxLen; simp [exD2]) rfl ⟨h5, h6, h7, trivial⟩
  exact blk_nestz (SegR NS) [10, 8, 7, 6, 5, 3, 2, 1] 10 exM.segs [.string ⟨#[76, 79, 67]⟩, .slice (some ⟨g3, 0, none⟩) 2 2, .string ⟨#[69, 81, 68]⟩, .slice (some ⟨g8, 0, none⟩) 3 3] hw rfl rfl rfl (by unfold maxLen; simp [exM]) rfl rfl (two_at ⟨_, rfl, h3⟩ ⟨_, rfl, h8⟩)
end
section
open Go Sat Go.RowKit Go.PlainAid
def exT : ByteArray := ⟨#[72, 69, 68, 43, 86, 49, 43, 66, 65, 89, 80, 76, 78, 39, 76, 79, 67, 43, 49, 52, 55, 43, 48, 48, 49, 48, 49, 56, 50, 39, 69, 81, 68, 43, 67, 78, 43, 67, 83, 81, 85, 51, 48, 53, 52, 51, 56, 51, 39, 69, 78, 68, 43, 52, 43, 86, 49, 39]⟩
def exT5 : ByteArray := ⟨#[72, 69, 68, 43, 86, 49, 43, 66, 65, 89, 80, 76, 78, 39, 76, 79, 67, 43, 49, 52, 55, 43, 48, 48, 49, 48, 49, 56, 50, 39, 69, 81, 68, 43, 67, 78, 43, 67, 83, 81, 85, 51, 48, 53, 52, 51, 56, 51, 39, 69, 78, 68, 43, 53, 43, 86, 49, 39]⟩
def exTB : ByteArray := ⟨#[76, 79, 67, 43, 49, 52, 55, 43, 48, 48, 49, 48, 49, 56, 50, 39, 69, 81, 68, 43, 67, 78, 43, 67, 83, 81, 85, 51, 48, 53, 52, 51, 56, 51, 39, 69, 78, 68, 43, 52, 43, 86, 49, 39]⟩
def exTL : ByteArray := ⟨#[72, 69, 68, 43, 86, 49, 43, 66, 65, 89, 80, 76, 78, 39, 76, 79, 43, 49, 52, 55, 43, 48, 48, 49, 48, 49, 56, 50, 39, 69, 81, 68, 43, 67, 78, 43, 67, 83, 81, 85, 51, 48, 53, 52, 51, 56, 51, 39]⟩
def exTT : ByteArray := ⟨#[72, 69, 68, 43, 86, 49, 43, 66, 65, 89, 80, 76, 78, 39, 76, 79, 67, 43, 49, 52, 55, 43, 48, 48, 49, 48, 49, 56, 50, 39, 69, 81, 68, 43, 67, 78, 43, 67, 83, 81, 85, 51, 48, 53, 52, 51, 56, 51, 39, 69, 78, 68, 43, 52, 43, 86, 49, 39, 72, 69, 68, 43, 86, 49, 43, 66, 65, 89, 80, 76, 78, 39, 76, 79, 67, 43, 49, 52, 55, 43, 48, 48, 49, 48, 49, 56, 50, 39, 69, 81, 68, 43, 67, 78, 43, 67, 83, 81, 85, 51, 48, 53, 52, 51, 56, 51, 39, 69, 78, 68, 43, 52, 43, 86, 49, 39]⟩
theorem eW : writeG [exM] = (exT, 0) := by kernel_rfl
theorem eR1 : readG exT5.data.toList = ([], 3, 52) := by kernel_rfl
theorem eR2 : readG exTB.data.toList = ([], 0, 51) := by kernel_rfl
theorem eR3 : readG exTL.data.toList = ([], 1, 50) := by kernel_rfl
theorem eR4 : readG exTT.data.toList = ([], 4, 53) := by kernel_rfl
theorem readG_lit {s : ByteArray} {a : List Msg × Int × Int} (h : readG s.data.toList = a) (w : World) (hw : WfT w) : Calls Tryz.prog 9 #[.string s] w (Gives (fun v => .tuple #[v, .int .i64 a.2.1, .int .i64 a.2.2]) (fun w B v => NMsgs NS w B v a.1) w) := by
  subst h
  exact readG_any s w hw
theorem writeG_lit {l : List Msg} {r : ByteArray × Int} (h : writeG l = r) (v : Value) (w : World) (hw : WfT w) (hA : NMsgs NSA w (fun _ => True) v l) (hf : ∀ m ∈ l, FewW m) (hmany : (segsL l).length ≤ 1000000) : Calls Tryz.prog 14 #[v] w fun e w' => e = .returned (.tuple #[.string r.1, .int .i64 r.2]) ∧ Below w.heap.size w w' := by
  subst h
  exact writeG_any l v w hw hA hf hmany
/-- all cells of an element of what is one's own -/
theorem frz_aggz {cx : Cx} {A : Option (Nat × Nat)} {n z d : Nat} {w0 : World} {gs : List Nat} {xs : List Value} {k i : Nat} {cs : List Value} (h : Ro w0 A n z xs) (hB : ∀ p, A = some p → 0 < n → p.1 ∈ gs) (hc : cut1 xs z i = cs) (hl : cs.length = z) (hk : k = i * z) (hi : i < n) {H : Heap} (hf : hfind H d = some (.own gs (Frz w0 gs))) : cs.length = z ∧ ∀ w, Holds cx H w → ∀ (j : Nat) (u : Value), cs[j]? = some u → w.cell? ((adAt (adr A) k).add j) = some u := by
  refine ⟨hl, fun w hw j u hu => ?_⟩
  have hj : j < z := by rw [← hl]; exact (List.getElem?_eq_some_iff.1 hu).1
  have hx : xs[k + j]? = some u := by rw [hk, cut1_at hc (by omega), hu]
  obtain ⟨p, rfl, hlt, hcell⟩ := h.2 (by omega)
  rw [← hcell (k + j) u hx, ad_some, add_mk]
  rw [Nat.add_assoc]
  exact World.cell?_of_block (frz_of hf hw p.1 (hB p rfl (by omega)))
theorem exM_few : ∀ m ∈ [exM], FewW m := by
  intro m hm
  rw [List.mem_singleton] at hm
  subst hm
  refine ⟨by decide, by decide, fun s hs => ?_⟩
  rcases List.mem_cons.1 hs with rfl | hs
  · exact ⟨⟨by decide, by decide⟩, ⟨by decide, fun e he => by
      rcases List.mem_cons.1 he with rfl | he
      · decide
      rw [List.mem_singleton] at he
      subst he
      decide⟩⟩
  rw [List.mem_singleton] at hs
  subst hs
  refine ⟨⟨by decide, by decide⟩, ⟨by decide, fun e he => ?_⟩⟩
  rcases List.mem_cons.1 he with rfl | he
  · decide
  rcases List.mem_cons.1 he with rfl | he
  · decide
  rw [List.mem_singleton] at he
  subst he
  decide
set_option maxRecDepth 100000 in
set_option maxHeartbeats 16000000 in
theorem awakeG_any (w : World) (hw : WfT w) : Calls Tryz.prog 8 #[] w fun e w' => e = .returned (.bool true) ∧ Below w.heap.size w w' := by
  refine calls_sat (cx := Tryz.cx 105 [] [] [] w) (Tryz.ok ..) Tryz.func8 rfl [] rfl (by show 0 ≤ 105; omega) [] (holds_nil (Nat.le_refl _)) ?_
  repeat' ((conv => whnf); first | refine walk (Tryz.ok ..) ?_ | fail)
  (conv => whnf)
  refine called_nest 900 (mk := fun v => .agg #[.string exM.kind, .string exM.ref, v]) (Q := fun w B v => NSegs NS w B v exM.segs) (fun v => .a [.v (.string exM.kind), .v (.string exM.ref), .v v]) (fun _ => rfl) (fun w' _ => by exact example_any w') ?_
  intro w1 gs1 v1 h1
  have h10 := h1
  obtain ⟨a1, A1, c1, xs1, rfl, aA1, hc1, hr1, hB1, hx1⟩ := h1
  obtain ⟨vd, hcs, hd⟩ := hx1 1 _ rfl
  obtain ⟨ad, nd, cd, hvd⟩ : ∃ a n c, vd = .slice a n c := by
    obtain ⟨A, cap, xs, hv, -⟩ := hd
    exact ⟨_, _, _, hv⟩
  subst hvd
  have hlen : exM.segs.length = 2 := rfl
  rw [hlen] at h10 aA1 hc1 hr1 hB1 ⊢
  obtain ⟨p1, rfl, rfl⟩ := some_ofz aA1 hr1 (by omega)
  skip
  (conv => whnf)
  intro g1 hg1
  repeat' ((conv => whnf); first | refine walk (Tryz.ok ..) ?_ | refine side2 ?_ | fail)
  (conv => whnf)
  intro g18 hg18
  skip
  (conv => whnf)
  refine called_at (.t [.v (.string exT), .v (.int .i64 0)]) rfl (fun w' hh => by
    have h18 := blk_nestz (z := 3) (MsgR NSA) [18, 900] 18 (g := g18) [exM] [.string exM.kind, .string exM.ref, .slice (adr (some p1)) 2 c1] hh rfl rfl rfl (by unfold maxLen; simp) rfl rfl (one_at ⟨_, rfl, nsegs_arg (frz_nest' (nsegs_stays ns_stays) h10 (d := 900) rfl hh (fun g hg => gs_sub (i := 900) rfl rfl hg))⟩)
    exact writeG_lit eW _ w' (hw.at_ rfl rfl hh) (nmsgs_stays nsa_stays _ _ _ _ _ _ h18 (fun _ _ _ => rfl) (fun _ _ => trivial)) exM_few (by decide)) ?_
  unfold exT
  repeat' ((conv => whnf); first | refine walk (Tryz.ok ..) ?_ | (refine Cnd.mk (fun h => ?_) (fun h => ?_) <;> (first | exact cndT h (by (try dsimp only); omega) | exact cndF h (by (try dsimp only); omega) | (exfalso; simp at h; omega) | simp at h | skip)) | refine side2 ?_ | fail)
  (conv => whnf)
  refine called_lay [.v (.string exT5)] _ (by kernel_rfl) (fun _ h => h) ?_
  refine called_nest 901 (mk := fun v => .tuple #[v, .int .i64 3, .int .i64 52]) (Q := fun w B v => NMsgs NS w B v []) (fun v => .t [.v v, .v (.int .i64 3), .v (.int .i64 52)]) (fun _ => rfl) (fun w' hh => by exact readG_lit eR1 w' (hw.at_ rfl rfl hh)) ?_
  intro w3 gs3 v3 h3
  repeat' ((conv => whnf); first | refine walk (Tryz.ok ..) ?_ | fail)
  (conv => whnf)
  refine called_lay [.v (.string exTB)] _ (by kernel_rfl) (fun _ h => h) ?_
  refine called_nest 902 (mk := fun v => .tuple #[v, .int .i64 0, .int .i64 51]) (Q := fun w B v => NMsgs NS w B v []) (fun v => .t [.v v, .v (.int .i64 0), .v (.int .i64 51)]) (fun _ => rfl) (fun w' hh => by exact readG_lit eR2 w' (hw.at_ rfl rfl hh)) ?_
  intro w4 gs4 v4 h4
  repeat' ((conv => whnf); first | refine walk (Tryz.ok ..) ?_ | refine side2 ?_ | fail)
  (conv => whnf)
  refine called_lay [.v (.string exTL)] _ (by kernel_rfl) (fun _ h => h) ?_
  refine called_nest 903 (mk := fun v => .tuple #[v, .int .i64 1, .int .i64 50]) (Q := fun w B v => NMsgs NS w B v []) (fun v => .t [.v v, .v (.int .i64 1), .v (.int .i64 50)]) (fun _ => rfl) (fun w' hh => by exact readG_lit eR3 w' (hw.at_ rfl rfl hh)) ?_
  intro w5 gs5 v5 h5
  repeat' ((conv => whnf); first | refine walk (Tryz.ok ..) ?_ | refine side2 ?_ | fail)
  (conv => whnf)
  refine called_lay [.v (.string exTT)] _ (by kernel_rfl) (fun _ h => h) ?_
  refine called_nest 904 (mk := fun v => .tuple #[v, .int .i64 4, .int .i64 53]) (Q := fun w B v => NMsgs NS w B v []) (fun v => .t [.v v, .v (.int .i64 4), .v (.int .i64 53)]) (fun _ => rfl) (fun w' hh => by exact readG_lit eR4 w' (hw.at_ rfl rfl hh)) ?_
  intro w6 gs6 v6 h6
  repeat' ((conv => whnf); first | refine walk (Tryz.ok ..) ?_ | (refine Cnd.mk (fun h => ?_) (fun h => ?_) <;> (first | exact cndT h (by (try dsimp only); omega) | exact cndF h (by (try dsimp only); omega) | (exfalso; simp at h; omega) | simp at h | skip)) | refine side2 ?_ | refine xi _ (And.intro rfl rfl) ?_ | refine xi _ (frz_aggz (d := 900) hr1 hB1 hcs rfl rfl (by omega) rfl) ?_ | fail)
  (conv => whnf)
  refine called_at (.v (.string ⟨#[67, 83, 81, 85, 51, 48, 53, 52, 51, 56, 51]⟩)) rfl (fun w' hh => by
    have h := field_any (ba [69, 81, 68]) exD2 (.slice ad nd cd) 1 0 w' (ns_arg (frz_nest ns_stays hd (d := 900) rfl hh))
    rw [show fieldS exD2 1 0 = ⟨#[67, 83, 81, 85, 51, 48, 53, 52, 51, 56, 51]⟩ by kernel_rfl] at h
    exact h) ?_
  repeat' ((conv => whnf); first | refine side2 ?_ | refine sideL2 ?_ | refine xi _ (fun _ => And.intro rfl rfl) ?_ | refine xi _ (fun _ => (frz_aggz (d := 900) hr1 hB1 hcs rfl rfl (by omega) rfl)) ?_ | fail)
  (conv => whnf)
  refine calledQ_at (.v (.string ⟨#[]⟩)) rfl (fun _ w' hh => by
    have h := field_any (ba [69, 81, 68]) exD2 (.slice ad nd cd) 1 1 w' (ns_arg (frz_nest ns_stays hd (d := 900) rfl hh))
    rw [show fieldS exD2 1 1 = ⟨#[]⟩ by kernel_rfl] at h
    exact h) ?_
  repeat' ((conv => whnf); first | refine side2 ?_ | refine sideL2 ?_ | refine xi _ (fun _ => And.intro rfl rfl) ?_ | refine xi _ (fun _ => (frz_aggz (d := 900) hr1 hB1 hcs rfl rfl (by omega) rfl)) ?_ | fail)
  (conv => whnf)
  refine calledQ_at (.v (.string ⟨#[]⟩)) rfl (fun _ w' hh => by
    have h := field_any (ba [69, 81, 68]) exD2 (.slice ad nd cd) 2 0 w' (ns_arg (frz_nest ns_stays hd (d := 900) rfl hh))
    rw [show fieldS exD2 2 0 = ⟨#[]⟩ by kernel_rfl] at h
    exact h) ?_
  repeat' ((conv => whnf); first | refine walk (Tryz.ok ..) ?_ | refine side2 ?_ | fail)
  exact done_pure rfl rfl rfl
end
end Go.Proofs.YtdohcglpcgahaaaGreatDoor
