/-
  The example of the chapter, walked.
-/
import Derived.Test.YtdohcglpcgahaaaDoorSD
import Derived.Test.YtdohcglpcgahaaaDoorSW
import Derived.Test.YtdohcglpcgahaaaDoorSF
set_option linter.unusedSimpArgs false
set_option linter.unusedVariables false
namespace Go.Proofs.YtdohcglpcgahaaaDoor
open Go Sat Go.RowKit Go.PlainAid
def exD1 : Dat := [[ba [49, 52, 55]], [ba [48, 48, 49, 48, 49, 56, 50]]]
def exD2 : Dat := [[ba [67, 78], ba []], [ba [67, 83, 81, 85, 51, 48, 53, 52, 51, 56, 51]], [ba [], ba []]]
def exM : Msg := ⟨ba [66, 65, 89, 80, 76, 78], ba [86, 49], [(ba [76, 79, 67], exD1), (ba [69, 81, 68], exD2)]⟩
/-- literal cells of one's own, several to an element -/
theorem blk_nestz {α : Type} {z : Nat} (R : LiesC α) {cx : Cx} {H : Heap} {w : World} (L : List Nat) (id : Nat) {g T : Nat} {cs : List SV} (l : List α) (xs : List Value) (hw : Holds cx H w) (hf : hfind H id = some (.blk g T cs)) (hi : memN L id = true) (hxs : cs.map SV.r1 = xs) (hm : l.length ≤ maxLen) {n : Nat} (hn : n = l.length) (hl : xs.length = l.length * z) (hx : ∀ (i : Nat) (a : α), l[i]? = some a → R w (fun g => g ∈ gsOf H L) (cut1 xs z i) a) : NestZ z R w (fun g => g ∈ gsOf H L) (.slice (some ⟨g, 0, none⟩) n n) l := by
  subst hn hxs
  have hb : (HB.blk g T cs).holds cx w := hw.at_ hf
  refine ⟨_, some (g, 0), l.length, cs.map SV.r1, rfl, ⟨fun _ => rfl⟩, ⟨Nat.le_refl _, hm⟩, ⟨hl, fun _ => ⟨(g, 0), rfl, heap_lt hb.2, fun j u hu => ?_⟩⟩, fun p hp _ => gs_sub hi hf (by cases hp; exact List.mem_singleton_self _), hx⟩
  rw [Lib.cell_of_heap hb.2]
  simpa using hu
theorem two_at {α : Type} {P : Nat → α → Prop} {x y : α} (h0 : P 0 x) (h1 : P 1 y) : ∀ (i : Nat) (a : α), [x, y][i]? = some a → P i a := by
  intro i a h
  match i, h with
  | 0, h => cases h; exact h0
  | 1, h => cases h; exact h1
  | i + 2, h => simp at h
theorem one_at {α : Type} {P : Nat → α → Prop} {x : α} (h0 : P 0 x) : ∀ (i : Nat) (a : α), [x][i]? = some a → P i a := by
  intro i a h
  match i, h with
  | 0, h => cases h; exact h0
  | i + 1, h => simp at h
set_option maxRecDepth 100000 in
set_option maxHeartbeats 8000000 in
theorem example_any (w : World) : Calls Tryd.prog 31 #[] w (Gives (fun v => .agg #[.string exM.kind, .string exM.ref, v]) (fun w B v => NSegs NS w B v exM.segs) w) := by
  refine calls_sat (cx := Tryd.cx 12 [] [] [] w) (Tryd.ok ..) Tryd.func31 rfl [] rfl (by show 0 ≤ 12; omega) [] (holds_nil (Nat.le_refl _)) ?_
  repeat' ((conv => whnf); first | refine walk (Tryd.ok ..) ?_ | (refine Cnd.mk (fun h => ?_) (fun h => ?_) <;> (first | exact cndT h (by (try dsimp only); omega) | exact cndF h (by (try dsimp only); omega) | (exfalso; simp at h; omega) | simp at h | skip)) | refine kp ?_ ?_ | refine tw ?_ ?_ | refine appnil rfl ?_ | refine rawnil rfl ?_ | exact trivial | refine side2 ?_ | refine sideL2 ?_ | refine Or.inr ?_ | refine sat_drawH (Tryd.ok ..) (by kernel_rfl) ?_ | refine xi _ (And.intro rfl rfl) ?_ | refine xi _ (fun _ => And.intro rfl rfl) ?_ | refine xi _ rfl ?_ | intro g hg)
  rename_i g0 hg0 g1 hg1 g2 hg2 g3 hg3 g5 hg5 g6 hg6 g7 hg7 g8 hg8
  refine done_fuse (v := .slice (some ⟨g, 0, none⟩) 2 2) rfl rfl [10, 8, 7, 6, 5, 3, 2, 1] (fun w' hw => ?_) rfl
  have h1 := blk_ownN Text [10, 8, 7, 6, 5, 3, 2, 1] 1 (g := g1) [ba [49, 52, 55]] [.string ⟨#[49, 52, 55]⟩] hw rfl rfl rfl (by unfold maxLen; simp) rfl ⟨rfl, trivial⟩
  have h2 := blk_ownN Text [10, 8, 7, 6, 5, 3, 2, 1] 2 (g := g2) [ba [48, 48, 49, 48, 49, 56, 50]] [.string ⟨#[48, 48, 49, 48, 49, 56, 50]⟩] hw rfl rfl rfl (by unfold maxLen; simp) rfl ⟨rfl, trivial⟩
  have h5 := blk_ownN Text [10, 8, 7, 6, 5, 3, 2, 1] 5 (g := g5) [ba [67, 78], ba []] [.string ⟨#[67, 78]⟩, .string ⟨#[]⟩] hw rfl rfl rfl (by unfold maxLen; simp) rfl ⟨rfl, rfl, trivial⟩
  have h6 := blk_ownN Text [10, 8, 7, 6, 5, 3, 2, 1] 6 (g := g6) [ba [67, 83, 81, 85, 51, 48, 53, 52, 51, 56, 51]] [.string ⟨#[67, 83, 81, 85, 51, 48, 53, 52, 51, 56, 51]⟩] hw rfl rfl rfl (by unfold maxLen; simp) rfl ⟨rfl, trivial⟩
  have h7 := blk_ownN Text [10, 8, 7, 6, 5, 3, 2, 1] 7 (g := g7) [ba [], ba []] [.string ⟨#[]⟩, .string ⟨#[]⟩] hw rfl rfl rfl (by unfold maxLen; simp) rfl ⟨rfl, rfl, trivial⟩
  have h3 := blk_ownN NE [10, 8, 7, 6, 5, 3, 2, 1] 3 (g := g3) exD1 [.slice (some ⟨g1, 0, none⟩) 1 1, .slice (some ⟨g2, 0, none⟩) 1 1] hw rfl rfl rfl (by unfold maxLen; simp [exD1]) rfl ⟨h1, h2, trivial⟩
  have h8 := blk_ownN NE [10, 8, 7, 6, 5, 3, 2, 1] 8 (g := g8) exD2 [.slice (some ⟨g5, 0, none⟩) 2 2, .slice (some ⟨g6, 0, none⟩) 1 1, .slice (some ⟨g7, 0, none⟩) 2 2] hw rfl rfl rfl (by unfold maxLen; simp [exD2]) rfl ⟨h5, h6, h7, trivial⟩
  exact blk_nestz (SegR NS) [10, 8, 7, 6, 5, 3, 2, 1] 10 exM.segs [.string ⟨#[76, 79, 67]⟩, .slice (some ⟨g3, 0, none⟩) 2 2, .string ⟨#[69, 81, 68]⟩, .slice (some ⟨g8, 0, none⟩) 3 3] hw rfl rfl rfl (by unfold maxLen; simp [exM]) rfl rfl (two_at ⟨_, rfl, h3⟩ ⟨_, rfl, h8⟩)
end Go.Proofs.YtdohcglpcgahaaaDoor
