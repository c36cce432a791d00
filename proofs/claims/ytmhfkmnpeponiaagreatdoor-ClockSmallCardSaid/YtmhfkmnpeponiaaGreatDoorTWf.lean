/-
  What the walks of texts ask of a world: the tables and errors of Go's library, and the names of the days, as they are laid. It stays where only memory is added.
-/
import Derived.Test.YtmhfkmnpeponiaaGreatDoorTText
import Derived.Test.YtmhfkmnpeponiaaGreatDoorC17
import Derived.Lib.LaidTab
set_option linter.unusedSimpArgs false
set_option linter.unusedVariables false
namespace Go.Proofs.YtmhfkmnpeponiaaGreatDoor
open Go Sat Go.RowKit Go.PlainAid
structure Wf (w : World) : Prop where
  tab : Lib.TabIs Tryz.prog w "internal/strconv.uint64pow10" .u64 Lib.pow10Tab
  syn : ∃ tp p, w.var? Tryz.prog "strconv.ErrSyntax" = some #[.iface tp p]
  rng : ∃ tp p, w.var? Tryz.prog "strconv.ErrRange" = some #[.iface tp p]
  top : ∃ m, w.cell? ⟨4, 0, none⟩ = some (.int .i64 m)
  days : Ro w (some (0, 0)) 7 1 (dayN.map Value.string)
theorem var_below {P : Program} {w w' : World} {B : Nat} {s : String} {cs : Array Value} (h : w.var? P s = some cs) (hb : Below B w w') (hB : w.heap.size ≤ B) : w'.var? P s = some cs := by
  unfold World.var? at h ⊢
  rw [Option.bind_eq_some_iff] at h ⊢
  obtain ⟨g, h1, h2⟩ := h
  refine ⟨g, h1, ?_⟩
  split at h2
  · rename_i cs' t o e
    rw [hb.block g (Nat.lt_of_lt_of_le (heap_lt e) hB), e]
    exact h2
  · cases h2
theorem Wf.mono {w w' : World} {B : Nat} (h : Wf w) (hb : Below B w w') (hB : w.heap.size ≤ B) : Wf w' := by
  refine ⟨var_below h.tab hb hB, ?_, ?_, ?_, h.days.mono hb hB⟩
  · obtain ⟨tp, p, h1⟩ := h.syn
    exact ⟨tp, p, var_below h1 hb hB⟩
  · obtain ⟨tp, p, h1⟩ := h.rng
    exact ⟨tp, p, var_below h1 hb hB⟩
  · obtain ⟨m, h1⟩ := h.top
    refine ⟨m, ?_⟩
    have hlt : 4 < w.heap.size := by
      unfold World.cell? at h1
      split at h1
      · rename_i e
        exact heap_lt e
      · cases h1
    rw [← h1]
    exact World.cell?_of_block (hb.block _ (Nat.lt_of_lt_of_le hlt hB))
theorem Wf.at_ {cx : Cx} {H : Heap} {w : World} (h : Wf cx.W) (hn : cx.n0 = cx.W.heap.size) (hM : cx.M = []) (hw : Holds cx H w) : Wf w := h.mono (below_of hn hM hw) (Nat.le_refl _)
end Go.Proofs.YtmhfkmnpeponiaaGreatDoor
