/-
  A strings.Builder of one's own: its checks, a byte more, its length, its string.
-/
import Derived.Test.YtdohcglpcgahaaaGreatDoorRX
import Derived.Test.YtdohcglpcgahaaaGreatDoorW1
import Derived.Test.YtdohcglpcgahaaaGreatDoorSH
import Derived.Shelf.Strings.Builder1
set_option linter.unusedSimpArgs false
set_option linter.unusedVariables false
namespace Go.Proofs.YtdohcglpcgahaaaGreatDoor
open Go Sat Go.RowKit Go.PlainAid
theorem lays240 : Go.Proofs.Lays.n240 Tryz.prog Tryz.lays105_ren := Tryz.lays240b
theorem lays169 : Go.Proofs.Lays.n169 Tryz.prog Tryz.lays105_ren := Tryz.lays169b
/-- a builder and its bytes in memory -/
def bdH (g : Nat) (x : SV) (A : Option (Nat × Nat)) (cap : Nat) (l : List UInt8) : Heap := [(900, .blk g 97 [x, .o 901 A l.length cap]), (901, .row A 5 1 l.length cap (uB l))]
def bdX (g : Nat) (x : SV) : Prop := x = .v (.pointer none) ∨ x = .p 900 g 0 0
theorem copy_called {N n0 : Nat} {W : World} {K : SV → Heap → Prop} (g : Nat) (x : SV) (A : Option (Nat × Nat)) (cap : Nat) (l : List UInt8) (hx : bdX g x) (hk : K (.t []) (bdH g (.p 900 g 0 0) A cap l)) :
    Called (Tryz.cxg N [] [] [] n0 [] W) 76 [.p 900 g 0 0] (bdH g x A cap l) K := by
  refine ⟨fun w hw => ?_⟩
  have hb : (HB.blk g 97 [x, .o 901 A l.length cap]).holds _ w := hw.at_ (i := 900) rfl
  have hc : w.cell? ⟨g, 0, none⟩ = some x.r1 := by rw [Lib.cell_of_heap hb.2]; rfl
  rcases hx with rfl | rfl
  · refine (Any.Builder_copyCheck_fresh lays240 Tryz.Builder_Extra_105.toX72 g w hc ?_ ?_).mono ?_
    · simp only [World.shape?, hb.2]; rfl
    · simp only [World.frozen?, hb.2]; rfl
    rintro e w' ⟨rfl, rfl⟩
    refine ⟨.t [], _, rfl, ?_, hk⟩
    have h2 := hw.set_ (d := 900) rfl [.p 900 g 0 0, .o 901 A l.length cap]
    rw [setCell_eq_setRow w g 0 _ _ (0, 0) _ hb.2]
    exact h2.sub (hsub_of rfl)
  · refine (Any.Builder_copyCheck_used lays240 Tryz.Builder_Extra_105.toX72 g w hc).mono ?_
    rintro e w' ⟨rfl, rfl⟩
    exact ⟨.t [], _, rfl, hw, hk⟩
set_option maxRecDepth 100000 in
set_option maxHeartbeats 8000000 in
theorem byte_called {N n0 : Nat} {W : World} {K : SV → Heap → Prop} (g : Nat) (x : SV) (A : Option (Nat × Nat)) (cap : Nat) (l : List UInt8) (b : UInt8) (c : Int) (hc : c = b.toNat) (hx : bdX g x) (hl : l.length < 4294967296) (hk : ∀ A cap, K (.v .nilIface) (bdH g (.p 900 g 0 0) A cap (l ++ [b]))) :
    Called (Tryz.cxg N [] [] [] n0 [] W) 65 [.p 900 g 0 0, .v (.int .u8 c)] (bdH g x A cap l) K := by
  subst hc
  refine called_in (Tryz.ok ..) Tryz.func65 rfl (by show 2 ≤ 17; omega) ?_
  have eH : bdH g x A cap l = [(900, .blk g 97 [x, .o 901 A l.length cap]), (901, .row A 5 1 l.length cap (uB l))] := rfl
  rw [eH]
  repeat' ((conv => whnf); first | refine walk (Tryz.ok ..) ?_ | refine walk (COk.with_ (Tryz.ok ..) _ _) ?_ | refine walk (COk.with_ (COk.with_ (Tryz.ok ..) _ _) _ _) ?_ | (refine Cnd.mk (fun h => ?_) (fun h => ?_) <;> (first | exact cndT h (by (try dsimp only); omega) | exact cndF h (by (try dsimp only); omega) | (exfalso; simp at h; omega) | simp at h | skip)) | refine kp ?_ ?_ | refine tw ?_ ?_ | refine appnil rfl ?_ | refine rawnil rfl ?_ | exact trivial | refine side2 ?_ | refine sideL2 ?_ | refine Or.inr ?_ | refine sat_drawH (Tryz.ok ..) (by kernel_rfl) ?_ | refine sat_drawH (COk.with_ (Tryz.ok ..) _ _) (by kernel_rfl) ?_ | refine sat_drawH (COk.with_ (COk.with_ (Tryz.ok ..) _ _) _ _) (by kernel_rfl) ?_ | refine xi _ (And.intro rfl rfl) ?_ | refine xi _ (fun _ => And.intro rfl rfl) ?_ | refine xi _ rfl ?_)
  refine copy_called g x A cap l hx ?_
  unfold bdH
  repeat' ((conv => whnf); first | refine walk (Tryz.ok ..) ?_ | refine walk (COk.with_ (Tryz.ok ..) _ _) ?_ | refine walk (COk.with_ (COk.with_ (Tryz.ok ..) _ _) _ _) ?_ | (refine Cnd.mk (fun h => ?_) (fun h => ?_) <;> (first | exact cndT h (by (try dsimp only); omega) | exact cndF h (by (try dsimp only); omega) | (exfalso; simp at h; omega) | simp at h | skip)) | refine kp ?_ ?_ | refine tw ?_ ?_ | refine appnil rfl ?_ | refine rawnil rfl ?_ | exact trivial | refine side2 ?_ | refine sideL2 ?_ | refine Or.inr ?_ | refine sat_drawH (Tryz.ok ..) (by kernel_rfl) ?_ | refine sat_drawH (COk.with_ (Tryz.ok ..) _ _) (by kernel_rfl) ?_ | refine sat_drawH (COk.with_ (COk.with_ (Tryz.ok ..) _ _) _ _) (by kernel_rfl) ?_ | refine xi _ (And.intro rfl rfl) ?_ | refine xi _ (fun _ => And.intro rfl rfl) ?_ | refine xi _ rfl ?_)
  (conv => whnf)
  intro g13 hg13
  repeat' ((conv => whnf); first | refine walk (Tryz.ok ..) ?_ | refine walk (COk.with_ (Tryz.ok ..) _ _) ?_ | refine walk (COk.with_ (COk.with_ (Tryz.ok ..) _ _) _ _) ?_ | (refine Cnd.mk (fun h => ?_) (fun h => ?_) <;> (first | exact cndT h (by (try dsimp only); omega) | exact cndF h (by (try dsimp only); omega) | (exfalso; simp at h; omega) | simp at h | skip)) | refine kp ?_ ?_ | refine tw ?_ ?_ | refine appnil rfl ?_ | refine rawnil rfl ?_ | exact trivial | refine side2 ?_ | refine sideL2 ?_ | refine Or.inr ?_ | refine sat_drawH (Tryz.ok ..) (by kernel_rfl) ?_ | refine sat_drawH (COk.with_ (Tryz.ok ..) _ _) (by kernel_rfl) ?_ | refine sat_drawH (COk.with_ (COk.with_ (Tryz.ok ..) _ _) _ _) (by kernel_rfl) ?_ | refine xi _ (And.intro rfl rfl) ?_ | refine xi _ (fun _ => And.intro rfl rfl) ?_ | refine xi _ rfl ?_)
  (conv => whnf)
  intro A2 cap2
  repeat' ((conv => whnf); first | refine walk (Tryz.ok ..) ?_ | refine walk (COk.with_ (Tryz.ok ..) _ _) ?_ | refine walk (COk.with_ (COk.with_ (Tryz.ok ..) _ _) _ _) ?_ | (refine Cnd.mk (fun h => ?_) (fun h => ?_) <;> (first | exact cndT h (by (try dsimp only); omega) | exact cndF h (by (try dsimp only); omega) | (exfalso; simp at h; omega) | simp at h | skip)) | refine kp ?_ ?_ | refine tw ?_ ?_ | refine appnil rfl ?_ | refine rawnil rfl ?_ | exact trivial | refine side2 ?_ | refine sideL2 ?_ | refine Or.inr ?_ | refine sat_drawH (Tryz.ok ..) (by kernel_rfl) ?_ | refine sat_drawH (COk.with_ (Tryz.ok ..) _ _) (by kernel_rfl) ?_ | refine sat_drawH (COk.with_ (COk.with_ (Tryz.ok ..) _ _) _ _) (by kernel_rfl) ?_ | refine xi _ (And.intro rfl rfl) ?_ | refine xi _ (fun _ => And.intro rfl rfl) ?_ | refine xi _ rfl ?_)
  have k := hk A2 cap2
  have e : uB (l ++ [b]) = uB l ++ [.int .u8 (b.toNat : Int)] := by unfold uB; rw [List.map_append]; rfl
  unfold bdH at k
  rw [e, List.length_append] at k
  exact done_inL _ rfl k
set_option maxRecDepth 100000 in
set_option maxHeartbeats 8000000 in
theorem len_called {N n0 : Nat} {W : World} {K : SV → Heap → Prop} (g : Nat) (x : SV) (A : Option (Nat × Nat)) (cap : Nat) (l : List UInt8) (hk : K (.v (.int .i64 l.length)) (bdH g x A cap l)) :
    Called (Tryz.cxg N [] [] [] n0 [] W) 54 [.p 900 g 0 0] (bdH g x A cap l) K := by
  refine called_in (Tryz.ok ..) Tryz.func54 rfl (by show 1 ≤ 8; omega) ?_
  have eH : bdH g x A cap l = [(900, .blk g 97 [x, .o 901 A l.length cap]), (901, .row A 5 1 l.length cap (uB l))] := rfl
  rw [eH] at hk ⊢
  repeat' ((conv => whnf); first | refine walk (Tryz.ok ..) ?_ | refine walk (COk.with_ (Tryz.ok ..) _ _) ?_ | refine walk (COk.with_ (COk.with_ (Tryz.ok ..) _ _) _ _) ?_ | (refine Cnd.mk (fun h => ?_) (fun h => ?_) <;> (first | exact cndT h (by (try dsimp only); omega) | exact cndF h (by (try dsimp only); omega) | (exfalso; simp at h; omega) | simp at h | skip)) | refine kp ?_ ?_ | refine tw ?_ ?_ | refine appnil rfl ?_ | refine rawnil rfl ?_ | exact trivial | refine side2 ?_ | refine sideL2 ?_ | refine Or.inr ?_ | refine sat_drawH (Tryz.ok ..) (by kernel_rfl) ?_ | refine sat_drawH (COk.with_ (Tryz.ok ..) _ _) (by kernel_rfl) ?_ | refine sat_drawH (COk.with_ (COk.with_ (Tryz.ok ..) _ _) _ _) (by kernel_rfl) ?_ | refine xi _ (And.intro rfl rfl) ?_ | refine xi _ (fun _ => And.intro rfl rfl) ?_ | refine xi _ rfl ?_)
  exact done_in hk
theorem str_called {N n0 : Nat} {W : World} {K : SV → Heap → Prop} (g : Nat) (x : SV) (A : Option (Nat × Nat)) (cap : Nat) (l : List UInt8) (hx : bdX g x) (hk : K (.v (.string (ba l))) []) :
    Called (Tryz.cxg N [] [] [] n0 [] W) 55 [.p 900 g 0 0] (bdH g x A cap l) K := by
  refine ⟨fun w hw => ?_⟩
  have hb : (HB.blk g 97 [x, .o 901 A l.length cap]).holds _ w := hw.at_ (i := 900) rfl
  have hr : w.ownsRow n0 5 1 (.slice (adr A) l.length cap) l.length (uB l) := hw.at_ (i := 901) rfl
  have hn : n0 ≤ g := by
    rcases hb.1 with h1 | h1
    · exact h1
    · cases h1
  have hne : (Value.slice (adr A) l.length cap).ownBlock ≠ some g := by
    intro h
    refine hw.sep 900 _ 901 _ (hfind_mem (i := 900) rfl) (hfind_mem (i := 901) rfl) (by decide) g (List.mem_singleton_self _) ?_
    cases A with
    | none => cases h
    | some p => cases h; exact List.mem_singleton_self _
  have hB : Lib.IsBuilder 97 5 n0 g (Lib.byteCells l) w := by
    have e : (Lib.byteCells l).length = l.length := Lib.byteCells_length l
    rcases hx with rfl | rfl
    · exact .inl ⟨hn, _, hb.2, by rw [e]; exact hr, hne⟩
    · exact .inr ⟨hn, _, hb.2, by rw [e]; exact hr, hne⟩
  have hsz : n0 ≤ w.heap.size := Nat.le_trans hw.n0 hw.keep.size
  refine (Any.Builder_String_any lays169 Tryz.Builder_Extra_105 n0 g l w hB hsz).mono ?_
  rintro e w' ⟨rfl, hbl⟩
  exact ⟨_, [], rfl, ⟨hw.keep.trans (Keep.of_below hbl (Nat.le_refl _)), hw.n0, (fun e he => by cases he), (fun i b j b' hi => by cases hi)⟩, hk⟩
end Go.Proofs.YtdohcglpcgahaaaGreatDoor
