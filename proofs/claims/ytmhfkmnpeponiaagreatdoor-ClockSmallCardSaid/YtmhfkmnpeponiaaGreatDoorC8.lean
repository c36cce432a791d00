/-
  The walks of the clock package and of its reference: what a list tells; one time more behind spans.
-/
import Derived.Test.YtmhfkmnpeponiaaGreatDoorC7
namespace Go.Proofs.YtmhfkmnpeponiaaGreatDoor
open Go Sat Go.RowKit Go.PlainAid
set_option linter.unusedSimpArgs false
set_option linter.unusedVariables false
set_option maxRecDepth 100000 in
set_option maxHeartbeats 8000000 in
theorem told_few (A : Option (Nat × Nat)) (n cap : Nat) (hn : n ≤ 1000) (w : World) : Calls Tryz.prog 54 #[.slice (adr A) n cap] w fun e w' => e = .returned (.tuple #[.slice (adr A) n cap, .int .i64 0]) ∧ Below w.heap.size w w' := by
  refine calls_sat (cx := Tryz.cx 8 [] [] [] w) (Tryz.ok ..) Tryz.func54 rfl [.o 100 A n cap] rfl (by show 1 ≤ 8; omega) [] (holds_nil (Nat.le_refl _)) ?_
  repeat' ((conv => whnf); first | refine walk (Tryz.ok ..) ?_ | refine walk (COk.with_ (Tryz.ok ..) _ _) ?_ | refine walk (COk.with_ (COk.with_ (Tryz.ok ..) _ _) _ _) ?_ | (refine Cnd.mk (fun h => ?_) (fun h => ?_) <;> (first | exact cndT h (by (try dsimp only); omega) | exact cndF h (by (try dsimp only); omega) | (exfalso; simp at h; omega) | simp at h | skip)) | refine kp ?_ ?_ | refine tw ?_ ?_ | exact trivial | refine side ?_ | refine sideL ?_ | refine Or.inr ?_ | refine sat_drawH (Tryz.ok ..) (by kernel_rfl) ?_ | refine sat_drawH (COk.with_ (Tryz.ok ..) _ _) (by kernel_rfl) ?_ | refine sat_drawH (COk.with_ (COk.with_ (Tryz.ok ..) _ _) _ _) (by kernel_rfl) ?_ | refine xi _ (And.intro rfl rfl) ?_ | refine xi _ (fun _ => And.intro rfl rfl) ?_ | refine xi _ rfl ?_)
  exact done_pure rfl rfl rfl
set_option maxRecDepth 100000 in
set_option maxHeartbeats 8000000 in
theorem told_many (A : Option (Nat × Nat)) (n cap : Nat) (hn : 1000 < n) (w : World) : Calls Tryz.prog 54 #[.slice (adr A) n cap] w fun e w' => e = .returned (.tuple #[.slice none 0 0, .int .i64 5]) ∧ Below w.heap.size w w' := by
  refine calls_sat (cx := Tryz.cx 8 [] [] [] w) (Tryz.ok ..) Tryz.func54 rfl [.o 100 A n cap] rfl (by show 1 ≤ 8; omega) [] (holds_nil (Nat.le_refl _)) ?_
  repeat' ((conv => whnf); first | refine walk (Tryz.ok ..) ?_ | refine walk (COk.with_ (Tryz.ok ..) _ _) ?_ | refine walk (COk.with_ (COk.with_ (Tryz.ok ..) _ _) _ _) ?_ | (refine Cnd.mk (fun h => ?_) (fun h => ?_) <;> (first | exact cndT h (by (try dsimp only); omega) | exact cndF h (by (try dsimp only); omega) | (exfalso; simp at h; omega) | simp at h | skip)) | refine kp ?_ ?_ | refine tw ?_ ?_ | exact trivial | refine side ?_ | refine sideL ?_ | refine Or.inr ?_ | refine sat_drawH (Tryz.ok ..) (by kernel_rfl) ?_ | refine sat_drawH (COk.with_ (Tryz.ok ..) _ _) (by kernel_rfl) ?_ | refine sat_drawH (COk.with_ (COk.with_ (Tryz.ok ..) _ _) _ _) (by kernel_rfl) ?_ | refine xi _ (And.intro rfl rfl) ?_ | refine xi _ (fun _ => And.intro rfl rfl) ?_ | refine xi _ rfl ?_)
  exact done_pure rfl rfl rfl
theorem addT_nil {x : Int} : addT [] x = [⟨x, x + 1⟩] := rfl
theorem addT_touch {m : List Sp} {z : Sp} {x : Int} (ht : z.t = x) : addT (m ++ [z]) x = m ++ [⟨z.f, x + 1⟩] := by
  unfold addT
  rw [List.getLast?_concat, List.dropLast_concat]
  dsimp only
  rw [if_pos ht]
theorem addT_more {m : List Sp} {z : Sp} {x : Int} (ht : ¬ z.t = x) : addT (m ++ [z]) x = m ++ [z] ++ [⟨x, x + 1⟩] := by
  unfold addT
  rw [List.getLast?_concat]
  dsimp only
  rw [if_neg ht]
theorem radd_called (n0 : Nat) (M : List Nat) (W : World) (R : Heap) (hR : Above R 200) (A : Option (Nat × Nat)) (cap : Nat) (l : List Sp) (x : Int) (hx : 0 ≤ x ∧ x ≤ 100000000) (hl : l.length ≤ 100000001)
    {K : SV → Heap → Prop} (hk : ∀ A' cap', K (.o 101 A' (addT l x).length cap') ((101, .row A' 81 2 (addT l x).length cap' (sps (addT l x))) :: R)) :
    Called (Tryz.cxg 35 [] [] [] n0 M W) 55 [.o 101 A l.length cap, .v (.int .i64 x)] ((101, .row A 81 2 l.length cap (sps l)) :: R) K := by
  refine called_in (Tryz.ok ..) Tryz.func55 rfl (by show 2 ≤ 35; omega) ?_
  have hd : ∀ d, d < 200 → hdel R d = R := fun d h => hdel_above hR h
  have hd33 := hd 33 (by omega)
  have hd101 := hd 101 (by omega)
  rcases List.eq_nil_or_concat l with rfl | ⟨m, z, hm⟩
  · have hnil := addT_nil (x := x)
    repeat' ((conv => whnf); first | refine walk (Tryz.ok ..) ?_ | refine walk (COk.with_ (Tryz.ok ..) _ _) ?_ | refine walk (COk.with_ (COk.with_ (Tryz.ok ..) _ _) _ _) ?_ | (refine Cnd.mk (fun h => ?_) (fun h => ?_) <;> (first | exact cndT h (by (try dsimp only); omega) | exact cndF h (by (try dsimp only); omega) | (exfalso; simp at h; omega) | simp at h | skip)) | refine kp ?_ ?_ | refine tw ?_ ?_ | exact trivial | refine side ?_ | refine sideL ?_ | refine Or.inr ?_ | refine sat_drawH (Tryz.ok ..) (by kernel_rfl) ?_ | refine sat_drawH (COk.with_ (Tryz.ok ..) _ _) (by kernel_rfl) ?_ | refine sat_drawH (COk.with_ (COk.with_ (Tryz.ok ..) _ _) _ _) (by kernel_rfl) ?_ | refine xi _ (And.intro rfl rfl) ?_ | refine xi _ (fun _ => And.intro rfl rfl) ?_ | refine xi _ rfl ?_ | refine xi _ (fun _ => (no_ld rfl)) ?_ | refine xi _ (no_ld rfl) ?_)
    intro g33 hg33
    repeat' ((conv => whnf); first | refine walk (Tryz.ok ..) ?_ | refine walk (COk.with_ (Tryz.ok ..) _ _) ?_ | refine walk (COk.with_ (COk.with_ (Tryz.ok ..) _ _) _ _) ?_ | (refine Cnd.mk (fun h => ?_) (fun h => ?_) <;> (first | exact cndT h (by (try dsimp only); omega) | exact cndF h (by (try dsimp only); omega) | (exfalso; simp at h; omega) | simp at h | skip)) | refine kp ?_ ?_ | refine tw ?_ ?_ | exact trivial | refine side ?_ | refine sideL ?_ | refine Or.inr ?_ | refine sat_drawH (Tryz.ok ..) (by kernel_rfl) ?_ | refine sat_drawH (COk.with_ (Tryz.ok ..) _ _) (by kernel_rfl) ?_ | refine sat_drawH (COk.with_ (COk.with_ (Tryz.ok ..) _ _) _ _) (by kernel_rfl) ?_ | refine xi _ (And.intro rfl rfl) ?_ | refine xi _ (fun _ => And.intro rfl rfl) ?_ | refine xi _ rfl ?_)
    intro A2 cap2
    repeat' ((conv => whnf); first | refine walk (Tryz.ok ..) ?_ | refine walk (COk.with_ (Tryz.ok ..) _ _) ?_ | refine walk (COk.with_ (COk.with_ (Tryz.ok ..) _ _) _ _) ?_ | (refine Cnd.mk (fun h => ?_) (fun h => ?_) <;> (first | exact cndT h (by (try dsimp only); omega) | exact cndF h (by (try dsimp only); omega) | (exfalso; simp at h; omega) | simp at h | skip)) | refine kp ?_ ?_ | refine tw ?_ ?_ | exact trivial | refine side ?_ | refine sideL ?_ | refine Or.inr ?_ | refine sat_drawH (Tryz.ok ..) (by kernel_rfl) ?_ | refine sat_drawH (COk.with_ (Tryz.ok ..) _ _) (by kernel_rfl) ?_ | refine sat_drawH (COk.with_ (COk.with_ (Tryz.ok ..) _ _) _ _) (by kernel_rfl) ?_ | refine xi _ (And.intro rfl rfl) ?_ | refine xi _ (fun _ => And.intro rfl rfl) ?_ | refine xi _ rfl ?_)
    refine done_inS ((101, .row A2 81 2 [(⟨x, x + 1⟩ : Sp)].length cap2 (sps [⟨x, x + 1⟩])) :: R) ?_ ?_
    · intro e he
      simp only [hdel, Nat.beq, cond, hd33, hd101, List.mem_cons] at he ⊢
      rcases he with rfl | he
      · exact .inl rfl
      · simp [he]
    · exact hk A2 cap2
  · rw [List.concat_eq_append] at hm
    subst hm
    have hlen : (m ++ [z]).length = m.length + 1 := by simp
    have hz : ∀ i : Int, i = m.length → (sps (m ++ [z]))[mulS i.toNat 2 + 1]? = some (.int .i64 z.t) := fun i hi => at_t (last_snoc (m := m) (z := z)) hi
    have hb : mulS ((((m ++ [z]).length : Nat) : Int) - 1).toNat 2 + 1 < (sps (m ++ [z])).length := by
      rw [mulS_eq, sps_len]
      omega
    repeat' ((conv => whnf); first | refine walk (Tryz.ok ..) ?_ | refine walk (COk.with_ (Tryz.ok ..) _ _) ?_ | refine walk (COk.with_ (COk.with_ (Tryz.ok ..) _ _) _ _) ?_ | (refine Cnd.mk (fun h => ?_) (fun h => ?_) <;> (first | exact cndT h (by (try dsimp only); omega) | exact cndF h (by (try dsimp only); omega) | (exfalso; simp at h; omega) | simp at h | skip)) | refine kp ?_ ?_ | refine tw ?_ ?_ | exact trivial | refine side ?_ | refine sideL ?_ | refine Or.inr ?_ | refine sat_drawH (Tryz.ok ..) (by kernel_rfl) ?_ | refine sat_drawH (COk.with_ (Tryz.ok ..) _ _) (by kernel_rfl) ?_ | refine sat_drawH (COk.with_ (COk.with_ (Tryz.ok ..) _ _) _ _) (by kernel_rfl) ?_ | refine xi _ (And.intro rfl rfl) ?_ | refine xi _ (fun _ => And.intro rfl rfl) ?_ | refine xi _ rfl ?_ | refine xi _ (fun _ => (fun _ => hz _ (by omega))) ?_ | refine xi _ (fun _ => hz _ (by omega)) ?_)
    · refine done_inS ((101, .row A 81 2 (m ++ [z]).length cap (sps (m ++ [⟨z.f, x + 1⟩]))) :: R) ?_ ?_
      · intro e he
        have e2 := sps_set (m := m) (z := z) (k := mulS ((((m ++ [z]).length : Nat) : Int) - 1).toNat 2 + 1) (y := x + 1) (by rw [mulS_eq]; omega)
        simp only [hdel, Nat.beq, cond, hd33, hd101, List.mem_cons] at he ⊢
        rw [← e2] at he
        rcases he with rfl | he
        · exact .inl rfl
        · simp [he]
      · have := hk A cap
        rw [addT_touch h] at this
        have e3 : (m ++ [(⟨z.f, x + 1⟩ : Sp)]).length = (m ++ [z]).length := by simp
        rw [e3] at this
        exact this
    intro g33 hg33
    repeat' ((conv => whnf); first | refine walk (Tryz.ok ..) ?_ | refine walk (COk.with_ (Tryz.ok ..) _ _) ?_ | refine walk (COk.with_ (COk.with_ (Tryz.ok ..) _ _) _ _) ?_ | (refine Cnd.mk (fun h => ?_) (fun h => ?_) <;> (first | exact cndT h (by (try dsimp only); omega) | exact cndF h (by (try dsimp only); omega) | (exfalso; simp at h; omega) | simp at h | skip)) | refine kp ?_ ?_ | refine tw ?_ ?_ | exact trivial | refine side ?_ | refine sideL ?_ | refine Or.inr ?_ | refine sat_drawH (Tryz.ok ..) (by kernel_rfl) ?_ | refine sat_drawH (COk.with_ (Tryz.ok ..) _ _) (by kernel_rfl) ?_ | refine sat_drawH (COk.with_ (COk.with_ (Tryz.ok ..) _ _) _ _) (by kernel_rfl) ?_ | refine xi _ (And.intro rfl rfl) ?_ | refine xi _ (fun _ => And.intro rfl rfl) ?_ | refine xi _ rfl ?_)
    intro A2 cap2
    repeat' ((conv => whnf); first | refine walk (Tryz.ok ..) ?_ | refine walk (COk.with_ (Tryz.ok ..) _ _) ?_ | refine walk (COk.with_ (COk.with_ (Tryz.ok ..) _ _) _ _) ?_ | (refine Cnd.mk (fun h => ?_) (fun h => ?_) <;> (first | exact cndT h (by (try dsimp only); omega) | exact cndF h (by (try dsimp only); omega) | (exfalso; simp at h; omega) | simp at h | skip)) | refine kp ?_ ?_ | refine tw ?_ ?_ | exact trivial | refine side ?_ | refine sideL ?_ | refine Or.inr ?_ | refine sat_drawH (Tryz.ok ..) (by kernel_rfl) ?_ | refine sat_drawH (COk.with_ (Tryz.ok ..) _ _) (by kernel_rfl) ?_ | refine sat_drawH (COk.with_ (COk.with_ (Tryz.ok ..) _ _) _ _) (by kernel_rfl) ?_ | refine xi _ (And.intro rfl rfl) ?_ | refine xi _ (fun _ => And.intro rfl rfl) ?_ | refine xi _ rfl ?_)
    refine done_inS ((101, .row A2 81 2 ((m ++ [z]).length + 1) cap2 (sps (m ++ [z] ++ [⟨x, x + 1⟩]))) :: R) ?_ ?_
    · intro e he
      simp only [hdel, Nat.beq, cond, hd33, hd101, List.mem_cons, sps_app (m ++ [z])] at he ⊢
      rcases he with rfl | he
      · exact .inl rfl
      · simp [he]
    · have := hk A2 cap2
      rw [addT_more h] at this
      have e3 : (m ++ [z] ++ [(⟨x, x + 1⟩ : Sp)]).length = (m ++ [z]).length + 1 := by simp
      rw [e3] at this
      exact this
end Go.Proofs.YtmhfkmnpeponiaaGreatDoor
