/-
  The walks of the hydro package: operations, one after the other.
-/
import Derived.Test.YtomhfakkebaciaaH11
set_option linter.unusedSimpArgs false
set_option linter.unusedVariables false
namespace Go.Proofs.Ytomhfakkebaciaa
open Go Sat Go.RowKit Go.PlainAid
def chainE : Fr → List (Fr → Fr × Int) → Fr × Int
  | f, [] => (f, 0)
  | f, o :: l => if (o f).2 = 0 then chainE (o f).1 l else (zeroF, (o f).2)
theorem line_chain (a b p q : Int) (x : Fr) : lineE a b x p q = chainE x [fun f => subE f (ofF p), fun f => mulE f (ofF (b - a)), fun f => divE f (ofF (q - p)), fun f => addE f (ofF a)] := rfl
def bysV (l : List (Nat × Nat)) : List Value := l.map fun p => byV p.1 p.2
set_option maxRecDepth 100000 in
theorem chain_any (f : Fr) (ops : List (Fr → Fr × Int)) (ps : List (Nat × Nat)) (A : Option (Nat × Nat)) (cap : Nat) (w : World) (hf : Big f) (hl : ops.length = ps.length) (hl2 : ps.length ≤ 1000) (hA : Ro w A ps.length 1 (bysV ps))
    (hc : ∀ (k : Nat) (o : Fr → Fr × Int) (p : Nat × Nat), ops[k]? = some o → ps[k]? = some p → ∀ (g : Fr) (w' : World), Big g → Below w.heap.size w w' → Calls Try.prog 49 #[frV g, ptrV p.1, ptrV p.2] w' fun e w2 => e = .returned (.tuple #[frV (o g).1, .int .i64 (o g).2]) ∧ Below w'.heap.size w' w2)
    (hb : ∀ o ∈ ops, ∀ g, Big (o g).1) :
    Calls Try.prog 50 #[frV f, .slice (adr A) ps.length cap] w fun e w' => e = .returned (.tuple #[frV (chainE f ops).1, .int .i64 (chainE f ops).2]) ∧ Below w.heap.size w w' := by
  have lf := frC_len f
  have lz := frC_len zeroF
  refine calls_sat (cx := Try.cx 29 [] [] [] w) (Try.ok ..) Try.func50 rfl [.a (frC f), .o 100 A ps.length cap] rfl (by show 2 ≤ 29; omega) [(100, .ro A ps.length 1 (bysV ps))] (holds_ros rfl rfl ⟨hA, trivial⟩) ?_
  repeat' ((conv => whnf); first | refine walk (Try.ok ..) ?_ | (refine Cnd.mk (fun h => ?_) (fun h => ?_) <;> (first | exact cndT h (by (try dsimp only); omega) | exact cndF h (by (try dsimp only); omega) | (exfalso; simp at h; omega) | simp at h | skip)) | refine kp ?_ ?_ | refine tw ?_ ?_ | exact trivial | refine side2 ?_ | refine sideL2 ?_ | refine Or.inr ?_ | refine sat_drawH (Try.ok ..) (by kernel_rfl) ?_ | refine xi _ (And.intro rfl rfl) ?_ | refine xi _ (fun _ => And.intro rfl rfl) ?_ | refine xi _ rfl ?_)
  (conv => whnf)
  intro g2 hg2
  repeat' ((conv => whnf); first | refine walk (Try.ok ..) ?_ | (refine Cnd.mk (fun h => ?_) (fun h => ?_) <;> (first | exact cndT h (by (try dsimp only); omega) | exact cndF h (by (try dsimp only); omega) | (exfalso; simp at h; omega) | simp at h | skip)) | refine kp ?_ ?_ | refine tw ?_ ?_ | exact trivial | refine side2 ?_ | refine sideL2 ?_ | refine Or.inr ?_ | refine sat_drawH (Try.ok ..) (by kernel_rfl) ?_ | refine xi _ (And.intro rfl rfl) ?_ | refine xi _ (fun _ => And.intro rfl rfl) ?_ | refine xi _ rfl ?_)
  (conv => whnf)
  intro g4 hg4
  repeat' ((conv => whnf); first | refine walk (Try.ok ..) ?_ | (refine Cnd.mk (fun h => ?_) (fun h => ?_) <;> (first | exact cndT h (by (try dsimp only); omega) | exact cndF h (by (try dsimp only); omega) | (exfalso; simp at h; omega) | simp at h | skip)) | refine kp ?_ ?_ | refine tw ?_ ?_ | exact trivial | refine side2 ?_ | refine sideL2 ?_ | refine Or.inr ?_ | refine sat_drawH (Try.ok ..) (by kernel_rfl) ?_ | refine xi _ (And.intro rfl rfl) ?_ | refine xi _ (fun _ => And.intro rfl rfl) ?_ | refine xi _ rfl ?_)
  refine sat_loop (Try.ok ..) (α := Nat × Fr) (fun s => ([(1, .yes, .o 100 A ps.length cap), (2, .yes, .p 2 g2 0 0), (4, .yes, .p 4 g4 0 0), (5, .yes, .v (.int .i64 0)), (10, .yes, .o 100 A ps.length cap), (11, .yes, .v (.int .i64 ps.length)), (12, .yes, .v (.int .i64 s.1))], [(2, .blk g2 26 (frC s.2)), (4, .blk g4 26 (frC zeroF)), (100, .ro A ps.length 1 (bysV ps))]))
    (fun s => s.1 ≤ ps.length ∧ Big s.2 ∧ chainE f ops = chainE s.2 (ops.drop s.1)) (fun s => ps.length - s.1) (fun _ => rfl) ?_ ?_
  · refine ⟨(0, f), ⟨by omega, hf, rfl⟩, ?_, ?_, rfl⟩
    all_goals ((repeat' (first | exact trivial | exact rfl | refine And.intro ?_ ?_)) <;> (try (conv => whnf)) <;> (try simp only [SV.real, SV.r2, SV.r1]))
  rintro ⟨k, X⟩ ⟨hk, hX, he⟩
  dsimp only at hk hX he
  have lX := frC_len X
  by_cases hk1 : k < ps.length
  case neg =>
    obtain rfl : k = ps.length := by omega
    rw [List.drop_of_length_le (by omega)] at he
    rw [he]
    repeat' ((conv => whnf); first | refine walk (Try.ok ..) ?_ | (refine Cnd.mk (fun h => ?_) (fun h => ?_) <;> (first | exact cndT h (by (try dsimp only); omega) | exact cndF h (by (try dsimp only); omega) | (exfalso; simp at h; omega) | simp at h | skip)) | refine kp ?_ ?_ | refine tw ?_ ?_ | exact trivial | refine side2 ?_ | refine sideL2 ?_ | refine Or.inr ?_ | refine sat_drawH (Try.ok ..) (by kernel_rfl) ?_ | refine xi _ (And.intro rfl rfl) ?_ | refine xi _ (fun _ => And.intro rfl rfl) ?_ | refine xi _ rfl ?_)
    exact done_pure rfl rfl (congrArg (fun l => (SV.t [.a l, .v (.int .i64 0)]).real) (tk2 X))
  obtain ⟨p, hp⟩ : ∃ a, ps[k]? = some a := ⟨_, List.getElem?_eq_getElem hk1⟩
  obtain ⟨o, ho⟩ : ∃ a, ops[k]? = some a := ⟨_, List.getElem?_eq_getElem (by omega)⟩
  have hdr : ops.drop k = o :: ops.drop (k + 1) := by
    obtain ⟨h1, h2⟩ := List.getElem?_eq_some_iff.1 ho
    rw [List.drop_eq_getElem_cons h1, h2]
  rw [hdr] at he
  have hbo := hb o (List.mem_of_getElem? ho) X
  have hcall := hc k o p ho hp X
  obtain ⟨r, hr⟩ : ∃ r, r = o X := ⟨_, rfl⟩
  have he2 : chainE f ops = if r.2 = 0 then chainE r.1 (ops.drop (k + 1)) else (zeroF, r.2) := by rw [he, hr]; rfl
  rw [← hr] at hbo hcall
  clear he
  have lr := frC_len r.1
  have hfn : (bysV ps)[mulS (k : Int).toNat 1]? = some (byV p.1 p.2) := by
    rw [mulS_eq, Int.toNat_natCast, Nat.mul_one]
    unfold bysV
    rw [List.getElem?_map, hp]
    rfl
  repeat' ((conv => whnf); first | refine walk (Try.ok ..) ?_ | (refine Cnd.mk (fun h => ?_) (fun h => ?_) <;> (first | exact cndT h (by (try dsimp only); omega) | exact cndF h (by (try dsimp only); omega) | (exfalso; simp at h; omega) | simp at h | skip)) | refine kp ?_ ?_ | refine tw ?_ ?_ | exact trivial | refine side2 ?_ | refine sideL2 ?_ | refine Or.inr ?_ | refine sat_drawH (Try.ok ..) (by kernel_rfl) ?_ | refine xi _ (And.intro rfl rfl) ?_ | refine xi _ (fun _ => And.intro rfl rfl) ?_ | refine xi _ rfl ?_ | refine xi _ (fun _ => hfn) ?_ | refine xi _ hfn ?_)
  (conv => whnf)
  refine called_at (.t [.a (frC r.1), .v (.int .i64 r.2)]) rfl (fun w' hh => by
    have h := hcall w' hX (below_of rfl rfl hh)
    rw [show frV X = (SV.a (List.take 17 (List.drop 0 (frC X)))).real from by rw [tk1]; rfl] at h
    exact h) ?_
  repeat' ((conv => whnf); first | refine walk (Try.ok ..) ?_ | (refine Cnd.mk (fun h => ?_) (fun h => ?_) <;> (first | exact cndT h (by (try dsimp only); omega) | exact cndF h (by (try dsimp only); omega) | (exfalso; simp at h; omega) | simp at h | skip)) | refine kp ?_ ?_ | refine tw ?_ ?_ | exact trivial | refine side2 ?_ | refine sideL2 ?_ | refine Or.inr ?_ | refine sat_drawH (Try.ok ..) (by kernel_rfl) ?_ | refine xi _ (And.intro rfl rfl) ?_ | refine xi _ (fun _ => And.intro rfl rfl) ?_ | refine xi _ rfl ?_)
  (conv => whnf)
  intro g8 hg8
  by_cases h0 : r.2 = 0
  · rw [if_pos h0] at he2
    repeat' ((conv => whnf); first | refine walk (Try.ok ..) ?_ | (refine Cnd.mk (fun h => ?_) (fun h => ?_) <;> (first | exact cndT h (by (try dsimp only); omega) | exact cndF h (by (try dsimp only); omega) | (exfalso; simp at h; omega) | simp at h | skip)) | refine kp ?_ ?_ | refine tw ?_ ?_ | exact trivial | refine side2 ?_ | refine sideL2 ?_ | refine Or.inr ?_ | refine sat_drawH (Try.ok ..) (by kernel_rfl) ?_ | refine xi _ (And.intro rfl rfl) ?_ | refine xi _ (fun _ => And.intro rfl rfl) ?_ | refine xi _ rfl ?_)
    refine ⟨(k + 1, r.1), ⟨⟨by dsimp only; omega, hbo, he2⟩, by dsimp only; omega⟩, ?_, ?_, rfl⟩
    all_goals ((repeat' (first | exact trivial | exact rfl | refine And.intro ?_ ?_)) <;> (try (conv => whnf)) <;> (try simp only [SV.real, SV.r2, SV.r1]))
  · rw [if_neg h0] at he2
    rw [he2]
    repeat' ((conv => whnf); first | refine walk (Try.ok ..) ?_ | (refine Cnd.mk (fun h => ?_) (fun h => ?_) <;> (first | exact cndT h (by (try dsimp only); omega) | exact cndF h (by (try dsimp only); omega) | (exfalso; simp at h; omega) | simp at h | skip)) | refine kp ?_ ?_ | refine tw ?_ ?_ | exact trivial | refine side2 ?_ | refine sideL2 ?_ | refine Or.inr ?_ | refine sat_drawH (Try.ok ..) (by kernel_rfl) ?_ | refine xi _ (And.intro rfl rfl) ?_ | refine xi _ (fun _ => And.intro rfl rfl) ?_ | refine xi _ rfl ?_)
    exact done_pure rfl rfl (congrArg (fun l => (SV.t [.a l, .v (.int .i64 r.2)]).real) (show _ = frC zeroF from rfl))
end Go.Proofs.Ytomhfakkebaciaa
