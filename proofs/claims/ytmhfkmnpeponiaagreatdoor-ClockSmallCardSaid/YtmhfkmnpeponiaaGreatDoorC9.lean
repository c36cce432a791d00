/-
  The walks of the clock package: a span more, wherever the list lies; what two lists of spans have in common.
-/
import Derived.Test.YtmhfkmnpeponiaaGreatDoorC8
import Derived.Test.YtmhfkmnpeponiaaGreatDoorCQ
namespace Go.Proofs.YtmhfkmnpeponiaaGreatDoor
open Go Sat Go.RowKit Go.PlainAid
set_option linter.unusedSimpArgs false
set_option linter.unusedVariables false
/-- out.add(..), wherever it lies -/
theorem add_at {cx : Cx} (hP : Tryz.prog = cx.P) {H : Heap} {K : SV → Heap → Prop} (id r : Nat) {g : Nat} {A : Option (Nat × Nat)} {cap : Nat} {l : List Sp} {a b : Int} {f t : Int} (L : Heap) (hir : Nat.beq id r = false) (hL : freeOf [id, r] L = true)
    (hH : hsub H ((id, .blk g 86 [.o r A l.length cap]) :: (r, .row A 25 2 l.length cap (sps l)) :: L)) (hs : InR .i64 f ∧ InR .i64 t) (hl : l.length ≤ 1000000000000)
    (hk : ∀ A' cap', K (.t []) ((id, .blk g 86 [.o r A' (addS l (max f a) (min t b)).length cap']) :: (r, .row A' 25 2 (addS l (max f a) (min t b)).length cap' (sps (addS l (max f a) (min t b)))) :: L)) :
    Called cx 53 [.p id g 0 0, .a [.v (.int .i64 f), .v (.int .i64 t)], .v (.int .i64 a), .v (.int .i64 b)] H K := by
  refine called_ren [.p 100 g 0 0, .a [.v (.int .i64 f), .v (.int .i64 t)], .v (.int .i64 a), .v (.int .i64 b)] (lst g A cap l (up L)) (fun v H' => v = .t [] ∧ ∃ A' cap', H' = lst g A' cap' (addS l (max f a) (min t b)) (up L)) rfl
    (fun w hw => two_up (b1 := .blk g 86 [.o r A l.length cap]) (b1' := .blk g 86 [.o 101 A l.length cap]) hir hL (fun h => h) rfl (hw.sub hH)) (Called.cx_ (cx := Tryz.cxg 60 [5, 6] [] [] cx.n0 cx.M cx.W) hP rfl rfl rfl (add_called cx.n0 cx.M cx.W (up L) (up_above L) g A cap l ⟨f, t⟩ a b hs hl (fun A' cap' => ⟨rfl, A', cap', rfl⟩))) ?_
  rintro v1 H1 ⟨rfl, A', cap', rfl⟩
  exact ⟨.t [], _, rfl, fun w hw => up_down (b1 := .blk g 86 [.o 101 A' (addS l (max f a) (min t b)).length cap']) (b1' := .blk g 86 [.o r A' (addS l (max f a) (min t b)).length cap']) (fun h => h) rfl hw, hk A' cap'⟩
theorem heq_refl (b : HB) : heq b b := by
  cases b <;> simp [heq]
theorem at_d {l : List Sp} {off k i : Nat} {s : Sp} (hs : l[k + i]? = some s) (ho : off = k * 2) : (sC s).length = 2 ∧ ∀ j, j < 2 → (sps l)[off + mulS ((i : Int)).toNat 2 + j]? = (sC s)[j]? := by
  refine ⟨rfl, fun j hj => ?_⟩
  have e : off + mulS ((i : Int)).toNat 2 = (k + i) * 2 := by rw [mulS_eq, ho, Int.toNat_natCast]; omega
  rw [e]
  have h := sps_get hs
  rcases j with _ | _ | j
  · exact h.1
  · exact h.2
  · omega
def boOk (a b : List Sp) : Bool := apart a && apart b
def boL (a b : List Sp) : List Sp := if boOk a b ∧ (bothL a b).length ≤ 1000 then bothL a b else []
def boE (a b : List Sp) : Int := if boOk a b then (if (bothL a b).length ≤ 1000 then 0 else 5) else 2
theorem pc_len (s r : Sp) : (pc s r).length ≤ 1 := by unfold pc; split <;> simp
theorem rowTo_len (s : Sp) (b : List Sp) : ∀ n, (rowTo s b n).length ≤ n := by
  intro n
  induction n with
  | zero => simp [rowTo]
  | succ n ih =>
    rw [rowTo, List.length_append]
    cases b[n]? with
    | none => simp; omega
    | some r => have := pc_len s r; dsimp only; omega
theorem bothTo_len (a b : List Sp) : ∀ n, (bothTo a b n).length ≤ n * b.length := by
  intro n
  induction n with
  | zero => simp [bothTo]
  | succ n ih =>
    rw [bothTo, List.length_append, Nat.succ_mul]
    cases a[n]? with
    | none => simp; omega
    | some s => have := rowTo_len s b b.length; dsimp only; omega
theorem bothTo_at {a b : List Sp} {n : Nat} {s : Sp} (h : a[n]? = some s) : bothTo a b (n + 1) = bothTo a b n ++ rowTo s b b.length := by rw [bothTo, h]
end Go.Proofs.YtmhfkmnpeponiaaGreatDoor
