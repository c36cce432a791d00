/-
  What the walk of Spans shows, as a statement: other walks are told it.
-/
import Derived.Test.YtmhfkmnpeponiaaGreatDoorC15P
set_option linter.unusedSimpArgs false
set_option linter.unusedVariables false
namespace Go.Proofs.YtmhfkmnpeponiaaGreatDoor
open Go Sat Go.RowKit Go.PlainAid
def SpansAny : Prop := ∀ (l c : List Sp) (A B : Option (Nat × Nat)) (cA cB : Nat) (a b : Int) (w : World), Ro w A l.length 2 (sps l) → Ro w B c.length 2 (sps c) → l.length ≤ 4611686018427387903 → c.length ≤ 4611686018427387903 → c.length ≤ cB →
    Calls Tryz.prog 16 #[.agg #[.slice (adr A) l.length cA, .slice (adr B) c.length cB], .int .i64 a, .int .i64 b] w fun e w' => ∃ v, e = .returned (.tuple #[v, .int .i64 (snE l c a b)]) ∧ w'.ownsRow w.heap.size 25 2 v (snL l c a b).length (sps (snL l c a b)) ∧ Below w.heap.size w w'
end Go.Proofs.YtmhfkmnpeponiaaGreatDoor
