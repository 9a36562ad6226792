/- THE DIGEST OF NO BYTES begins with 0xa7, 0xff. -/
import Derived.Test.YtnkpeojnbajooaaDoorSpLaw
namespace Go.Proofs.YtnkpeojnbajooaaDoor
open Go Go.Ev
set_option maxRecDepth 100000
theorem sha0 : ((refOut 136 6 [] 32).take 2).map (fun b => b.toNat) = [0xa7, 0xff] := by kernel_rfl
theorem sha00 : ((refOut 136 6 [] 32).getD 0 0).toNat = 0xa7 ∧ ((refOut 136 6 [] 32).getD 1 0).toNat = 0xff := by
  have h := sha0
  have hl : (refOut 136 6 [] 32).length = 32 := length_refOut _ _ _ _
  generalize refOut 136 6 [] 32 = l at h hl
  match l, hl with
  | a :: b :: r, _ =>
    simp only [List.take_succ_cons, List.take_zero, List.map_cons, List.map_nil, List.cons.injEq, and_true] at h
    exact h
end Go.Proofs.YtnkpeojnbajooaaDoor
