/- Are two replies alike, whatever their values; what the program and the document tell. -/
import Derived.Test.YtfmmabkekjchjaaOrdR
set_option linter.unusedSimpArgs false
set_option linter.unusedVariables false
namespace Go.Proofs.Ytfmmabkekjchjaa
open Go.RowKit

def alikeB (c1 s1 n1 e1 c2 s2 n2 e2 o : Int) : Bool := (decide (c1 = c2) && decide (s1 = s2) && decide (n1 = n2)) && decide (e1 = e2) && decide (o = 0)

mutual
theorem ordV_self : ∀ v : Val, ordV v v = 0
  | .mk k i f s l => by
    rw [ordV, ordL_self l]
    unfold ordC
    rw [if_pos rfl]
    split
    · exact cmpI_eq i
    · split
      · unfold ordFl
        cases nanB f
        · simp only [Bool.false_eq_true, if_false]
          split
          · exact cmpI_eq _
          · exact cmpI_eq _
        · rfl
      · split
        · exact (compare_eq_zero _ _).2 rfl
        · split <;> rfl
theorem ordL_self : ∀ l : List Val, ordL l l = 0
  | [] => by rw [ordL]
  | v :: l => by rw [ordL, if_pos (ordV_self v)]; exact ordL_self l
end
end Go.Proofs.Ytfmmabkekjchjaa
