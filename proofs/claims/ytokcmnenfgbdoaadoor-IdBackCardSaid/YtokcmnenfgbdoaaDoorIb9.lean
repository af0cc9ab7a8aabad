/- IdBack: the walk of the law: the loop's row, the bytes of a text. -/
import Derived.Test.YtokcmnenfgbdoaaDoorIb8
import Derived.Laws.IdiomStrings
set_option linter.unusedSimpArgs false
set_option linter.unusedVariables false
namespace Go.Proofs.YtokcmnenfgbdoaaDoor
open Go.RowKit Go.Sort Go.Lib
set_option maxRecDepth 100000

theorem idV_form (r : Option (Nat × Nat × Nat)) : ∃ (c q n : Nat) (b : Bool), idV r = .tuple #[.agg #[.int .u32 (c : Int), .int .u32 (q : Int), .int .u16 (n : Int)], .bool b] := by
  cases r with
  | none => exact ⟨0, 0, 0, false, rfl⟩
  | some x => obtain ⟨c, q, n⟩ := x; exact ⟨c, q, n, true, rfl⟩
theorem conv_row (l : List UInt8) (W : World) : ∃ W' c, (convert 9 30 (.string (bstr l))).run Tryd.prog W = .ok (.slice (some ⟨W.heap.size, 0, none⟩) l.length c) W' ∧ Below W.heap.size W W' ∧ W'.heap.size = W.heap.size + 1 ∧
    ∀ (j : Nat) (b : UInt8), l[j]? = some b → W'.cell? ⟨W.heap.size, j, none⟩ = some (byv b) ∧ W'.frozen? ⟨W.heap.size, j, none⟩ = false := by
  refine ⟨_, _, (run_bytes_of_string W 9 30 5 (bstr l) Tryd.underlying9 Tryd.underlying30 Tryd.underlying5).trans (by rw [bstr_size]), ?_, ?_, ?_⟩
  · exact (Below.refl W.heap.size W).drew.alloc (Nat.le_refl _) _
  · simp
  · intro j b hj
    have hjl : j < l.length := (List.getElem?_eq_some_iff.1 hj).1
    have hbs : (bytesRow (bstr l) (grownCap W (bstr l).size 0 5))[j]? = some (byv b) := by
      unfold bytesRow bstr byv
      rw [Array.getElem?_append_left (by simpa using hjl)]
      simp [hj]
    have hjs : j < (bytesRow (bstr l) (grownCap W (bstr l).size 0 5)).size := (Array.getElem?_eq_some_iff.1 hbs).1
    refine ⟨?_, ?_⟩
    · exact (cell_of_row _ W.heap.size j _ 5 _ (heap_alloc_new W.drew _)).trans hbs
    · have := World.frozen?_alloc_mark W.drew (bytesRow (bstr l) (grownCap W (bstr l).size 0 5)) 5 (bytesRow (bstr l) (grownCap W (bstr l).size 0 5)).size ((bytesRow (bstr l) (grownCap W (bstr l).size 0 5)).size + 1) j
      refine this.trans ?_
      simp
      omega
end Go.Proofs.YtokcmnenfgbdoaaDoor
