/- What is written is read back cleaned. -/
import Derived.Test.YtgdhiihfcngjbaaVals2
set_option linter.unusedSimpArgs false
set_option linter.unusedVariables false
namespace Go.Proofs.Ytgdhiihfcngjbaa
open Go.RowKit

theorem cb_cb (f : Nat) : cb (cb f) = cb f := by
  by_cases h : nanB f = true
  · have hc : cb f = 9221120237041090561 := by unfold cb; rw [if_pos h]
    rw [hc]
    decide +kernel
  · have hc : cb f = f := by unfold cb; rw [if_neg h]
    rw [hc, hc]


theorem checkV_zero {v : Val} (h : checkV v = 0) : strangeV v = false ∧ greatV v 8 = false ∧ sizeV v ≤ 4096 := by
  rcases checkV_cases v with ⟨_, e⟩ | ⟨_, _, e⟩ | ⟨_, _, _, e⟩ | ⟨h1, h2, h3, _⟩
  · omega
  · omega
  · omega
  · exact ⟨h1, h2, h3⟩
end Go.Proofs.Ytgdhiihfcngjbaa
