/- A frame opened; a record's errors; a number's place. -/
import Derived.Test.YtlkokkbikkbaoaaJPut
set_option linter.unusedSimpArgs false
set_option linter.unusedVariables false
set_option linter.unusedSimpArgs false
set_option linter.unusedVariables false
namespace Go.Proofs.Ytlkokkbikkbaoaa
open Go.RowKit
set_option maxRecDepth 100000

theorem opened_framed (p more : List UInt8) (hp : p.length ≤ 65536) : opened (framed p ++ more) = (p, 8 + p.length, 0) := by
  have h4 : (framed p ++ more).take 4 = putU p.length 4 := by simp only [framed, List.append_assoc]; exact take_putU _
  have hd4 : (framed p ++ more).drop 4 = putU (fsum p) 4 ++ (p ++ more) := by simp only [framed, List.append_assoc]; exact drop_putU _
  have hd8 : (framed p ++ more).drop 8 = p ++ more := by
    rw [show (8 : Nat) = 4 + 4 from rfl, ← List.drop_drop, hd4]; exact drop_putU _
  have hn : readU (putU p.length 4) = p.length := by rw [readU_put]; exact Nat.mod_eq_of_lt (by omega)
  have hs : readU (putU (fsum p) 4) = fsum p := by rw [readU_put]; exact Nat.mod_eq_of_lt (fsum_lt p)
  have hl : (framed p ++ more).length = 8 + p.length + more.length := by rw [List.length_append, framed_len]
  unfold opened
  rw [if_neg (by omega), h4, hn, if_neg (by omega), if_neg (by omega), hd8, hd4, take_putU, hs, List.take_left, if_pos rfl]
end Go.Proofs.Ytlkokkbikkbaoaa
