/- A frame opened; a record's errors; a number's place. -/
import Derived.Test.YtjljlgkghlphnaaJ1
set_option linter.unusedSimpArgs false
set_option linter.unusedVariables false
namespace Go.Proofs.Ytjljlgkghlphnaa
open Go.RowKit
set_option maxRecDepth 100000

theorem opened_framed (p more : List UInt8) (hp : p.length ≤ 65536) : opened (framed p ++ more) = (p, 8 + p.length, 0) := by
  have h4 : (framed p ++ more).take 4 = putU p.length 4 := by simp only [framed, List.append_assoc]; exact take_putU _
  have hd4 : (framed p ++ more).drop 4 = putU (fsum p) 4 ++ (p ++ more) := by simp only [framed, List.append_assoc]; exact drop_putU _
  have hd8 : (framed p ++ more).drop 8 = p ++ more := by
    rw [show (8 : Nat) = 4 + 4 from rfl, ← List.drop_drop, hd4]; exact drop_putU _
  have hn : readU (putU p.length 4) = p.length := by rw [readU_put]; exact Nat.mod_eq_of_lt (by omega)
  have hs : readU (putU (fsum p) 4) = fsum p := by rw [readU_put]; exact Nat.mod_eq_of_lt (fsum_lt p)
  have hl : (framed p ++ more).length = 8 + p.length + more.length := by rw [List.length_append, framed_len]
  unfold opened
  rw [if_neg (by omega), h4, hn, if_neg (by omega), if_neg (by omega), hd8, hd4, take_putU, hs, List.take_left, if_pos rfl]
theorem errJ_zero {r : RecD} (h : errJ r = 0) : errP r = 0 ∧ (bytesP r).length ≤ 65536 := by
  unfold errJ at h
  by_cases h1 : errP r ≠ 0
  · rw [if_pos h1] at h; exact absurd h h1
  · rw [if_neg h1] at h
    refine ⟨Decidable.not_not.1 h1, ?_⟩
    by_cases h2 : 65536 < (bytesP r).length
    · rw [if_pos h2] at h; cases h
    · omega

theorem place_walk {k n : Int} (w : World) (hn : 0 < n) (hn2 : n ≤ 1000000000) : Calls Try.prog 17 #[.int .i64 k, .int .i64 n] w (fun e w' => (∃ q : Int, 0 ≤ q ∧ q < n ∧ e = .returned (.int .i64 q)) ∧ w' = w) := by
  have h1 : -n < k.tmod n ∧ k.tmod n < n := ⟨by have := Int.tmod_lt_of_pos (-k) hn; rw [Int.neg_tmod] at this; omega, Int.tmod_lt_of_pos k hn⟩
  have dn : (n == 0) = false := by rw [beq_eq_false_iff_ne]; omega
  have hn0 : ¬ n = 0 := by omega
  obtain ⟨t, ht⟩ : ∃ t, k.tmod n = t := ⟨_, rfl⟩
  rw [ht] at h1
  by_cases hm : t < 0
  · have dm : decide (t < 0) = true := decide_eq_true hm
    have hw : IntKind.i64.wrap (t + n) = t + n := w64_id _ (by omega) (by omega)
    have fin : ∃ q : Int, 0 ≤ q ∧ q < n ∧ (Ending.returned (.int .i64 (t + n)) : Ending) = .returned (.int .i64 q) := ⟨t + n, by omega, by omega, rfl⟩
    replace fin := Lib.hid fin
    go_enter Try.func17, Try.ntmps17
    go_wp2_with fail
    go_ret
    exact ⟨fin.out, rfl⟩
  · have dm : decide (t < 0) = false := decide_eq_false hm
    have fin : ∃ q : Int, 0 ≤ q ∧ q < n ∧ (Ending.returned (.int .i64 t) : Ending) = .returned (.int .i64 q) := ⟨t, by omega, by omega, rfl⟩
    replace fin := Lib.hid fin
    go_enter Try.func17, Try.ntmps17
    go_wp2_with fail
    go_ret
    exact ⟨fin.out, rfl⟩

end Go.Proofs.Ytjljlgkghlphnaa
