/- What is read is a value, a call, that may be. -/
import Derived.Test.YtlkokkbikkbaoaaB5
import Derived.Test.YtlkokkbikkbaoaaRdI
set_option linter.unusedSimpArgs false
set_option linter.unusedVariables false
set_option linter.unusedSimpArgs false
set_option linter.unusedVariables false
namespace Go.Proofs.Ytlkokkbikkbaoaa
open Go.RowKit

theorem pl_mem {p : List UInt8 → Option (Val × Nat)} (hp : ∀ b v m, p b = some (v, m) → OkV v) : ∀ (n : Nat) (b : List UInt8) (l : List Val) (m : Nat), pl p n b = some (l, m) → l.length = n ∧ ∀ v ∈ l, OkV v
  | 0, b, l, m, h => by
    simp only [pl, Option.some.injEq, Prod.mk.injEq] at h
    rw [← h.1]
    exact ⟨rfl, by simp⟩
  | n + 1, b, l, m, h => by
    unfold pl at h
    split at h
    · cases h
    · rename_i v m1 hv
      split at h
      · cases h
      · rename_i l1 m2 hl
        simp only [Option.some.injEq, Prod.mk.injEq] at h
        obtain ⟨h1, h2⟩ := pl_mem hp n _ l1 m2 hl
        rw [← h.1]
        refine ⟨by rw [List.length_cons, h1], fun u hu => ?_⟩
        rcases List.mem_cons.1 hu with rfl | hu
        · exact hp _ _ _ hv
        · exact h2 u hu
theorem readU_8 (l : List UInt8) : readU (l.take 8) < 18446744073709551616 := by
  refine Nat.lt_of_lt_of_le (readU_lt _) ?_
  rw [List.length_take]
  exact Nat.pow_le_pow_right (show 0 < 256 by decide) (show min 8 l.length ≤ 8 by omega)
theorem wrap64_in (n : Int) : -9223372036854775808 ≤ wrap64 n ∧ wrap64 n ≤ 9223372036854775807 := by unfold wrap64; omega
theorem pv_ok : ∀ (d : Nat) (b : List UInt8) (v : Val) (m : Nat), pv d b = some (v, m) → OkV v := by
  intro d
  induction d with
  | zero =>
    intro b v m h
    cases b with
    | nil => simp [pv] at h
    | cons k t =>
      rw [pv_cons] at h
      split at h
      · simp only [Option.some.injEq, Prod.mk.injEq] at h; obtain ⟨rfl, rfl⟩ := h; exact .mk (by decide) (by decide) (by simp) (by simp)
      split at h
      · split at h
        · cases h
        · simp only [Option.some.injEq, Prod.mk.injEq] at h; obtain ⟨rfl, rfl⟩ := h; exact .mk (by decide) (wrap64_in _) (by simp) (by simp)
      split at h
      · split at h
        · cases h
        · split at h
          · simp only [Option.some.injEq, Prod.mk.injEq] at h; obtain ⟨rfl, rfl⟩ := h; exact .mk (readU_8 _) (by decide) (by simp) (by simp)
          · cases h
      split at h
      · split at h
        · simp only [Option.some.injEq, Prod.mk.injEq] at h
          obtain ⟨rfl, rfl⟩ := h
          exact .mk (by decide) (by decide) (by simp) (by simp)
        · cases h
      split at h
      · cases h
      · cases h
  | succ d ih =>
    intro b v m h
    cases b with
    | nil => simp [pv] at h
    | cons k t =>
      rw [pv_cons] at h
      split at h
      · simp only [Option.some.injEq, Prod.mk.injEq] at h; obtain ⟨rfl, rfl⟩ := h; exact .mk (by decide) (by decide) (by simp) (by simp)
      split at h
      · split at h
        · cases h
        · simp only [Option.some.injEq, Prod.mk.injEq] at h; obtain ⟨rfl, rfl⟩ := h; exact .mk (by decide) (wrap64_in _) (by simp) (by simp)
      split at h
      · split at h
        · cases h
        · split at h
          · simp only [Option.some.injEq, Prod.mk.injEq] at h; obtain ⟨rfl, rfl⟩ := h; exact .mk (readU_8 _) (by decide) (by simp) (by simp)
          · cases h
      split at h
      · split at h
        · simp only [Option.some.injEq, Prod.mk.injEq] at h
          obtain ⟨rfl, rfl⟩ := h
          exact .mk (by decide) (by decide) (by simp) (by simp)
        · cases h
      split at h
      · cases t with
        | nil => cases h
        | cons n u =>
          dsimp only at h
          split at h
          · cases h
          · split at h
            · cases h
            · rename_i l m1 hl
              simp only [Option.some.injEq, Prod.mk.injEq] at h
              obtain ⟨rfl, rfl⟩ := h
              obtain ⟨h1, h2⟩ := pl_mem ih _ _ l m1 hl
              exact .mk (by decide) (by decide) h2 (by rw [h1]; omega)
      · cases h
theorem rdV_ok {b : List UInt8} {v : Val} {m : Nat} (h : rdV b = some (v, m)) : OkV v := by
  unfold rdV at h
  split at h
  · rename_i v1 m1 hp
    split at h
    · simp only [Option.some.injEq, Prod.mk.injEq] at h
      obtain ⟨rfl, rfl⟩ := h
      exact pv_ok _ _ _ _ hp
    · cases h
  · cases h
theorem rdOp_ok {b : List UInt8} {o : OpD} {q : Nat} (h : rdOp b = some (o, q)) : o.l.length ≤ 16 ∧ (∀ v ∈ o.l, OkV v) ∧ o.c < 4294967296 ∧ o.s < 4294967296 ∧ o.n < 65536 := by
  unfold rdOp at h
  split at h
  · cases h
  split at h
  · cases h
  split at h
  · cases h
  split at h
  · cases h
  split at h
  · cases h
  rename_i h16
  split at h
  · cases h
  · rename_i l m hl
    simp only [Option.some.injEq, Prod.mk.injEq] at h
    obtain ⟨h1, h2⟩ := pl_mem (fun b v m => rdV_ok) _ _ l m hl
    rw [← h.1]
    exact ⟨by dsimp only; omega, h2, readU_4 _, readU_4 _, readU_2 _⟩
end Go.Proofs.Ytlkokkbikkbaoaa
