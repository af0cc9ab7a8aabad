/- IdBack: the document's numbers, in plain Lean. -/
import Derived.Test.YtokcmnenfgbdoaaDoorIb4
set_option linter.unusedSimpArgs false
set_option linter.unusedVariables false
namespace Go.Proofs.YtokcmnenfgbdoaaDoor
open Go.RowKit Go.Sort Go.Lib

def isDig (c : UInt8) : Bool := decide (48 ≤ c.toNat ∧ c.toNat ≤ 57)
/-- The digits that the document takes, as long as their number is not over 'most'. -/
def numRun (most : Nat) : List UInt8 → Nat → Nat → Nat × Nat
  | [], n, i => (n, i)
  | c :: r, n, i => if 48 ≤ c.toNat ∧ c.toNat ≤ 57 ∧ n ≤ most then numRun most r (10 * n + (c.toNat - 48)) (i + 1) else (n, i)
/-- No digit at the head. -/
def NoDig (r : List UInt8) : Prop := ∀ c, r.head? = some c → ¬ (48 ≤ c.toNat ∧ c.toNat ≤ 57)
def numD (most : Nat) (l : List UInt8) : Option (Nat × List UInt8) :=
  if (numRun most l 0 0).2 = 0 ∨ most < (numRun most l 0 0).1 ∨ (1 < (numRun most l 0 0).2 ∧ l.head? = some 48) then none else some ((numRun most l 0 0).1, l.drop (numRun most l 0 0).2)
theorem dig_nat (d : Nat) (h : d < 10) : (UInt8.ofNat (48 + d)).toNat = 48 + d := by
  rw [UInt8.toNat_ofNat']
  omega
theorem numRun_stop (most : Nat) (r : List UInt8) (n i : Nat) (h : NoDig r) : numRun most r n i = (n, i) := by
  cases r with
  | nil => rfl
  | cons c r => rw [numRun, if_neg (fun hc => h c rfl ⟨hc.1, hc.2.1⟩)]
theorem numRun_dec (most : Nat) (u : Nat) : u ≤ most → ∀ r, numRun most (Lib.decDigits u ++ r) 0 0 = numRun most r u (Lib.decDigits u).length := by
  induction u using Nat.strongRecOn with
  | ind u ih =>
    intro hu r
    by_cases h : u < 10
    · rw [Lib.decDigits_one h]
      have e := dig_nat u h
      show numRun most (UInt8.ofNat (48 + u) :: r) 0 0 = _
      rw [numRun, if_pos (by omega), e]
      simp
    · rw [decDigits_step h, List.append_assoc, ih (u / 10) (by omega) (by omega)]
      have e := dig_nat (u % 10) (by omega)
      show numRun most (UInt8.ofNat (48 + u % 10) :: r) _ _ = _
      rw [numRun, if_pos (by omega), e, List.length_append]
      congr 1
      omega
theorem dec_head (u : Nat) : 10 ≤ u → ∃ c r, Lib.decDigits u = c :: r ∧ c ≠ 48 := by
  induction u using Nat.strongRecOn with
  | ind u ih =>
    intro h
    rw [decDigits_step (by omega)]
    by_cases h2 : u / 10 < 10
    · rw [Lib.decDigits_one h2]
      refine ⟨_, _, rfl, fun e => ?_⟩
      have := dig_nat (u / 10) h2
      rw [e] at this
      have h48 : (48 : UInt8).toNat = 48 := rfl
      omega
    · obtain ⟨c, r, e, hc⟩ := ih (u / 10) (by omega) (by omega)
      exact ⟨c, r ++ _, by rw [e]; rfl, hc⟩
theorem dec_pos (u : Nat) : 0 < (Lib.decDigits u).length := by
  rw [Lib.decDigits_length]
  exact Lib.nDigits_pos u
/-- A numeral is read. -/
theorem numD_dec {most u : Nat} (hu : u ≤ most) {r : List UInt8} (h : NoDig r) : numD most (Lib.decDigits u ++ r) = some (u, r) := by
  have e : numRun most (Lib.decDigits u ++ r) 0 0 = (u, (Lib.decDigits u).length) := by rw [numRun_dec most u hu r, numRun_stop most r _ _ h]
  have hp := dec_pos u
  unfold numD
  rw [e, if_neg]
  · rw [List.drop_left]
  · rintro (h1 | h1 | ⟨h1, h2⟩)
    · dsimp only at h1; omega
    · dsimp only at h1; omega
    · dsimp only at h1
      by_cases h10 : u < 10
      · rw [Lib.decDigits_one h10] at h1; simp at h1
      · obtain ⟨c, q, e2, hc⟩ := dec_head u (by omega)
        rw [e2] at h2
        simp at h2
        exact hc h2
/-- What is read is a numeral. -/
theorem numRun_inv (most : Nat) : ∀ (l pre : List UInt8) (n : Nat), ((pre = [] ∧ n = 0) ∨ pre = Lib.decDigits n ∨ (2 ≤ pre.length ∧ pre.head? = some 48)) → ∃ pre' rest, pre ++ l = pre' ++ rest ∧ (numRun most l n pre.length).2 = pre'.length ∧ ((pre' = [] ∧ (numRun most l n pre.length).1 = 0) ∨ pre' = Lib.decDigits (numRun most l n pre.length).1 ∨ (2 ≤ pre'.length ∧ pre'.head? = some 48)) ∧ ((numRun most l n pre.length).1 ≤ most → NoDig rest)
  | [], pre, n, h => ⟨pre, [], rfl, rfl, h, fun _ c hc => by cases hc⟩
  | c :: l, pre, n, h => by
    by_cases hc : 48 ≤ c.toNat ∧ c.toNat ≤ 57 ∧ n ≤ most
    · have e : numRun most (c :: l) n pre.length = numRun most l (10 * n + (c.toNat - 48)) (pre ++ [c]).length := by rw [numRun, if_pos hc, List.length_append]; rfl
      have hcc : c = UInt8.ofNat (48 + (c.toNat - 48)) := by rw [show 48 + (c.toNat - 48) = c.toNat by omega, UInt8.ofNat_toNat]
      have ih := numRun_inv most l (pre ++ [c]) (10 * n + (c.toNat - 48)) (by
        rcases h with ⟨rfl, rfl⟩ | rfl | ⟨h1, h2⟩
        · refine .inr (.inl ?_)
          rw [Lib.decDigits_one (by omega)]
          show [c] = _
          rw [show 48 + (10 * 0 + (c.toNat - 48)) = 48 + (c.toNat - 48) by omega, ← hcc]
        · by_cases h0 : n = 0
          · subst h0
            refine .inr (.inr ⟨?_, ?_⟩)
            · rw [Lib.decDigits_one (by omega)]; simp
            · rw [Lib.decDigits_one (by omega)]; rfl
          · refine .inr (.inl ?_)
            rw [decDigits_step (by omega : ¬ 10 * n + (c.toNat - 48) < 10), show (10 * n + (c.toNat - 48)) / 10 = n by omega, show (10 * n + (c.toNat - 48)) % 10 = c.toNat - 48 by omega, ← hcc]
        · refine .inr (.inr ⟨by rw [List.length_append]; omega, ?_⟩)
          cases pre with
          | nil => simp at h1
          | cons a b => simpa using h2)
      rw [← e, List.append_assoc] at ih
      exact ih
    · have e : numRun most (c :: l) n pre.length = (n, pre.length) := by rw [numRun, if_neg hc]
      rw [e]
      exact ⟨pre, c :: l, rfl, rfl, h, fun hn x hx => by
        simp at hx
        subst hx
        intro hd
        exact hc ⟨hd.1, hd.2, hn⟩⟩
theorem numD_some {most : Nat} {l r : List UInt8} {n : Nat} (h : numD most l = some (n, r)) : l = Lib.decDigits n ++ r ∧ n ≤ most ∧ NoDig r := by
  unfold numD at h
  split at h
  · cases h
  · rename_i hn
    simp only [not_or] at hn
    obtain ⟨h1, h2, h3⟩ := hn
    obtain ⟨pre, rest, e1, e2, e3, e4⟩ := numRun_inv most l [] 0 (.inl ⟨rfl, rfl⟩)
    simp only [List.length_nil, List.nil_append] at e1 e2 e3 e4
    injection h with h
    injection h with h5 h6
    rw [h5] at e3 e4 h2
    rw [e2] at h6
    subst e1
    rw [List.drop_left] at h6
    subst h6
    rcases e3 with ⟨rfl, -⟩ | e3 | ⟨e5, e6⟩
    · rw [e2] at h1; exact absurd rfl h1
    · rw [← e3]; exact ⟨rfl, by omega, e4 (by omega)⟩
    · refine absurd ⟨by rw [e2]; omega, ?_⟩ h3
      cases pre with
      | nil => simp at e5
      | cons a b => simpa using e6
end Go.Proofs.YtokcmnenfgbdoaaDoor
