/- ValueLine: the plain law: the order of values is one of all. -/
import Derived.Test.YtdbmffagibnibaaGreatDoorOrdR
import Derived.Test.YtdbmffagibnibaaGreatDoorOrdT
set_option linter.unusedSimpArgs false
set_option linter.unusedVariables false
namespace Go.Proofs.YtdbmffagibnibaaGreatDoor
open Go.RowKit

/-- Of three things held against one another: what is ahead of what is ahead is ahead. -/
def Chain (x y z : Int) : Prop := x ≤ 0 → y ≤ 0 → z ≤ 0 ∧ (z = 0 ↔ x = 0 ∧ y = 0)
theorem chain_cmp (a b c : Int) : Chain (cmpI a b) (cmpI b c) (cmpI a c) := by
  unfold Chain cmpI
  intro h1 h2
  split at h1 <;> split at h2 <;> (repeat' split) <;> omega
theorem chain_zero : Chain 0 0 0 := fun _ _ => ⟨Int.le_refl _, by simp⟩
/-- A number's place: its key, and of the noughts the negative one ahead. -/
theorem ordFl_neg_nan {x y : Nat} (h : nanB x = true) : ordFl x y = if nanB y then 0 else -1 := by unfold ordFl; rw [h]; rfl
theorem chain_fl (a b c : Nat) : Chain (ordFl a b) (ordFl b c) (ordFl a c) := by
  intro h1 h2
  unfold ordFl at h1 h2 ⊢
  cases ha : nanB a <;> cases hb : nanB b <;> cases hc : nanB c <;> simp only [ha, hb, hc, Bool.false_eq_true, if_false, if_true] at h1 h2 ⊢ <;> (try omega)
  all_goals
    generalize keyF a = p at *
    generalize keyF b = q at *
    generalize keyF c = r at *
    generalize (if sgF a then (0 : Int) else 1) = i at *
    generalize (if sgF b then (0 : Int) else 1) = j at *
    generalize (if sgF c then (0 : Int) else 1) = k at *
    (try unfold cmpI at h1)
    (try unfold cmpI at h2)
    (try unfold cmpI)
    (repeat' split at h1) <;> (repeat' split at h2) <;> (repeat' split) <;> (first | omega | (simp; done) | (simp; omega))
theorem chain_bytes : ∀ (a b c : List UInt8), Chain (Lib.compareBytes a b) (Lib.compareBytes b c) (Lib.compareBytes a c)
  | [], [], [] => by simp [Chain, Lib.compareBytes]
  | [], [], _ :: _ => by simp [Chain, Lib.compareBytes]
  | [], _ :: _, [] => by simp [Chain, Lib.compareBytes]
  | [], _ :: _, _ :: _ => by simp [Chain, Lib.compareBytes]
  | _ :: _, [], [] => by simp [Chain, Lib.compareBytes]
  | _ :: _, [], _ :: _ => by simp [Chain, Lib.compareBytes]
  | _ :: _, _ :: _, [] => by simp [Chain, Lib.compareBytes]
  | x :: a, y :: b, z :: c => by
    have ih := chain_bytes a b c
    intro h1 h2
    unfold Chain at ih
    have e1 : Lib.compareBytes (x :: a) (y :: b) = if x.toNat < y.toNat then -1 else if y.toNat < x.toNat then 1 else Lib.compareBytes a b := by rw [Lib.compareBytes]; simp only [UInt8.lt_iff_toNat_lt]
    have e2 : Lib.compareBytes (y :: b) (z :: c) = if y.toNat < z.toNat then -1 else if z.toNat < y.toNat then 1 else Lib.compareBytes b c := by rw [Lib.compareBytes]; simp only [UInt8.lt_iff_toNat_lt]
    have e3 : Lib.compareBytes (x :: a) (z :: c) = if x.toNat < z.toNat then -1 else if z.toNat < x.toNat then 1 else Lib.compareBytes a c := by rw [Lib.compareBytes]; simp only [UInt8.lt_iff_toNat_lt]
    rw [e1] at h1
    rw [e2] at h2
    rw [e1, e2, e3]
    generalize Lib.compareBytes a b = p at *
    generalize Lib.compareBytes b c = q at *
    generalize Lib.compareBytes a c = r at *
    generalize x.toNat = i at *
    generalize y.toNat = j at *
    generalize z.toNat = k at *
    clear e1 e2 e3
    (repeat' split at h1) <;> (repeat' split at h2) <;> (repeat' split) <;> (try omega)
    all_goals (have := ih (by omega) (by omega); omega)
theorem chain_c {k1 i1 k2 i2 k3 i3 : Int} {f1 f2 f3 : Nat} {s1 s2 s3 : ByteArray} {r1 r2 r3 : Int} (h : Chain r1 r2 r3) : Chain (ordC k1 i1 k2 i2 f1 f2 s1 s2 r1) (ordC k2 i2 k3 i3 f2 f3 s2 s3 r2) (ordC k1 i1 k3 i3 f1 f3 s1 s3 r3) := by
  have c1 := chain_cmp i1 i2 i3
  have c2 := chain_fl f1 f2 f3
  have c3 := chain_bytes s1.data.toList s2.data.toList s3.data.toList
  unfold ordC
  generalize kindOf k1 = a
  generalize kindOf k2 = b
  generalize kindOf k3 = c
  by_cases hab : a = b
  · subst hab
    by_cases hbc : a = c
    · subst hbc
      simp only [if_true]
      (repeat' split) <;> first | exact c1 | exact c2 | exact c3 | exact h | exact chain_zero
    · intro h1 h2
      rw [if_neg hbc] at h2 ⊢
      rw [if_neg hbc]
      unfold cmpI at h2 ⊢
      have : a < c := by split at h2 <;> (try split at h2) <;> omega
      rw [if_pos this] at h2 ⊢
      omega
  · intro h1 h2
    rw [if_neg hab] at h1
    have hlt : a < b := by unfold cmpI at h1; split at h1 <;> (try split at h1) <;> omega
    by_cases hbc : b = c
    · subst hbc
      rw [if_neg hab, if_neg hab]
      unfold cmpI
      rw [if_pos hlt]
      omega
    · rw [if_neg hbc] at h2
      have hlt2 : b < c := by unfold cmpI at h2; split at h2 <;> (try split at h2) <;> omega
      rw [if_neg hab, if_neg hbc, if_neg (by omega)]
      unfold cmpI
      rw [if_pos hlt, if_pos hlt2, if_pos (by omega)]
      omega
mutual
theorem chain_v : ∀ (a b c : Val), Chain (ordV a b) (ordV b c) (ordV a c)
  | .mk k1 i1 f1 s1 l1, .mk k2 i2 f2 s2 l2, .mk k3 i3 f3 s3 l3 => by
    rw [ordV, ordV, ordV]
    exact chain_c (chain_l l1 l2 l3)
theorem chain_l : ∀ (a b c : List Val), Chain (ordL a b) (ordL b c) (ordL a c)
  | [], [], [] => by simp only [ordL]; exact chain_zero
  | [], [], _ :: _ => by simp only [ordL]; intro _ _; omega
  | [], _ :: _, [] => by simp only [ordL]; intro _ _; omega
  | [], _ :: _, _ :: _ => by simp only [ordL]; intro _ _; omega
  | _ :: _, [], [] => by simp only [ordL]; intro _ _; omega
  | _ :: _, [], _ :: _ => by simp only [ordL]; intro _ _; omega
  | _ :: _, _ :: _, [] => by simp only [ordL]; intro _ _; omega
  | x :: a, y :: b, z :: c => by
    have hv := chain_v x y z
    have hl := chain_l a b c
    unfold Chain at hv hl
    rw [ordL, ordL, ordL]
    intro h1 h2
    generalize ordV x y = p at *
    generalize ordV y z = q at *
    generalize ordV x z = r at *
    generalize ordL a b = p' at *
    generalize ordL b c = q' at *
    generalize ordL a c = r' at *
    have := hv (by split at h1 <;> omega) (by split at h2 <;> omega)
    (split at h1) <;> (split at h2) <;> (repeat' split) <;> (try omega)
    all_goals (have := hl (by omega) (by omega); omega)
end
theorem swap_cmp (a b : Int) : cmpI b a = -(cmpI a b) := by unfold cmpI; (repeat' split) <;> omega
theorem swap_fl (a b : Nat) : ordFl b a = -(ordFl a b) := by
  unfold ordFl
  cases ha : nanB a <;> cases hb : nanB b <;> simp only [Bool.false_eq_true, if_false, if_true]
  · by_cases h : keyF a = 0 ∧ keyF b = 0
    · rw [if_pos h, if_pos ⟨h.2, h.1⟩, swap_cmp]
    · rw [if_neg h, if_neg (fun e => h ⟨e.2, e.1⟩), swap_cmp]
  all_goals omega
mutual
theorem swap_v : ∀ (a b : Val), ordV b a = -(ordV a b)
  | .mk k1 i1 f1 s1 l1, .mk k2 i2 f2 s2 l2 => by
    rw [ordV, ordV, swap_l l1 l2]
    unfold ordC
    by_cases h : kindOf k1 = kindOf k2
    · rw [if_pos h, if_pos h.symm, ← h, swap_cmp i1 i2, swap_fl f1 f2, compare_swap (bstr s2).data.toList (bstr s1).data.toList]
      (repeat' split) <;> rfl
    · rw [if_neg h, if_neg (fun e => h e.symm), swap_cmp]
theorem swap_l : ∀ (a b : List Val), ordL b a = -(ordL a b)
  | [], [] => by simp [ordL]
  | [], _ :: _ => by simp [ordL]
  | _ :: _, [] => by simp [ordL]
  | x :: a, y :: b => by
    rw [ordL, ordL, swap_v x y, swap_l a b]
    generalize ordV x y = p
    by_cases h : p = 0
    · rw [if_pos h, if_pos (by omega)]
    · rw [if_neg h, if_neg (by omega)]
end
end Go.Proofs.YtdbmffagibnibaaGreatDoor
