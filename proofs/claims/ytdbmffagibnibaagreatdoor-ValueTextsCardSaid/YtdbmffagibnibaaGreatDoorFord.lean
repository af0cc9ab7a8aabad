/- The order of floats by their bits, of strings by their bytes; plain. -/
import Derived.Test.YtdbmffagibnibaaGreatDoorOrder
import Derived.Lib.Bytealg
set_option linter.unusedSimpArgs false
set_option linter.unusedVariables false
namespace Go.Proofs.YtdbmffagibnibaaGreatDoor
set_option maxRecDepth 100000
open Go.RowKit

def magF (r : Nat) : Nat := if r < 4503599627370496 then r else (4503599627370496 + r % 4503599627370496) * 2 ^ (r / 4503599627370496 - 1)
theorem magF_succ (r : Nat) : magF r < magF (r + 1) := by
  unfold magF
  by_cases h1 : r + 1 < 4503599627370496
  · rw [if_pos h1, if_pos (by omega)]; omega
  by_cases h2 : r < 4503599627370496
  · have : r = 4503599627370495 := by omega
    subst this
    decide
  rw [if_neg h1, if_neg h2]
  obtain ⟨q, hq⟩ : ∃ q, r / 4503599627370496 = q + 1 := ⟨r / 4503599627370496 - 1, by omega⟩
  have hp : 0 < 2 ^ q := Nat.two_pow_pos q
  by_cases h3 : r % 4503599627370496 + 1 < 4503599627370496
  · have e1 : (r + 1) / 4503599627370496 = q + 1 := by omega
    have e2 : (r + 1) % 4503599627370496 = r % 4503599627370496 + 1 := by omega
    rw [e1, e2, hq, Nat.add_sub_cancel]
    exact Nat.mul_lt_mul_of_pos_right (by omega) hp
  · have e1 : (r + 1) / 4503599627370496 = q + 2 := by omega
    have e2 : (r + 1) % 4503599627370496 = 0 := by omega
    have e3 : r % 4503599627370496 = 4503599627370495 := by omega
    rw [e1, e2, e3, hq, Nat.add_sub_cancel, show q + 2 - 1 = q + 1 from rfl, Nat.pow_succ]
    omega
theorem magF_lt {a b : Nat} (h : a < b) : magF a < magF b := by
  induction b with
  | zero => omega
  | succ b ih =>
    by_cases hb : a = b
    · subst hb; exact magF_succ a
    · exact Nat.lt_trans (ih (by omega)) (magF_succ b)
theorem magF_inj {a b : Nat} (h : magF a = magF b) : a = b := by
  rcases Nat.lt_trichotomy a b with h1 | h1 | h1
  · have := magF_lt h1; omega
  · exact h1
  · have := magF_lt h1; omega
theorem magF_zero : magF 0 = 0 := rfl

def sgF (x : Nat) : Bool := x / 9223372036854775808 % 2 == 1
/-- A number's place in the order of all. -/
def keyF (x : Nat) : Int := if sgF x then -(magF (x % 9223372036854775808) : Int) else (magF (x % 9223372036854775808) : Int)

theorem read_num (x : Nat) (h : x % 9223372036854775808 < 9218868437227405312) : ∃ m i : Nat, Ieee.double.read x = .number (sgF x) m (-1074 + (i : Int)) ∧ m * 2 ^ i = magF (x % 9223372036854775808) := by
  have hs : Ieee.double.signWeight = 9223372036854775808 := by decide
  have hb : Ieee.double.binade = 4503599627370496 := by decide
  have hi : Ieee.double.infRung = 9218868437227405312 := by decide
  have hl : Ieee.double.leastPlace = -1074 := by decide
  unfold Ieee.Format.read
  simp only [hs, hb, hi, hl]
  by_cases h1 : x % 9223372036854775808 < 4503599627370496
  · rw [if_pos h1]
    exact ⟨x % 9223372036854775808, 0, rfl, by unfold magF; rw [if_pos h1]; simp⟩
  · rw [if_neg h1, if_pos h]
    exact ⟨_, x % 9223372036854775808 / 4503599627370496 - 1, rfl, by unfold magF; rw [if_neg h1]⟩
theorem read_inf (x : Nat) (h : x % 9223372036854775808 = 9218868437227405312) : Ieee.double.read x = .infinity (sgF x) := by
  have hs : Ieee.double.signWeight = 9223372036854775808 := by decide
  have hb : Ieee.double.binade = 4503599627370496 := by decide
  have hi : Ieee.double.infRung = 9218868437227405312 := by decide
  unfold Ieee.Format.read
  simp only [hs, hb, hi]
  rw [if_neg (by omega), if_neg (by omega), if_pos h]
  rfl
theorem read_isnan (x : Nat) (h : nanB x = true) : ∃ s f, Ieee.double.read x = .nan s f := by
  have hn := read_nan x
  rw [h] at hn
  cases hr : Ieee.double.read x with
  | nan s f => exact ⟨s, f, rfl⟩
  | number s m e => rw [hr] at hn; simp [Ieee.Datum.isNaN] at hn
  | infinity s => rw [hr] at hn; simp [Ieee.Datum.isNaN] at hn

theorem cmp_int_mul (a b : Int) (c : Nat) (hc : 0 < c) : compare (a * (c : Int)) (b * (c : Int)) = compare a b := by
  have hc' : (0 : Int) < (c : Int) := by omega
  have e1 : a * (c : Int) < b * (c : Int) ↔ a < b := Int.mul_lt_mul_right hc'
  have e2 : a * (c : Int) = b * (c : Int) ↔ a = b := Int.mul_eq_mul_right_iff (by omega)
  simp only [compare, compareOfLessAndEq, e1, e2]
theorem signed_key (s : Bool) (m i b : Nat) (h : b ≤ i) : Ieee.signed s m (i - b) * ((2 ^ b : Nat) : Int) = if s then -((m * 2 ^ i : Nat) : Int) else ((m * 2 ^ i : Nat) : Int) := by
  have e : m * 2 ^ (i - b) * 2 ^ b = m * 2 ^ i := by rw [Nat.mul_assoc, ← Nat.pow_add, Nat.sub_add_cancel h]
  unfold Ieee.signed
  rw [Nat.shiftLeft_eq]
  cases s
  · simp only [Bool.false_eq_true, if_false]
    rw [← e]; push_cast; rfl
  · simp only [if_true]
    rw [← e, Int.neg_mul]; push_cast; rfl

theorem nanB_false {x : Nat} (h : nanB x = false) : x % 9223372036854775808 < 9218868437227405312 ∨ x % 9223372036854775808 = 9218868437227405312 := by
  unfold nanB at h
  have := of_decide_eq_false h
  omega
theorem cmp_lt {a b : Int} (h : a < b) : compare a b = .lt := by simp [compare, compareOfLessAndEq, h]
theorem cmp_gt {a b : Int} (h : b < a) : compare a b = .gt := by
  have h1 : ¬ a < b := by omega
  have h2 : ¬ a = b := by omega
  simp [compare, compareOfLessAndEq, h1, h2]

theorem order_key (x y : Nat) (hx : nanB x = false) (hy : nanB y = false) : FloatKind.f64.format.order x y = some (compare (keyF x) (keyF y)) := by
  show (Ieee.double.read x).order (Ieee.double.read y) = _
  rcases nanB_false hx with h1 | h1 <;> rcases nanB_false hy with h2 | h2
  · obtain ⟨m, i, ex, em⟩ := read_num x h1
    obtain ⟨n, j, ey, en⟩ := read_num y h2
    rw [ex, ey]
    unfold Ieee.Datum.order
    simp only []
    obtain ⟨b, hb⟩ : ∃ b : Nat, min i j = b := ⟨_, rfl⟩
    have e1 : (-1074 + (i : Int) - min (-1074 + (i : Int)) (-1074 + (j : Int))).toNat = i - b := by omega
    have e2 : (-1074 + (j : Int) - min (-1074 + (i : Int)) (-1074 + (j : Int))).toNat = j - b := by omega
    rw [e1, e2]
    have k1 : keyF x = Ieee.signed (sgF x) m (i - b) * ((2 ^ b : Nat) : Int) := by rw [signed_key _ _ _ _ (by omega), em]; rfl
    have k2 : keyF y = Ieee.signed (sgF y) n (j - b) * ((2 ^ b : Nat) : Int) := by rw [signed_key _ _ _ _ (by omega), en]; rfl
    rw [k1, k2, cmp_int_mul _ _ _ (Nat.two_pow_pos b)]
  · obtain ⟨m, i, ex, em⟩ := read_num x h1
    rw [ex, read_inf y h2]
    unfold Ieee.Datum.order keyF
    simp only []
    have hm := magF_lt h1
    rw [h2]
    cases sgF y <;> cases sgF x <;> simp only [Bool.false_eq_true, if_false, if_true]
    · rw [cmp_lt (by omega)]
    · rw [cmp_lt (by omega)]
    · rw [cmp_gt (by omega)]
    · rw [cmp_gt (by omega)]
  · obtain ⟨m, i, ey, em⟩ := read_num y h2
    rw [ey, read_inf x h1]
    unfold Ieee.Datum.order keyF
    simp only []
    have hm := magF_lt h2
    rw [h1]
    cases sgF x <;> cases sgF y <;> simp only [Bool.false_eq_true, if_false, if_true]
    · rw [cmp_gt (by omega)]
    · rw [cmp_gt (by omega)]
    · rw [cmp_lt (by omega)]
    · rw [cmp_lt (by omega)]
  · rw [read_inf x h1, read_inf y h2]
    unfold Ieee.Datum.order keyF
    rw [h1, h2]
    have hp : 0 < magF 9218868437227405312 := by have := magF_lt (a := 0) (b := 9218868437227405312) (by omega); rw [magF_zero] at this; exact this
    generalize magF 9218868437227405312 = g at *
    cases sgF x <;> cases sgF y <;> simp only [Bool.false_eq_true, if_false, if_true]
    · simp [compare, compareOfLessAndEq]
    · rw [cmp_gt (by omega)]; rfl
    · rw [cmp_lt (by omega)]; rfl
    · simp [compare, compareOfLessAndEq]
theorem order_nan (x y : Nat) (h : nanB x = true ∨ nanB y = true) : FloatKind.f64.format.order x y = none := by
  show (Ieee.double.read x).order (Ieee.double.read y) = _
  rcases h with h | h
  · obtain ⟨s, f, e⟩ := read_isnan x h
    rw [e]; rfl
  · obtain ⟨s, f, e⟩ := read_isnan y h
    rw [e]
    cases Ieee.double.read x <;> rfl
theorem ord_lt (x y : Nat) : (FloatKind.f64.format.order x y == some .lt) = (!nanB x && !nanB y && decide (keyF x < keyF y)) := by
  cases hx : nanB x
  · cases hy : nanB y
    · rw [order_key x y hx hy]
      by_cases h1 : keyF x < keyF y
      · simp [compare, compareOfLessAndEq, h1]
      · by_cases h2 : keyF x = keyF y <;> simp [compare, compareOfLessAndEq, h1, h2]
    · rw [order_nan x y (.inr hy)]; rfl
  · rw [order_nan x y (.inl hx)]; rfl
theorem ord_gt (x y : Nat) : (FloatKind.f64.format.order x y == some .gt) = (!nanB x && !nanB y && decide (keyF y < keyF x)) := by
  cases hx : nanB x
  · cases hy : nanB y
    · rw [order_key x y hx hy]
      by_cases h1 : keyF x < keyF y
      · have : ¬ keyF y < keyF x := by omega
        simp [compare, compareOfLessAndEq, h1, this]
      · by_cases h2 : keyF x = keyF y
        · simp [compare, compareOfLessAndEq, h2]
        · have : keyF y < keyF x := by omega
          simp [compare, compareOfLessAndEq, h1, h2, this]
    · rw [order_nan x y (.inr hy)]; rfl
  · rw [order_nan x y (.inl hx)]; rfl
theorem ord_eq (x y : Nat) : (FloatKind.f64.format.order x y == some .eq) = (!nanB x && !nanB y && decide (keyF x = keyF y)) := by
  cases hx : nanB x
  · cases hy : nanB y
    · rw [order_key x y hx hy]
      by_cases h1 : keyF x < keyF y
      · have : ¬ keyF x = keyF y := by omega
        simp [compare, compareOfLessAndEq, h1, this]
      · by_cases h2 : keyF x = keyF y <;> simp [compare, compareOfLessAndEq, h1, h2]
    · rw [order_nan x y (.inr hy)]; rfl
  · rw [order_nan x y (.inl hx)]; rfl
theorem keyF_zero : keyF 0 = 0 := rfl
theorem nanB_zero : nanB 0 = false := by decide
theorem ord_zero (x : Nat) : (FloatKind.f64.format.order x 0 == some .eq) = decide (keyF x = 0) := by
  rw [ord_eq, nanB_zero, keyF_zero]
  cases hx : nanB x
  · rfl
  · have : ¬ keyF x = 0 := by
      have h1 : 9218868437227405312 < x % 9223372036854775808 := of_decide_eq_true hx
      have h2 := magF_lt (a := 0) (b := x % 9223372036854775808) (by omega)
      rw [magF_zero] at h2
      unfold keyF
      split <;> omega
    rw [decide_eq_false this]; rfl
theorem key_zero {x : Nat} (h : keyF x = 0) : x % 9223372036854775808 = 0 := by
  by_cases h0 : x % 9223372036854775808 = 0
  · exact h0
  · have h2 := magF_lt (a := 0) (b := x % 9223372036854775808) (by omega)
    rw [magF_zero] at h2
    unfold keyF at h
    split at h <;> omega

/-- The order of numbers (the document's). -/
def ordFl (x y : Nat) : Int :=
  if nanB x then (if nanB y then 0 else -1) else if nanB y then 1
  else if keyF x = 0 ∧ keyF y = 0 then cmpI (if sgF x then 0 else 1) (if sgF y then 0 else 1) else cmpI (keyF x) (keyF y)
theorem cmpI_zero_iff (a b : Int) : cmpI a b = 0 ↔ a = b := by
  unfold cmpI
  constructor
  · intro h
    by_cases h1 : a < b
    · rw [if_pos h1] at h; cases h
    · rw [if_neg h1] at h
      by_cases h2 : b < a
      · rw [if_pos h2] at h; cases h
      · omega
  · rintro rfl; rw [if_neg (by omega), if_neg (by omega)]
theorem sgF_split (x : Nat) (hx : x < 18446744073709551616) : x = (if sgF x then 9223372036854775808 else 0) + x % 9223372036854775808 := by
  unfold sgF
  by_cases h : x / 9223372036854775808 % 2 = 1
  · rw [h]; simp; omega
  · have : (x / 9223372036854775808 % 2 == 1) = false := by simp; omega
    rw [this]; simp; omega
theorem ordFl_zero (x y : Nat) (hx : x < 18446744073709551616) (hy : y < 18446744073709551616) : ordFl x y = 0 ↔ cb x = cb y := by
  unfold ordFl cb
  cases h1 : nanB x <;> cases h2 : nanB y <;> simp only [Bool.false_eq_true, if_false, if_true]
  · by_cases hz : keyF x = 0 ∧ keyF y = 0
    · rw [if_pos hz, cmpI_zero_iff]
      have e1 := key_zero hz.1
      have e2 := key_zero hz.2
      have s1 := sgF_split x hx
      have s2 := sgF_split y hy
      rw [e1] at s1
      rw [e2] at s2
      constructor
      · intro h
        cases hsx : sgF x <;> cases hsy : sgF y <;> rw [hsx, hsy] at h <;> simp at h
        · rw [s1, s2, hsx, hsy]
        · rw [s1, s2, hsx, hsy]
      · intro h
        rw [h]
    · rw [if_neg hz, cmpI_zero_iff]
      constructor
      · intro h
        have s1 := sgF_split x hx
        have s2 := sgF_split y hy
        have hk := h
        unfold keyF at hk
        cases hsx : sgF x <;> cases hsy : sgF y <;> rw [hsx, hsy] at hk <;> simp only [Bool.false_eq_true, if_false, if_true] at hk
        · have := magF_inj (a := x % 9223372036854775808) (b := y % 9223372036854775808) (by omega)
          rw [s1, s2, hsx, hsy, this]
        · exact absurd (show keyF x = 0 ∧ keyF y = 0 by unfold keyF; rw [hsx, hsy]; simp only [Bool.false_eq_true, if_false, if_true]; omega) hz
        · exact absurd (show keyF x = 0 ∧ keyF y = 0 by unfold keyF; rw [hsx, hsy]; simp only [Bool.false_eq_true, if_false, if_true]; omega) hz
        · have := magF_inj (a := x % 9223372036854775808) (b := y % 9223372036854775808) (by omega)
          rw [s1, s2, hsx, hsy, this]
      · intro h; rw [h]
  · constructor
    · intro h; cases h
    · intro h; subst h; rw [show nanB 9221120237041090561 = true by decide] at h1; cases h1
  · constructor
    · intro h; cases h
    · intro h; subst h; rw [show nanB 9221120237041090561 = true by decide] at h2; cases h2

/-! ### strings -/
theorem less_compare : ∀ (a b : List UInt8), Op.bytesLess a b = decide (Lib.compareBytes a b = -1)
  | [], [] => by simp [Op.bytesLess, Lib.compareBytes]
  | [], y :: b => by simp [Op.bytesLess, Lib.compareBytes]
  | x :: a, [] => by simp [Op.bytesLess, Lib.compareBytes]
  | x :: a, y :: b => by
    have ih := less_compare a b
    unfold Op.bytesLess Lib.compareBytes
    by_cases h1 : x < y
    · simp [h1]
    · by_cases h2 : y < x
      · have h3 : ¬ x = y := fun e => by subst e; exact h1 h2
        simp [h1, h2, h3]
      · have h3 : x = y := UInt8.le_antisymm (UInt8.not_lt.1 h2) (UInt8.not_lt.1 h1)
        subst h3
        simp [ih]
theorem compare_swap : ∀ (a b : List UInt8), Lib.compareBytes a b = -(Lib.compareBytes b a)
  | [], [] => rfl
  | [], y :: b => rfl
  | x :: a, [] => rfl
  | x :: a, y :: b => by
    have ih := compare_swap a b
    unfold Lib.compareBytes
    by_cases h1 : x < y
    · have h2 : ¬ y < x := fun h => by have := UInt8.lt_iff_toNat_lt.1 h; have := UInt8.lt_iff_toNat_lt.1 h1; omega
      simp [h1, h2]
    · by_cases h2 : y < x
      · simp [h1, h2]
      · simp [h1, h2, ih]
theorem compare_three (a b : List UInt8) : Lib.compareBytes a b = -1 ∨ Lib.compareBytes a b = 0 ∨ Lib.compareBytes a b = 1 := by
  induction a generalizing b with
  | nil => cases b <;> simp [Lib.compareBytes]
  | cons x a ih =>
    cases b with
    | nil => simp [Lib.compareBytes]
    | cons y b =>
      unfold Lib.compareBytes
      split
      · simp
      · split
        · simp
        · exact ih b
theorem compare_eq_zero : ∀ (a b : List UInt8), Lib.compareBytes a b = 0 ↔ a = b
  | [], [] => by simp [Lib.compareBytes]
  | [], y :: b => by simp [Lib.compareBytes]
  | x :: a, [] => by simp [Lib.compareBytes]
  | x :: a, y :: b => by
    have ih := compare_eq_zero a b
    unfold Lib.compareBytes
    by_cases h1 : x < y
    · have : x ≠ y := fun e => by subst e; exact UInt8.lt_irrefl _ h1
      simp [h1, this]
    · by_cases h2 : y < x
      · have : x ≠ y := fun e => by subst e; exact UInt8.lt_irrefl _ h2
        simp [h1, h2, this]
      · have h3 : x = y := UInt8.le_antisymm (UInt8.not_lt.1 h2) (UInt8.not_lt.1 h1)
        subst h3
        simp [ih]
end Go.Proofs.YtdbmffagibnibaaGreatDoor
