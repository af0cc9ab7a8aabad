/- Numbers as bytes, the high ones first: plain numbers and lists. No program is named here. -/
import Derived.Laws.BitsAllLaws
import Derived.WalkKit
namespace Go.Proofs.YtdbmffagibnibaaGreatDoor
open Go.RowKit

def byteAt (v i : Nat) : UInt8 := UInt8.ofNat (v / 2 ^ (8 * i))
def putU (v : Nat) : Nat → List UInt8
  | 0 => []
  | k + 1 => byteAt v k :: putU v k
def readU (bs : List UInt8) : Nat := bs.foldl (fun a b => a * 256 + b.toNat) 0
def n8 (m : Int) : Nat := if m < 0 then 0 else if 8 < m then 8 else m.toNat

theorem n8_le (m : Int) : n8 m ≤ 8 := by unfold n8; split <;> (try split) <;> omega
theorem n8_nat (k : Nat) (h : k ≤ 8) : n8 (k : Int) = k := by unfold n8; split <;> (try split) <;> omega
theorem n8_if (m : Int) : ∃ x : Int, (if m < 0 then 0 else m) = x ∧ (if 8 < x then 8 else x) = (n8 m : Int) := by
  refine ⟨_, rfl, ?_⟩
  unfold n8; split <;> split <;> (try split) <;> omega
theorem putU_len (v : Nat) : ∀ k, (putU v k).length = k
  | 0 => rfl
  | k + 1 => by simp [putU, putU_len v k]
theorem byteAt_val (v i : Nat) : ((byteAt v i).toNat : Int) = (v : Int) / 2 ^ (8 * i) % 256 := by
  unfold byteAt
  rw [UInt8.toNat_ofNat']
  simp [Int.natCast_pow]
theorem readU_snoc (bs : List UInt8) (b : UInt8) : readU (bs ++ [b]) = readU bs * 256 + b.toNat := by simp [readU, List.foldl_append]
theorem foldl_readU (bs : List UInt8) : ∀ a : Nat, bs.foldl (fun a b => a * 256 + b.toNat) a = a * 256 ^ bs.length + readU bs := by
  induction bs with
  | nil => intro a; simp [readU]
  | cons b bs ih =>
    intro a
    have h0 := ih (0 * 256 + b.toNat)
    have h1 := ih (a * 256 + b.toNat)
    simp only [readU, List.foldl_cons, List.length_cons] at h0 h1 ⊢
    rw [h1, h0, Nat.pow_succ]
    rw [Nat.add_mul, Nat.mul_assoc, Nat.mul_comm 256]
    simp only [Nat.zero_mul, Nat.zero_add]
    omega
theorem readU_append (a b : List UInt8) : readU (a ++ b) = readU a * 256 ^ b.length + readU b := by
  unfold readU
  rw [List.foldl_append, foldl_readU]
  rfl
theorem readU_lt (bs : List UInt8) : readU bs < 256 ^ bs.length := by
  induction bs with
  | nil => simp [readU]
  | cons b bs ih =>
    have h := readU_append [b] bs
    simp only [List.singleton_append] at h
    rw [h, List.length_cons, Nat.pow_succ]
    have hb : readU [b] = b.toNat := by simp [readU]
    rw [hb]
    have := b.toNat_lt
    have h2 : (b.toNat + 1) * 256 ^ bs.length ≤ 256 * 256 ^ bs.length := Nat.mul_le_mul_right _ (by omega)
    rw [Nat.add_mul] at h2
    omega
theorem readU_put (v : Nat) : ∀ k, readU (putU v k) = v % 256 ^ k
  | 0 => by simp [putU, readU, Nat.mod_one]
  | k + 1 => by
    have h := readU_append [byteAt v k] (putU v k)
    simp only [List.singleton_append] at h
    rw [putU, h, readU_put v k, putU_len]
    have hb : readU [byteAt v k] = v / 256 ^ k % 256 := by
      simp only [readU, List.foldl_cons, List.foldl_nil, byteAt, UInt8.toNat_ofNat']
      rw [Nat.pow_mul]
      simp
    rw [hb, Nat.pow_succ]
    have := Nat.mod_mul (x := v) (a := 256 ^ k) (b := 256)
    rw [this, Nat.mul_comm (v / 256 ^ k % 256), Nat.add_comm]
theorem u64_or_byte (x b : Nat) (hx : x < 72057594037927936) (hb : b < 256) : bits .or .u64 (IntKind.u64.wrap ((x : Int) * 256)) (IntKind.u64.wrap (b : Int)) = ((x * 256 + b : Nat) : Int) := by
  have h1 : IntKind.u64.wrap ((x : Int) * 256) = ((x * 256 : Nat) : Int) := by
    simp [IntKind.wrap, IntKind.bits, IntKind.signed]; omega
  have h2 : IntKind.u64.wrap (b : Int) = (b : Int) := by
    simp [IntKind.wrap, IntKind.bits, IntKind.signed]; omega
  rw [h1, h2, u64_or_nat _ _ (by omega) (by omega)]
  have := Nat.shiftLeft_add_eq_or_of_lt (b := b) (i := 8) (by omega) x
  rw [Nat.shiftLeft_eq, show (2 : Nat) ^ 8 = 256 from rfl] at this
  rw [this]
theorem readU_take_lt (bs : List UInt8) (j : Nat) (hj : j ≤ 7) : readU (bs.take j) < 72057594037927936 := by
  have h := readU_lt (bs.take j)
  have hl : (bs.take j).length ≤ 7 := by simp; omega
  exact Nat.lt_of_lt_of_le h (Nat.le_trans (Nat.pow_le_pow_right (by omega) hl) (by decide))
theorem readU_take_lt8 (bs : List UInt8) (j : Nat) (hj : j ≤ 8) : readU (bs.take j) < 18446744073709551616 := by
  have h := readU_lt (bs.take j)
  have hl : (bs.take j).length ≤ 8 := by simp; omega
  exact Nat.lt_of_lt_of_le h (Nat.le_trans (Nat.pow_le_pow_right (by omega) hl) (by decide))
end Go.Proofs.YtdbmffagibnibaaGreatDoor
