/- The sum of bytes, as plain numbers; that one byte turned makes another sum. No program is named here. -/
import Derived.Laws.BitsAllLaws
import Derived.Laws.BitsLemmas
import Derived.WalkKit
namespace Go.Proofs.YtdnoafjaheofcaaDoor
open Go.RowKit

theorem ofInt_u32 (a : Nat) (ha : a < 4294967296) : (BitVec.ofInt 32 (a : Int)).toNat = a := by
  rw [BitVec.ofInt_natCast, BitVec.toNat_ofNat]; exact Nat.mod_eq_of_lt (by omega)
theorem u32_xor_nat (a b : Nat) (ha : a < 4294967296) (hb : b < 4294967296) : bits .xor .u32 (a : Int) (b : Int) = ((a ^^^ b : Nat) : Int) := by
  have hx : a ^^^ b < 2 ^ 32 := Nat.xor_lt_two_pow (by omega) (by omega)
  show IntKind.u32.wrap ((BitVec.ofInt 32 (a : Int) ^^^ BitVec.ofInt 32 (b : Int)).toNat : Int) = _
  rw [BitVec.toNat_xor, ofInt_u32 a ha, ofInt_u32 b hb]
  simp [IntKind.wrap, IntKind.bits, IntKind.signed]
  omega
theorem u32_and_one (a : Nat) (ha : a < 4294967296) : bits .and .u32 (a : Int) 1 = ((a % 2 : Nat) : Int) := by
  have e : (1 : Int) = ((1 : Nat) : Int) := rfl
  show IntKind.u32.wrap ((BitVec.ofInt 32 (a : Int) &&& BitVec.ofInt 32 (1 : Int)).toNat : Int) = _
  rw [e, BitVec.toNat_and, ofInt_u32 a ha, ofInt_u32 1 (by omega), Nat.and_one_is_mod]
  simp [IntKind.wrap, IntKind.bits, IntKind.signed]
  omega

def crc1 (y : Nat) : Nat := (y / 2) ^^^ (3988292384 * (y % 2))
def crcN : Nat → Nat → Nat
  | 0, y => y
  | n + 1, y => crc1 (crcN n y)
def crcB (s : Nat) (b : UInt8) : Nat := crcN 8 (s ^^^ b.toNat)
def crcL (s : Nat) (bs : List UInt8) : Nat := bs.foldl crcB s
def crc (bs : List UInt8) : Nat := crcL 4294967295 bs ^^^ 4294967295

theorem crc1_lt {y : Nat} (h : y < 4294967296) : crc1 y < 4294967296 := by
  unfold crc1
  exact Nat.xor_lt_two_pow (n := 32) (by omega) (by omega)
theorem crcN_lt (n : Nat) {y : Nat} (h : y < 4294967296) : crcN n y < 4294967296 := by
  induction n with
  | zero => exact h
  | succ n ih => exact crc1_lt ih
theorem xor_byte_lt {s : Nat} (b : UInt8) (h : s < 4294967296) : s ^^^ b.toNat < 4294967296 :=
  Nat.xor_lt_two_pow (n := 32) h (by have := b.toNat_lt; omega)
theorem crcB_lt {s : Nat} (b : UInt8) (h : s < 4294967296) : crcB s b < 4294967296 := crcN_lt 8 (xor_byte_lt b h)
theorem crcL_lt (bs : List UInt8) : ∀ {s : Nat}, s < 4294967296 → crcL s bs < 4294967296 := by
  induction bs with
  | nil => exact fun h => h
  | cons b bs ih => exact fun h => ih (crcB_lt b h)
theorem crc_lt (bs : List UInt8) : crc bs < 4294967296 := Nat.xor_lt_two_pow (n := 32) (crcL_lt bs (by omega)) (by omega)
theorem crcL_append (s : Nat) (a b : List UInt8) : crcL s (a ++ b) = crcL (crcL s a) b := List.foldl_append

theorem xor_right_inj {a b c : Nat} (h : a ^^^ c = b ^^^ c) : a = b := by
  have := congrArg (· ^^^ c) h
  simpa [Nat.xor_assoc] using this
theorem xor_left_inj {a b c : Nat} (h : c ^^^ a = c ^^^ b) : a = b := xor_right_inj (c := c) (by rwa [Nat.xor_comm a, Nat.xor_comm b])

theorem crc1_top (y : Nat) (h : y < 4294967296) : (crc1 y).testBit 31 = decide (y % 2 = 1) := by
  unfold crc1
  rw [Nat.testBit_xor]
  have h1 : (y / 2).testBit 31 = false := Nat.testBit_lt_two_pow (by omega)
  rw [h1]
  rcases Nat.mod_two_eq_zero_or_one y with h2 | h2 <;> rw [h2] <;> decide
theorem crc1_inj {x y : Nat} (hx : x < 4294967296) (hy : y < 4294967296) (h : crc1 x = crc1 y) : x = y := by
  have ht := crc1_top x hx
  rw [h, crc1_top y hy] at ht
  have hm : x % 2 = y % 2 := by
    have : (y % 2 = 1) ↔ (x % 2 = 1) := by simpa using ht
    omega
  unfold crc1 at h
  rw [hm] at h
  have := xor_right_inj h
  omega
theorem crcN_inj (n : Nat) {x y : Nat} (hx : x < 4294967296) (hy : y < 4294967296) (h : crcN n x = crcN n y) : x = y := by
  induction n with
  | zero => exact h
  | succ n ih => exact ih (crc1_inj (crcN_lt n hx) (crcN_lt n hy) h)
theorem crcB_inj {s t : Nat} (b : UInt8) (hs : s < 4294967296) (ht : t < 4294967296) (h : crcB s b = crcB t b) : s = t :=
  xor_right_inj (crcN_inj 8 (xor_byte_lt b hs) (xor_byte_lt b ht) h)
theorem crcB_inj_byte {s : Nat} {a b : UInt8} (hs : s < 4294967296) (h : crcB s a = crcB s b) : a = b :=
  UInt8.toNat_inj.1 (xor_left_inj (crcN_inj 8 (xor_byte_lt a hs) (xor_byte_lt b hs) h))
theorem crcL_inj (bs : List UInt8) : ∀ {s t : Nat}, s < 4294967296 → t < 4294967296 → crcL s bs = crcL t bs → s = t := by
  induction bs with
  | nil => exact fun _ _ h => h
  | cons b bs ih => exact fun hs ht h => crcB_inj b hs ht (ih (crcB_lt b hs) (crcB_lt b ht) h)
/-- ONE BYTE TURNED MAKES ANOTHER SUM. -/
theorem crc_turned (pre post : List UInt8) {a b : UInt8} (hab : a ≠ b) : crc (pre ++ a :: post) ≠ crc (pre ++ b :: post) := by
  intro h
  unfold crc at h
  have h1 := xor_right_inj h
  rw [crcL_append, crcL_append] at h1
  have hs := crcL_lt pre (s := 4294967295) (by omega)
  have h2 : crcB (crcL 4294967295 pre) a = crcB (crcL 4294967295 pre) b := crcL_inj post (crcB_lt a hs) (crcB_lt b hs) h1
  exact hab (crcB_inj_byte hs h2)
theorem crc_set (l : List UInt8) (i : Nat) (hi : i < l.length) (b : UInt8) (hb : b ≠ l[i]) : crc (l.set i b) ≠ crc l := by
  have h1 : l = l.take i ++ l[i] :: l.drop (i + 1) := by rw [List.getElem_cons_drop, List.take_append_drop]
  have h2 : l.set i b = l.take i ++ b :: l.drop (i + 1) := List.set_eq_take_append_cons_drop.trans (if_pos hi)
  rw [h2]
  conv => rhs; rw [h1]
  exact crc_turned _ _ hb
end Go.Proofs.YtdnoafjaheofcaaDoor
