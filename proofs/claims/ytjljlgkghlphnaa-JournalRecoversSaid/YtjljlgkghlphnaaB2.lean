/- The sum of bytes, as plain numbers; that one byte turned makes another sum. No program is named here. -/
import Derived.Laws.BitsAllLaws
import Derived.Laws.BitsLemmas
import Derived.WalkKit
import Derived.Test.YtjljlgkghlphnaaRows
import Derived.Test.YtjljlgkghlphnaaB1
import Derived.Test.YtjljlgkghlphnaaW1
set_option linter.unusedSimpArgs false
set_option linter.unusedVariables false
namespace Go.Proofs.Ytjljlgkghlphnaa
open Go.RowKit
set_option maxRecDepth 100000

theorem ofInt_u32 (a : Nat) (ha : a < 4294967296) : (BitVec.ofInt 32 (a : Int)).toNat = a := by
  rw [BitVec.ofInt_natCast, BitVec.toNat_ofNat]; exact Nat.mod_eq_of_lt (by omega)
theorem u32_xor_nat (a b : Nat) (ha : a < 4294967296) (hb : b < 4294967296) : bits .xor .u32 (a : Int) (b : Int) = ((a ^^^ b : Nat) : Int) := by
  have hx : a ^^^ b < 2 ^ 32 := Nat.xor_lt_two_pow (by omega) (by omega)
  show IntKind.u32.wrap ((BitVec.ofInt 32 (a : Int) ^^^ BitVec.ofInt 32 (b : Int)).toNat : Int) = _
  rw [BitVec.toNat_xor, ofInt_u32 a ha, ofInt_u32 b hb]
  simp [IntKind.wrap, IntKind.bits, IntKind.signed]
  omega
theorem u32_and_one (a : Nat) (ha : a < 4294967296) : bits .and .u32 (a : Int) 1 = ((a % 2 : Nat) : Int) := by
  have e : (1 : Int) = ((1 : Nat) : Int) := rfl
  show IntKind.u32.wrap ((BitVec.ofInt 32 (a : Int) &&& BitVec.ofInt 32 (1 : Int)).toNat : Int) = _
  rw [e, BitVec.toNat_and, ofInt_u32 a ha, ofInt_u32 1 (by omega), Nat.and_one_is_mod]
  simp [IntKind.wrap, IntKind.bits, IntKind.signed]
  omega

def crc1 (y : Nat) : Nat := (y / 2) ^^^ (3988292384 * (y % 2))
def crcN : Nat → Nat → Nat
  | 0, y => y
  | n + 1, y => crc1 (crcN n y)
def crcB (s : Nat) (b : UInt8) : Nat := crcN 8 (s ^^^ b.toNat)
def crcL (s : Nat) (bs : List UInt8) : Nat := bs.foldl crcB s
def crc (bs : List UInt8) : Nat := crcL 4294967295 bs ^^^ 4294967295

theorem crc1_lt {y : Nat} (h : y < 4294967296) : crc1 y < 4294967296 := by
  unfold crc1
  exact Nat.xor_lt_two_pow (n := 32) (by omega) (by omega)
theorem crcN_lt (n : Nat) {y : Nat} (h : y < 4294967296) : crcN n y < 4294967296 := by
  induction n with
  | zero => exact h
  | succ n ih => exact crc1_lt ih
theorem xor_byte_lt {s : Nat} (b : UInt8) (h : s < 4294967296) : s ^^^ b.toNat < 4294967296 :=
  Nat.xor_lt_two_pow (n := 32) h (by have := b.toNat_lt; omega)
theorem crcB_lt {s : Nat} (b : UInt8) (h : s < 4294967296) : crcB s b < 4294967296 := crcN_lt 8 (xor_byte_lt b h)
theorem crcL_lt (bs : List UInt8) : ∀ {s : Nat}, s < 4294967296 → crcL s bs < 4294967296 := by
  induction bs with
  | nil => exact fun h => h
  | cons b bs ih => exact fun h => ih (crcB_lt b h)
theorem crc_lt (bs : List UInt8) : crc bs < 4294967296 := Nat.xor_lt_two_pow (n := 32) (crcL_lt bs (by omega)) (by omega)
theorem crcL_append (s : Nat) (a b : List UInt8) : crcL s (a ++ b) = crcL (crcL s a) b := List.foldl_append

theorem xor_right_inj {a b c : Nat} (h : a ^^^ c = b ^^^ c) : a = b := by
  have := congrArg (· ^^^ c) h
  simpa [Nat.xor_assoc] using this
theorem xor_left_inj {a b c : Nat} (h : c ^^^ a = c ^^^ b) : a = b := xor_right_inj (c := c) (by rwa [Nat.xor_comm a, Nat.xor_comm b])

theorem crc1_top (y : Nat) (h : y < 4294967296) : (crc1 y).testBit 31 = decide (y % 2 = 1) := by
  unfold crc1
  rw [Nat.testBit_xor]
  have h1 : (y / 2).testBit 31 = false := Nat.testBit_lt_two_pow (by omega)
  rw [h1]
  rcases Nat.mod_two_eq_zero_or_one y with h2 | h2 <;> rw [h2] <;> decide
theorem crc1_inj {x y : Nat} (hx : x < 4294967296) (hy : y < 4294967296) (h : crc1 x = crc1 y) : x = y := by
  have ht := crc1_top x hx
  rw [h, crc1_top y hy] at ht
  have hm : x % 2 = y % 2 := by
    have : (y % 2 = 1) ↔ (x % 2 = 1) := by simpa using ht
    omega
  unfold crc1 at h
  rw [hm] at h
  have := xor_right_inj h
  omega
theorem crcN_inj (n : Nat) {x y : Nat} (hx : x < 4294967296) (hy : y < 4294967296) (h : crcN n x = crcN n y) : x = y := by
  induction n with
  | zero => exact h
  | succ n ih => exact ih (crc1_inj (crcN_lt n hx) (crcN_lt n hy) h)
theorem crcB_inj {s t : Nat} (b : UInt8) (hs : s < 4294967296) (ht : t < 4294967296) (h : crcB s b = crcB t b) : s = t :=
  xor_right_inj (crcN_inj 8 (xor_byte_lt b hs) (xor_byte_lt b ht) h)
theorem crcB_inj_byte {s : Nat} {a b : UInt8} (hs : s < 4294967296) (h : crcB s a = crcB s b) : a = b :=
  UInt8.toNat_inj.1 (xor_left_inj (crcN_inj 8 (xor_byte_lt a hs) (xor_byte_lt b hs) h))
theorem crcL_inj (bs : List UInt8) : ∀ {s t : Nat}, s < 4294967296 → t < 4294967296 → crcL s bs = crcL t bs → s = t := by
  induction bs with
  | nil => exact fun _ _ h => h
  | cons b bs ih => exact fun hs ht h => crcB_inj b hs ht (ih (crcB_lt b hs) (crcB_lt b ht) h)
/-- ONE BYTE TURNED MAKES ANOTHER SUM. -/
theorem crc_turned (pre post : List UInt8) {a b : UInt8} (hab : a ≠ b) : crc (pre ++ a :: post) ≠ crc (pre ++ b :: post) := by
  intro h
  unfold crc at h
  have h1 := xor_right_inj h
  rw [crcL_append, crcL_append] at h1
  have hs := crcL_lt pre (s := 4294967295) (by omega)
  have h2 : crcB (crcL 4294967295 pre) a = crcB (crcL 4294967295 pre) b := crcL_inj post (crcB_lt a hs) (crcB_lt b hs) h1
  exact hab (crcB_inj_byte hs h2)
theorem crc_set (l : List UInt8) (i : Nat) (hi : i < l.length) (b : UInt8) (hb : b ≠ l[i]) : crc (l.set i b) ≠ crc l := by
  have h1 : l = l.take i ++ l[i] :: l.drop (i + 1) := by rw [List.getElem_cons_drop, List.take_append_drop]
  have h2 : l.set i b = l.take i ++ b :: l.drop (i + 1) := List.set_eq_take_append_cons_drop.trans (if_pos hi)
  rw [h2]
  conv => rhs; rw [h1]
  exact crc_turned _ _ hb
end Go.Proofs.Ytjljlgkghlphnaa
namespace Go.Proofs.Ytjljlgkghlphnaa
open Go.RowKit
set_option maxRecDepth 100000

theorem crc1_bits (y : Nat) (h : y < 4294967296) : bits .xor .u32 ((y : Int) / 2) (3988292384 * bits .and .u32 (y : Int) 1 % 4294967296) = ((crc1 y : Nat) : Int) := by
  rw [u32_and_one y h, show ((y : Int) / 2) = ((y / 2 : Nat) : Int) from rfl, show (3988292384 * ((y % 2 : Nat) : Int) % 4294967296) = ((3988292384 * (y % 2) : Nat) : Int) from by omega]
  rw [u32_xor_nat _ _ (by omega) (by omega)]
  rfl
theorem crc0_bits (x : Nat) (b : UInt8) (h : x < 4294967296) : bits .xor .u32 (x : Int) ((b.toNat : Int) % 4294967296) = ((x ^^^ b.toNat : Nat) : Int) := by
  have := b.toNat_lt
  rw [show ((b.toNat : Int) % 4294967296) = ((b.toNat : Nat) : Int) from by omega, u32_xor_nat _ _ h (by omega)]
theorem crcE_bits (x : Nat) (h : x < 4294967296) : bits .xor .u32 IntKind.u32.max (x : Int) = ((x ^^^ 4294967295 : Nat) : Int) := by
  rw [show IntKind.u32.max = ((4294967295 : Nat) : Int) from rfl, u32_xor_nat _ _ (by omega) h, Nat.xor_comm]
theorem crcL_take_succ (bs : List UInt8) (s : Nat) {j : Nat} (hj : j < bs.length) : crcL s (bs.take (j + 1)) = crcN 8 (crcL s (bs.take j) ^^^ bs[j].toNat) := by
  rw [List.take_succ_eq_append_getElem hj, crcL_append]
  rfl

theorem sum_contract (A : Option Addr) (c : Nat) (bs : List UInt8) (w : World) (h : Reads w w.heap.size 1 A bs.length (bys bs)) (hl : bs.length ≤ 140737488351232) :
    Calls Try.prog 80 #[.slice A bs.length c] w fun e w' => e = .returned (.int .u32 (crc bs : Nat)) ∧ Below w.heap.size w w' := by
  go_enter Try.func80, Try.ntmps80
  go_wp2
  all_goals
   go_loopw [3, 8] (fun s i w' => ∃ (j : Nat), j ≤ bs.length ∧ s = .int .u32 ((crcL 4294967295 (bs.take j) : Nat) : Int) ∧ i = .int .i64 (j : Int) ∧ Below w.heap.size w w') (fun _ i _ => ((bs.length : Int) - intOf i).toNat)
   case atStart => exact ⟨0, Nat.zero_le _, rfl, rfl, Below.refl _ w⟩
   case round =>
    obtain ⟨j, hj, rfl, rfl, hb⟩ := hrel
    generalize hx : crcL 4294967295 (bs.take j) = x
    have hxl : x < 4294967296 := by rw [← hx]; exact crcL_lt _ (by omega)
    replace hx := Lib.hid hx
    by_cases hlt : j < bs.length
    · obtain ⟨ad, u, rfl, _, hu, hc⟩ := (h.below hb).at_ hlt
      simp only [bys, byv, List.getElem?_map, List.getElem?_eq_getElem hlt, Option.map_some, Option.some.injEq] at hu
      subst hu
      go_wp2_with fail
      rw [show bits .xor .u32 (x : Int) ((bs[j].toNat : Int) % 4294967296) = ((x ^^^ bs[j].toNat : Nat) : Int) from crc0_bits x _ hxl]
      generalize hy0 : x ^^^ bs[j].toNat = y0
      have hy0l : y0 < 4294967296 := by rw [← hy0]; exact xor_byte_lt _ hxl
      replace hy0 := Lib.hid hy0
      go_loopw [3, 16] (fun s i w' => ∃ (m : Nat), m ≤ 8 ∧ s = .int .u32 ((crcN m y0 : Nat) : Int) ∧ i = .int .i64 (m : Int) ∧ Below w.heap.size w w') (fun _ i _ => (8 - intOf i).toNat)
      case atStart => exact ⟨0, by omega, rfl, rfl, by assumption⟩
      case round =>
        obtain ⟨m, hm, rfl, rfl, hb'⟩ := hrel
        generalize hy : crcN m y0 = y
        have hyl : y < 4294967296 := by rw [← hy]; exact crcN_lt _ hy0l
        replace hy := Lib.hid hy
        by_cases hlt' : m < 8
        · go_wp2_with fail
          rw [crc1_bits y hyl]
          go_roundw
          case rel => exact ⟨m + 1, by omega, by rw [← hy.out]; rfl, by simp, by assumption⟩
          case measure => simp [intOf]; omega
        · have he : m = 8 := by omega
          subst he
          go_wp2_with fail
          go_roundw
          case rel => exact ⟨j + 1, by omega, by rw [crcL_take_succ bs _ hlt, hx.out, hy0.out, hy.out], by simp, by assumption⟩
          case measure => simp [intOf]; omega
    · have he : j = bs.length := by omega
      subst he
      go_wp2_with fail
      rw [crcE_bits x hxl]
      go_ret
      have hx := hx.out
      rw [List.take_length] at hx
      subst hx
      exact ⟨rfl, by assumption⟩

theorem crc1_odd (y : Nat) (h : y < 4294967296) (ho : y % 2 = 1) : bits .xor .u32 ((y : Int) / 2) 3988292384 = ((crc1 y : Nat) : Int) := by
  rw [show ((y : Int) / 2) = ((y / 2 : Nat) : Int) from rfl, show (3988292384 : Int) = ((3988292384 : Nat) : Int) from rfl, u32_xor_nat _ _ (by omega) (by omega)]
  simp [crc1, ho]
theorem crc1_even (y : Nat) (ho : y % 2 = 0) : ((y : Int) / 2) = ((crc1 y : Nat) : Int) := by
  simp [crc1, ho]

theorem ref_sum_contract (A : Option Addr) (c : Nat) (bs : List UInt8) (w : World) (h : Reads w w.heap.size 1 A bs.length (bys bs)) (hl : bs.length ≤ 140737488351232) :
    Calls Try.prog 33 #[.slice A bs.length c] w fun e w' => e = .returned (.int .u32 (crc bs : Nat)) ∧ Below w.heap.size w w' := by
  go_enter Try.func33, Try.ntmps33
  go_wp2
  all_goals
   go_loopw [3, 4] (fun s i w' => ∃ (j : Nat), j ≤ bs.length ∧ s = .int .u32 ((crcL 4294967295 (bs.take j) : Nat) : Int) ∧ i = .int .i64 (j : Int) ∧ Below w.heap.size w w') (fun _ i _ => ((bs.length : Int) - intOf i).toNat)
   case atStart => exact ⟨0, Nat.zero_le _, rfl, rfl, Below.refl _ w⟩
   case round =>
    obtain ⟨j, hj, rfl, rfl, hb⟩ := hrel
    generalize hx : crcL 4294967295 (bs.take j) = x
    have hxl : x < 4294967296 := by rw [← hx]; exact crcL_lt _ (by omega)
    replace hx := Lib.hid hx
    by_cases hlt : j < bs.length
    · obtain ⟨ad, u, rfl, _, hu, hc⟩ := (h.below hb).at_ hlt
      simp only [bys, byv, List.getElem?_map, List.getElem?_eq_getElem hlt, Option.map_some, Option.some.injEq] at hu
      subst hu
      go_wp2_with fail
      rw [show bits .xor .u32 (x : Int) ((bs[j].toNat : Int) % 4294967296) = ((x ^^^ bs[j].toNat : Nat) : Int) from crc0_bits x _ hxl]
      generalize hy0 : x ^^^ bs[j].toNat = y0
      have hy0l : y0 < 4294967296 := by rw [← hy0]; exact xor_byte_lt _ hxl
      replace hy0 := Lib.hid hy0
      go_loopw [3, 5] (fun s i w' => ∃ (m : Nat), m ≤ 8 ∧ s = .int .u32 ((crcN m y0 : Nat) : Int) ∧ i = .int .i64 (m : Int) ∧ Below w.heap.size w w') (fun _ i _ => (8 - intOf i).toNat)
      case atStart => exact ⟨0, by omega, rfl, rfl, by assumption⟩
      case round =>
        obtain ⟨m, hm, rfl, rfl, hb'⟩ := hrel
        generalize hy : crcN m y0 = y
        have hyl : y < 4294967296 := by rw [← hy]; exact crcN_lt _ hy0l
        replace hy := Lib.hid hy
        by_cases hlt' : m < 8
        · rcases Nat.mod_two_eq_zero_or_one y with ho | ho
          · have ht : (bits .and .u32 (y : Int) 1 == (1 : Int)) = false := by rw [u32_and_one y hyl, ho]; rfl
            replace ho := Lib.hid ho
            go_wp2_with fail
            rw [crc1_even y ho.out]
            go_roundw
            case rel => exact ⟨m + 1, by omega, by rw [← hy.out]; rfl, by simp, by assumption⟩
            case measure => simp [intOf]; omega
          · have ht : (bits .and .u32 (y : Int) 1 == (1 : Int)) = true := by rw [u32_and_one y hyl, ho]; rfl
            replace ho := Lib.hid ho
            go_wp2_with fail
            rw [crc1_odd y hyl ho.out]
            go_roundw
            case rel => exact ⟨m + 1, by omega, by rw [← hy.out]; rfl, by simp, by assumption⟩
            case measure => simp [intOf]; omega
        · have he : m = 8 := by omega
          subst he
          go_wp2_with fail
          go_roundw
          case rel => exact ⟨j + 1, by omega, by rw [crcL_take_succ bs _ hlt, hx.out, hy0.out, hy.out], by simp, by assumption⟩
          case measure => simp [intOf]; omega
    · have he : j = bs.length := by omega
      subst he
      go_wp2_with fail
      rw [crcE_bits x hxl]
      go_ret
      have hx := hx.out
      rw [List.take_length] at hx
      subst hx
      exact ⟨rfl, by assumption⟩
end Go.Proofs.Ytjljlgkghlphnaa
namespace Go.Proofs.Ytjljlgkghlphnaa
open Go.RowKit
set_option maxRecDepth 100000

def fsum (p : List UInt8) : Nat := crc (putU p.length 4 ++ p)
def framed (p : List UInt8) : List UInt8 := putU p.length 4 ++ putU (fsum p) 4 ++ p
theorem fsum_lt (p : List UInt8) : fsum p < 4294967296 := crc_lt _
theorem framed_len (p : List UInt8) : (framed p).length = 8 + p.length := by simp [framed, putU_len]; omega


theorem wire_put4 {A : Option Addr} {c B : Nat} {bs r : List UInt8} {v : Nat} {w : World} (hr : Reads w B 1 A bs.length (bys bs)) (hB : B ≤ w.heap.size) (hl : bs.length ≤ 100000000000) (hv : v < 18446744073709551616) (he : bs ++ putU v 4 = r) :
    Calls Try.prog 51 #[.slice A bs.length c, .int .u64 (v : Int), .int .i64 4] w (NewBytes w r) := by
  subst he
  exact wire_put (m := 4) hr hB hl hv
theorem ref_put4 {A : Option Addr} {c : Nat} {bs r : List UInt8} {v : Nat} {w : World} (h : Own w 5 1 A bs.length c (bys bs)) (hl : bs.length ≤ 100000000000) (hv : v < 18446744073709551616) (he : bs ++ putU v 4 = r) :
    Calls Try.prog 29 #[.slice A bs.length c, .int .u64 (v : Int), .int .i64 4] w (PutBytes w A r) := by
  subst he
  exact ref_put (m := 4) h hl hv

theorem sum_walk {A : Option Addr} {c : Nat} {p : List UInt8} {w : World} (h : Reads w w.heap.size 1 A p.length (bys p)) (hl : p.length ≤ 10000000000) :
    Calls Try.prog 53 #[.slice A p.length c] w fun e w' => e = .returned (.int .u64 (fsum p : Nat)) ∧ Below w.heap.size w w' := by
  obtain ⟨i0, hi, hz0, hz1, hz2⟩ := info_parts info_u8
  obtain ⟨q, hq⟩ : ∃ q, putU p.length 4 = q := ⟨_, rfl⟩
  obtain ⟨t, ht⟩ : ∃ t, q ++ p = t := ⟨_, rfl⟩
  obtain ⟨r, hcr⟩ : ∃ r, crc t = r := ⟨_, rfl⟩
  have hrl : r < 4294967296 := by rw [← hcr]; exact crc_lt _
  have hql : q.length = 4 := by rw [← hq]; exact putU_len _ _
  have htl : t.length = 4 + p.length := by rw [← ht]; simp [hql]
  replace hq := Lib.hid hq
  replace ht := Lib.hid ht
  replace hcr := Lib.hid hcr
  replace hql := Lib.hid hql
  replace htl := Lib.hid htl
  go_enter Try.func53, Try.ntmps53
  go_wp2_with fail
  refine (wire_put4 (bs := []) (v := p.length) (B := 0) Reads.none_ (Nat.zero_le _) (by simp) (by omega) hq.out).mono ?_
  rintro e w1 ⟨A1, c1, rfl, ho1, hb1, hg1⟩
  dsimp only
  rw [hql.out] at *
  go_wp2_with (at_builtin; go_must (refine wpList_append_mine rfl _ _ 22 22 rfl 5 i0 (.int .u8 0) 1 1 Try.underlying22 hi hz0 hz1 hz2 rfl rfl ho1 rfl (Src.ofReads Try.underlying22 _ (h.below hb1) (bys_one _)) ?b1 ?b2 ?grow))
  case b1 => unfold maxLen; omega
  case b2 => omega
  case grow =>
    intro A2 c2 w2 ho2 hg2 hat2
    have hb2 : Below w.heap.size w w2 := hb1.grown hg2 hb1.size hg1
    rw [← bys_append, ht.out, ← htl.out] at ho2
    rw [← htl.out]
    have htb : t.length ≤ 140737488351232 := by rw [htl.out]; omega
    go_wp2_with fail
    refine (sum_contract A2 c2 t w2 ho2.reads_ htb).mono ?_
    rintro e w3 ⟨rfl, hb3⟩
    dsimp only
    rw [hcr.out]
    go_wp2_with fail
    go_ret
    have hq := hq.out
    have ht := ht.out
    have hcr := hcr.out
    subst hq ht hcr
    exact ⟨rfl, hb2.trans (hb3.mono hb2.size)⟩

def WrapOk (w : World) (bs : List UInt8) (k : IntKind) (e : Ending) (w' : World) : Prop :=
  ∃ A' c', e = .returned (.tuple #[.slice A' bs.length c', .int k 0]) ∧ Own w' 5 1 A' bs.length c' (bys bs) ∧ Below w.heap.size w w' ∧ ∀ g, bOf A' = some g → w.heap.size ≤ g

theorem wrap_walk {A C : Option Addr} {c d : Nat} {bs p r : List UInt8} {w : World} (hb : Reads w w.heap.size 1 A bs.length (bys bs)) (h : Reads w w.heap.size 1 C p.length (bys p)) (hbl : bs.length ≤ 1000000000) (hl : p.length ≤ 65536) (he : bs ++ framed p = r) :
    Calls Try.prog 28 #[.slice A bs.length c, .slice C p.length d] w (WrapOk w r .i64) := by
  obtain ⟨i0, hi, hz0, hz1, hz2⟩ := info_parts info_u8
  obtain ⟨q, hq⟩ : ∃ q, bs ++ putU p.length 4 = q := ⟨_, rfl⟩
  obtain ⟨s, hs⟩ : ∃ s, fsum p = s := ⟨_, rfl⟩
  have hsl : s < 4294967296 := by rw [← hs]; exact fsum_lt _
  obtain ⟨t, ht⟩ : ∃ t, q ++ putU s 4 = t := ⟨_, rfl⟩
  have hqb : q.length ≤ 1000000100 := by rw [← hq]; simp [putU_len]; omega
  have htb : t.length ≤ 1000000100 := by rw [← ht, ← hq]; simp [putU_len]; omega
  have hr : t ++ p = r := by rw [← he, ← ht, ← hq, ← hs]; simp [framed]
  replace he := Lib.hid he
  replace hq := Lib.hid hq
  replace ht := Lib.hid ht
  replace hs := Lib.hid hs
  replace hr := Lib.hid hr
  have hrl : r.length = t.length + p.length := by rw [← hr.out]; simp
  replace hrl := Lib.hid hrl
  go_enter Try.func28, Try.ntmps28
  go_wp2_with fail
  refine (wire_put4 hb (Nat.le_refl _) (by omega) (by omega) hq.out).mono ?_
  rintro e w1 ⟨A1, c1, rfl, ho1, hb1, hg1⟩
  dsimp only
  go_wp2_with fail
  refine (sum_walk ((h.below hb1).more hb1.size) (by omega)).mono ?_
  rintro e w2 ⟨rfl, hb2⟩
  dsimp only
  rw [hs.out]
  have ho1' := ho1.below hb2 (Nat.le_refl _)
  go_wp2_with fail
  refine (wire_put4 ho1'.reads_ (Nat.le_refl _) (by omega) (by omega) ht.out).mono ?_
  rintro e w3 ⟨A3, c3, rfl, ho3, hb3, hg3⟩
  dsimp only
  have hb03 : Below w.heap.size w w3 := below_then hb3 (below_then hb2 hb1)
  have hg3' : ∀ g, bOf A3 = some g → w.heap.size ≤ g := fun g hg => Nat.le_trans (Nat.le_trans hb1.size hb2.size) (hg3 g hg)
  go_wp2_with (at_builtin; go_must (refine wpList_append_mine rfl _ _ 22 22 rfl 5 i0 (.int .u8 0) 1 1 Try.underlying22 hi hz0 hz1 hz2 rfl rfl ho3 rfl (Src.ofReads Try.underlying22 _ (h.below hb03) (bys_one _)) ?b1 ?b2 ?grow))
  case b1 => unfold maxLen; omega
  case b2 => omega
  case grow =>
    intro A4 c4 w4 ho4 hg4 hat4
    have hb4 : Below w.heap.size w w4 := hb03.grown hg4 hb03.size hg3'
    rw [← bys_append, hr.out, ← hrl.out] at ho4
    rw [← hrl.out]
    go_wp2_with fail
    go_ret2
    refine ⟨A4, c4, rfl, ho4, hb4, fun g hg => ?_⟩
    rcases hat4 with h | h <;> rw [h] at hg
    · exact hg3' g hg
    · have := hb03.size; simp at hg; omega

theorem wrap_big {A C : Option Addr} {c d n m : Nat} {w : World} (hl : 65536 < m) (hm : m ≤ 140737488351232) :
    Calls Try.prog 28 #[.slice A n c, .slice C m d] w fun e w' => e = .returned (.tuple #[.slice none 0 0, .int .i64 22]) ∧ w = w' := by
  go_enter Try.func28, Try.ntmps28
  go_wp2
  go_ret2
  exact ⟨rfl, rfl⟩
end Go.Proofs.Ytjljlgkghlphnaa
namespace Go.Proofs.Ytjljlgkghlphnaa
open Go.RowKit
set_option maxRecDepth 100000

def WrapRef (w : World) (row : Option Nat) (bs : List UInt8) (e : Ending) (w' : World) : Prop :=
  ∃ A' c', e = .returned (.tuple #[.slice A' bs.length c', .int .i64 0]) ∧ Own w' 5 1 A' bs.length c' (bys bs) ∧ Upd (fun k => some k = row) w w' ∧ (∀ g, bOf A' = some g → bOf A' = row ∨ w.heap.size ≤ g)

theorem wrap_ref {A C : Option Addr} {c d B : Nat} {bs p r : List UInt8} {row : Option Nat} {w : World} (hgrow : Grows w 5 1 A bs.length c (bys bs) row) (h : Reads w B 1 C p.length (bys p)) (hB : B ≤ w.heap.size) (hrow : ∀ g, row = some g → B ≤ g)
    (hbl : bs.length ≤ 1000000000) (hl : p.length ≤ 65536) (he : bs ++ framed p = r) :
    Calls Try.prog 31 #[.slice A bs.length c, .slice C p.length d] w (WrapRef w row r) := by
  obtain ⟨i0, hi, hz0, hz1, hz2⟩ := info_parts info_u8
  obtain ⟨q, hq⟩ : ∃ q, putU p.length 4 = q := ⟨_, rfl⟩
  obtain ⟨q2, hq2⟩ : ∃ q2, q ++ p = q2 := ⟨_, rfl⟩
  obtain ⟨bq, hbq⟩ : ∃ bq, bs ++ q = bq := ⟨_, rfl⟩
  obtain ⟨s, hs⟩ : ∃ s, crc q2 = s := ⟨_, rfl⟩
  have hsl : s < 4294967296 := by rw [← hs]; exact crc_lt _
  obtain ⟨t, ht⟩ : ∃ t, bq ++ putU s 4 = t := ⟨_, rfl⟩
  have hql : 4 = q.length := by rw [← hq]; exact (putU_len _ _).symm
  have hq2l : 4 + p.length = q2.length := by rw [← hq2]; simp [← hql]
  have hbql : bs.length + 4 = bq.length := by rw [← hbq]; simp [← hql]
  have htl : bq.length + 4 = t.length := by rw [← ht]; simp [putU_len]
  have hr : t ++ p = r := by rw [← he, ← ht, ← hbq, ← hs, ← hq2, ← hq]; simp [framed, fsum]
  have hrl : t.length + p.length = r.length := by rw [← hr]; simp
  have hb0 : q2.length ≤ 70000 := by omega
  have hb1 : bq.length ≤ 1000000004 := by omega
  have hb2 : t.length ≤ 1000000008 := by omega
  replace he := Lib.hid he
  replace hq := Lib.hid hq
  replace hq2 := Lib.hid hq2
  replace hbq := Lib.hid hbq
  replace ht := Lib.hid ht
  replace hs := Lib.hid hs
  replace hr := Lib.hid hr
  replace hrl := Lib.hid hrl
  replace hql := Lib.hid hql
  replace hq2l := Lib.hid hq2l
  replace hbql := Lib.hid hbql
  replace htl := Lib.hid htl
  go_enter Try.func31, Try.ntmps31
  go_wp2_with fail
  refine (ref_put4 (bs := []) Own.none_ (by simp) (by omega) hq.out).mono ?_
  rintro e w1 ⟨H1, k1, rfl, ho1, hu1, hg1⟩
  dsimp only
  have hb1' : Below w.heap.size w w1 := hu1.below (Nat.le_refl _) (fun k _ h => by simp [bOf] at h)
  have hH1 : ∀ g, bOf H1 = some g → w.heap.size ≤ g := by
    rcases hg1 with h | h
    · intro g hg; rw [h] at hg; cases hg
    · exact h
  rw [← hql.out] at *
  have hgrow1 := hgrow.below hb1'
  go_wp2_with (at_builtin; go_must (refine wpList_append_grows rfl _ _ 22 22 rfl 5 i0 (.int .u8 0) 1 1 Try.underlying22 hi hz0 hz1 hz2 rfl rfl hgrow1 rfl (Src.ofReads Try.underlying22 _ ho1.reads_ (bys_one _)) (by omega) ?b1 ?b2 ?grow))
  case b1 => unfold maxLen; omega
  case b2 => omega
  case grow =>
    intro A2 c2 w2 ho2 hg2 hat2
    rw [← bys_append, hbq.out, hbql.out] at ho2
    rw [hbql.out]
    have hu2 : Upd (fun k => some k = row) w w2 := (Upd.of_below_size hb1').grown hg2 (fun k hk _ => hk.symm)
    have ho1b : Own w2 5 1 H1 4 k1 (bys q) := ho1.upd (S := fun k => some k = row) ((Upd.refl _ _).grown hg2 (fun k hk _ => hk.symm)) (fun g hg hrw => by
      have := hgrow.lt hrw.symm; have := hH1 g hg; omega)
    have hA2 : ∀ g, bOf A2 = some g → bOf A2 = row ∨ w.heap.size ≤ g := fun g hg => by
      rcases hat2 with h | h
      · exact .inl h
      · rw [h] at hg; have := hb1'.size; simp at hg; exact .inr (by omega)
    have hne2 : ∀ g, bOf A2 = some g → bOf H1 ≠ some g := fun g hg hh => by
      have := hH1 g hh
      have h3 := ho1.lt hh
      rcases hat2 with h | h
      · have := hgrow.lt (h ▸ hg); omega
      · rw [h] at hg; simp at hg; omega
    clear hat2
    have hp2 := h.upd hu2 (fun k hk hr => by have := hrow k hr.symm; omega) hB
    go_wp2_with (at_builtin; go_must (refine wpList_append_mine rfl _ _ 22 22 rfl 5 i0 (.int .u8 0) 1 1 Try.underlying22 hi hz0 hz1 hz2 rfl rfl ho1b rfl (Src.ofReads Try.underlying22 _ hp2 (bys_one _)) ?b1 ?b2 ?grow))
    case b1 => unfold maxLen; omega
    case b2 => omega
    case grow =>
      intro H3 k3 w3 ho3 hg3 hat3
      rw [← bys_append, hq2.out, hq2l.out] at ho3
      rw [hq2l.out]
      have hu3 : Upd (fun k => some k = row) w w3 := hu2.grown hg3 (fun k hk hlt => by have := hH1 k hk; omega)
      have ho2b : Own w3 5 1 A2 bq.length c2 (bys bq) := ho2.upd (S := fun k => some k = bOf H1) ((Upd.refl _ _).grown hg3 (fun k hk _ => hk.symm)) (fun g hg hh => hne2 g hg hh.symm)
      go_wp2_with fail
      refine (ref_sum_contract H3 k3 q2 w3 ho3.reads_ (by omega)).mono ?_
      rintro e w4 ⟨rfl, hb4⟩
      dsimp only
      rw [hs.out]
      have ho2c := ho2b.below hb4 (Nat.le_refl _)
      have hu4 : Upd (fun k => some k = row) w w4 := hu3.thenBelow hb4 hu3.size
      go_wp2_with fail
      refine (ref_put4 ho2c (by omega) (by omega) ht.out).mono ?_
      rintro e w5 ⟨A5, c5, rfl, ho5, hu5, hat5⟩
      dsimp only
      have hu5' : Upd (fun k => some k = row) w w5 := hu4.trans hu5 (fun i hi hh => by
        rcases hA2 i hh.symm with h | h
        · rw [← h]; exact hh
        · omega)
      have hA5 : ∀ g, bOf A5 = some g → bOf A5 = row ∨ w.heap.size ≤ g := fun g hg => by
        rcases hat5 with h | h
        · rw [h] at hg ⊢; exact hA2 g hg
        · have := h g hg; have := hu4.size; exact .inr (by omega)
      have hp5 := h.upd hu5' (fun k hk hr => by have := hrow k hr.symm; omega) hB
      go_wp2_with (at_builtin; go_must (refine wpList_append_mine rfl _ _ 22 22 rfl 5 i0 (.int .u8 0) 1 1 Try.underlying22 hi hz0 hz1 hz2 rfl rfl ho5 rfl (Src.ofReads Try.underlying22 _ hp5 (bys_one _)) ?b1 ?b2 ?grow))
      case b1 => unfold maxLen; omega
      case b2 => omega
      case grow =>
        intro A6 c6 w6 ho6 hg6 hat6
        rw [← bys_append, hr.out, hrl.out] at ho6
        rw [hrl.out]
        go_wp2_with fail
        go_ret2
        refine ⟨A6, c6, rfl, ho6, hu5'.grown hg6 (fun k hk hlt => ?_), fun g hg => ?_⟩
        · rcases hA5 k hk with h | h
          · rw [← h]; exact hk.symm
          · omega
        · rcases hat6 with h | h
          · rw [h] at hg ⊢; exact hA5 g hg
          · rw [h] at hg; have := hu5'.size; simp at hg; exact .inr (by omega)
end Go.Proofs.Ytjljlgkghlphnaa
namespace Go.Proofs.Ytjljlgkghlphnaa
open Go.RowKit
set_option maxRecDepth 100000

def opened (b : List UInt8) : List UInt8 × Nat × Nat :=
  if b.length < 8 then ([], 0, 23) else
  if 65536 < readU (b.take 4) then ([], 0, 22) else
  if b.length - 8 < readU (b.take 4) then ([], 0, 23) else
  if fsum ((b.drop 8).take (readU (b.take 4))) = readU ((b.drop 4).take 4) then ((b.drop 8).take (readU (b.take 4)), 8 + readU (b.take 4), 0) else ([], 0, 21)

def OpenRes (w : World) (r : List UInt8 × Nat × Nat) (e : Ending) (w' : World) : Prop :=
  ∃ A' c', e = .returned (.tuple #[.slice A' r.1.length c', .int .i64 (r.2.1 : Nat), .int .i64 (r.2.2 : Nat)]) ∧ Own w' 5 1 A' r.1.length c' (bys r.1) ∧ Below w.heap.size w w' ∧ ∀ g, bOf A' = some g → w.heap.size ≤ g

set_option maxHeartbeats 800000 in
theorem open_walk {A : Option Addr} {c : Nat} {b : List UInt8} {w : World} (h : Reads w w.heap.size 1 A b.length (bys b)) (hc : b.length ≤ c) (hl : b.length ≤ 1000000000) :
    Calls Try.prog 37 #[.slice A b.length c] w (OpenRes w (opened b)) := by
  go_enter Try.func37, Try.ntmps37
  by_cases h8 : b.length < 8
  · go_wp2_with fail
    go_ret3
    have ho : opened b = ([], 0, 23) := by unfold opened; rw [if_pos h8]
    rw [ho]
    exact ⟨none, 0, rfl, Own.none_, Below.refl _ _, by simp [bOf]⟩
  · obtain ⟨ad, rfl, had, hcell⟩ := h.2 (by omega)
    go_wp2_with fail
    refine (wire_read (k := 4) h (by omega) (by omega) hc (by omega)).mono ?_
    rintro e w1 ⟨rfl, hb1⟩
    dsimp only
    obtain ⟨n, hn⟩ : ∃ n, readU (b.take 4) = n := ⟨_, rfl⟩
    have hnl : n < 4294967296 := by
      have h0 := readU_lt (b.take 4)
      rw [List.length_take, Nat.min_eq_left (by omega)] at h0
      rw [← hn]; simpa using h0
    rw [hn]
    replace hn := Lib.hid hn
    have hr4 : Reads w w.heap.size 1 (some ⟨ad.block, ad.off + 4, none⟩) (b.length - 4) (bys (b.drop 4)) := by
      have := h.cut (k := 4) (cap := b.length) (by omega) (Nat.le_refl _)
      rw [if_neg (by omega), Nat.mul_one, bys_drop] at this
      exact this
    have hr8 : Reads w w.heap.size 1 (if c = 8 then some ad else some ⟨ad.block, ad.off + 8, none⟩) (b.length - 8) (bys (b.drop 8)) := by
      have := h.cut (k := 8) (cap := c) (by omega) hc
      rw [Nat.mul_one, bys_drop] at this
      exact this
    obtain ⟨s, hs⟩ : ∃ s, readU ((b.drop 4).take 4) = s := ⟨_, rfl⟩
    have hsl : s < 4294967296 := by
      have h0 := readU_lt ((b.drop 4).take 4)
      rw [List.length_take, List.length_drop, Nat.min_eq_left (by omega)] at h0
      rw [← hs]; simpa using h0
    replace hs := Lib.hid hs
    have h4l : (b.drop 4).length = b.length - 4 := by simp
    rw [← h4l] at hr4
    go_wp2_with fail
    rw [← h4l]
    refine (wire_read (k := 4) ((hr4.below hb1).more hb1.size) (by omega) (by omega) (by omega) (by omega)).mono ?_
    rintro e w2 ⟨rfl, hb2'⟩
    dsimp only
    have hb2 := below_then hb2' hb1
    rw [hs.out]
    by_cases hbig : 65536 < n
    · go_wp2_with fail
      go_ret3
      have ho : opened b = ([], 0, 22) := by unfold opened; rw [if_neg h8, hn.out, if_pos hbig]
      rw [ho]
      exact ⟨none, 0, rfl, Own.none_, hb2, by simp [bOf]⟩
    by_cases hmore : b.length - 8 < n
    · go_wp2_with fail
      go_ret3
      have ho : opened b = ([], 0, 23) := by unfold opened; rw [if_neg h8, hn.out, if_neg hbig, if_pos hmore]
      rw [ho]
      exact ⟨none, 0, rfl, Own.none_, hb2, by simp [bOf]⟩
    obtain ⟨p, hp⟩ : ∃ p, (b.drop 8).take n = p := ⟨_, rfl⟩
    have hpl : p.length = n := by rw [← hp]; simp; omega
    have hrp := (hr8.first (k := n) (by omega))
    rw [Nat.mul_one, bys_take, hp] at hrp
    have hrp' : Reads w w.heap.size 1 (some ⟨ad.block, ad.off + 8, none⟩) n (bys p) := by
      rcases Nat.eq_zero_or_pos n with h0 | h0
      · subst h0
        have := hrp.1
        exact ⟨this, fun h => absurd h (by omega)⟩
      · rw [if_neg (by omega)] at hrp
        exact hrp
    replace hp := Lib.hid hp
    replace hn := Lib.hid hn.out
    clear hrp hr8
    subst hpl
    have hrc : Reads w2 w2.heap.size 1 (some ⟨ad.block, ad.off + 8, none⟩) p.length (bys p) := (hrp'.below hb2).more hb2.size
    have hpb : p.length ≤ 100000 := by omega
    clear hrp'
    go_wp2_with fail
    all_goals
     refine (clone_bytes (B := w2.heap.size) (bs := p) (by first | exact hrc | exact ⟨hrc.1, fun h => absurd h (by omega)⟩) (Nat.le_refl _) (Nat.le_trans hpb (by decide))).mono ?_
     rintro e w3 ⟨A3, c3, rfl, ho3, hb3', hg3⟩
     dsimp only
     have hb3 := below_then hb3' hb2
     go_wp2_with fail
     refine (sum_walk ho3.reads_ (by omega)).mono ?_
     rintro e w4 ⟨rfl, hb4'⟩
     dsimp only
     have hb4 := below_then hb4' hb3
     have hfl := fsum_lt p
     obtain ⟨f, hf⟩ : ∃ f, fsum p = f := ⟨_, rfl⟩
     rw [hf] at hfl ⊢
     replace hf := Lib.hid hf
     by_cases hfs : f = s
     · subst hfs
       go_wp2_with fail
       go_ret3
       have ho : opened b = (p, 8 + p.length, 0) := by unfold opened; rw [if_neg h8, hn.out, if_neg hbig, if_neg hmore, hp.out, hf.out, hs.out, if_pos rfl]
       rw [ho]
       exact ⟨A3, c3, by simp, ho3.below hb4' (Nat.le_refl _), hb4, fun g hg => Nat.le_trans hb2.size (hg3 g hg)⟩
     · go_wp2_with fail
       go_ret3
       have ho : opened b = ([], 0, 21) := by unfold opened; rw [if_neg h8, hn.out, if_neg hbig, if_neg hmore, hp.out, hf.out, hs.out, if_neg hfs]
       rw [ho]
       exact ⟨none, 0, rfl, Own.none_, hb4, by simp [bOf]⟩
end Go.Proofs.Ytjljlgkghlphnaa
namespace Go.Proofs.Ytjljlgkghlphnaa
open Go.RowKit
set_option maxRecDepth 100000

theorem byteAt_low (x r k i : Nat) (hi : i < k) : byteAt (x * 256 ^ k + r) i = byteAt r i := by
  unfold byteAt
  apply UInt8.toNat_inj.1
  rw [UInt8.toNat_ofNat', UInt8.toNat_ofNat', Nat.pow_mul]
  have h1 : (2 ^ 8 : Nat) = 256 := rfl
  rw [h1]
  have h2 : x * 256 ^ k = 256 ^ i * (x * 256 ^ (k - i - 1) * 256) := by
    have : 256 ^ k = 256 ^ i * (256 ^ (k - i - 1) * 256) := by
      rw [← Nat.pow_succ, ← Nat.pow_add]; congr 1; omega
    rw [this]
    simp only [Nat.mul_left_comm, Nat.mul_assoc, Nat.mul_comm]
  rw [h2, Nat.mul_add_div (Nat.pos_of_ne_zero (by simp))]
  omega
theorem putU_low (x r k : Nat) : ∀ j, j ≤ k → putU (x * 256 ^ k + r) j = putU r j
  | 0, _ => rfl
  | j + 1, h => by rw [putU, putU, putU_low x r k j (by omega), byteAt_low x r k j (by omega)]
theorem putU_readU : ∀ l : List UInt8, putU (readU l) l.length = l
  | [] => rfl
  | b :: l => by
    have h := readU_append [b] l
    have hb : readU [b] = b.toNat := by simp [readU]
    rw [List.singleton_append, hb] at h
    rw [h, List.length_cons, putU, putU_low _ _ _ _ (Nat.le_refl _), putU_readU l]
    congr 1
    unfold byteAt
    apply UInt8.toNat_inj.1
    have hl := readU_lt l
    have hbl := b.toNat_lt
    rw [UInt8.toNat_ofNat', Nat.pow_mul, show (2 ^ 8 : Nat) = 256 from rfl, Nat.mul_comm b.toNat, Nat.mul_add_div (by omega), Nat.div_eq_of_lt hl]
    omega
theorem fsum_take (b p : List UInt8) (h4 : 4 ≤ b.length) (hp : p.length = readU (b.take 4)) : crc (b.take 4 ++ p) = fsum p := by
  have h := putU_readU (b.take 4)
  rw [List.length_take, Nat.min_eq_left h4] at h
  rw [fsum, hp, h]

theorem Reads.eqn {w : World} {B size n n' : Nat} {A : Option Addr} {xs : List Value} (h : Reads w B size A n xs) (e : n' = n) : Reads w B size A n' xs := by subst e; exact h

theorem fresh_of {A : Option Addr} {n : Nat} (h : bOf A = bOf none ∨ bOf A = some n) : ∀ g, bOf A = some g → n ≤ g := by
  intro g hg
  rcases h with h | h <;> rw [h] at hg <;> simp [bOf] at hg
  omega

set_option maxHeartbeats 1600000 in
theorem open_ref {A : Option Addr} {c : Nat} {b : List UInt8} {w : World} (h : Reads w w.heap.size 1 A b.length (bys b)) (hc : b.length ≤ c) (hl : b.length ≤ 1000000000) :
    Calls Try.prog 13 #[.slice A b.length c] w (OpenRes w (opened b)) := by
  obtain ⟨i0, hi, hz0, hz1, hz2⟩ := info_parts info_u8
  go_enter Try.func13, Try.ntmps13
  by_cases h8 : b.length < 8
  · go_wp2_with fail
    go_ret3
    have ho : opened b = ([], 0, 23) := by unfold opened; rw [if_pos h8]
    rw [ho]
    exact ⟨none, 0, rfl, Own.none_, Below.refl _ _, by simp [bOf]⟩
  · obtain ⟨ad, rfl, had, hcell⟩ := h.2 (by omega)
    go_wp2_with fail
    refine (ref_read (k := 4) h (by omega) (by omega) (by omega)).mono ?_
    rintro e w1 ⟨rfl, hb1⟩
    dsimp only
    obtain ⟨n, hn⟩ : ∃ n, readU (b.take 4) = n := ⟨_, rfl⟩
    have hnl : n < 4294967296 := by
      have h0 := readU_lt (b.take 4)
      rw [List.length_take, Nat.min_eq_left (by omega)] at h0
      rw [← hn]; simpa using h0
    rw [hn]
    replace hn := Lib.hid hn
    have hr4 : Reads w w.heap.size 1 (some ⟨ad.block, ad.off + 4, none⟩) (b.length - 4) (bys (b.drop 4)) := by
      have := h.cut (k := 4) (cap := b.length) (by omega) (Nat.le_refl _)
      rw [if_neg (by omega), Nat.mul_one, bys_drop] at this
      exact this
    have hr8 : Reads w w.heap.size 1 (if c = 8 then some ad else some ⟨ad.block, ad.off + 8, none⟩) (b.length - 8) (bys (b.drop 8)) := by
      have := h.cut (k := 8) (cap := c) (by omega) hc
      rw [Nat.mul_one, bys_drop] at this
      exact this
    have hrh : Reads w w.heap.size 1 (some ad) 4 (bys (b.take 4)) := by
      have := h.first (k := 4) (by omega)
      rw [Nat.mul_one, bys_take] at this
      exact this
    obtain ⟨s, hs⟩ : ∃ s, readU ((b.drop 4).take 4) = s := ⟨_, rfl⟩
    have hsl : s < 4294967296 := by
      have h0 := readU_lt ((b.drop 4).take 4)
      rw [List.length_take, List.length_drop, Nat.min_eq_left (by omega)] at h0
      rw [← hs]; simpa using h0
    replace hs := Lib.hid hs
    have h4l : (b.drop 4).length = b.length - 4 := by simp
    rw [← h4l] at hr4
    by_cases hbig : 65536 < n
    · go_wp2_with fail
      go_ret3
      have ho : opened b = ([], 0, 22) := by unfold opened; rw [if_neg h8, hn.out, if_pos hbig]
      rw [ho]
      exact ⟨none, 0, rfl, Own.none_, hb1, by simp [bOf]⟩
    by_cases hmore : b.length - 8 < n
    · go_wp2_with fail
      go_ret3
      have ho : opened b = ([], 0, 23) := by unfold opened; rw [if_neg h8, hn.out, if_neg hbig, if_pos hmore]
      rw [ho]
      exact ⟨none, 0, rfl, Own.none_, hb1, by simp [bOf]⟩
    go_wp2_with fail
    rw [← h4l]
    refine (ref_read (k := 4) ((hr4.below hb1).more hb1.size) (by omega) (by omega) (by omega)).mono ?_
    rintro e w2 ⟨rfl, hb2'⟩
    dsimp only
    have hb2 := below_then hb2' hb1
    rw [hs.out]
    obtain ⟨p, hp⟩ : ∃ p, (b.drop 8).take n = p := ⟨_, rfl⟩
    have hpl : p.length = n := by rw [← hp]; simp; omega
    have hrp := (hr8.first (k := n) (by omega))
    rw [Nat.mul_one, bys_take, hp] at hrp
    have hcr : crc (b.take 4 ++ p) = fsum p := fsum_take b p (by omega) (by rw [hn.out, hpl])
    replace hcr := Lib.hid hcr
    replace hp := Lib.hid hp
    replace hn := Lib.hid hn.out
    clear hr8
    subst hpl
    have e88 : 8 + p.length - 8 = p.length := by omega
    have hrc : Reads w2 w2.heap.size 1 (if c = 8 then some ad else some ⟨ad.block, ad.off + 8, none⟩) (8 + p.length - 8) (bys p) := ((hrp.below hb2).more hb2.size).eqn e88
    have hpb : p.length ≤ 100000 := by omega
    clear hrp
    go_wp2_with (at_builtin; go_must (refine wpList_append_mine rfl _ _ 22 22 rfl 5 i0 (.int .u8 0) 1 1 Try.underlying22 hi hz0 hz1 hz2 rfl rfl Own.none_ rfl (Src.ofReads Try.underlying22 (B := w2.heap.size) (xs := bys p) _ hrc (bys_one _)) ?b1 ?b2 ?grow))
    all_goals first | (unfold maxLen; omega) | omega | skip
    all_goals
     intro A3 c3 w3 ho3 hg3 hat3
     have hb3' : Below w2.heap.size w2 w3 := (Below.refl _ w2).grown hg3 (Nat.le_refl _) (fun k hk => by simp [bOf] at hk)
     have hA3 : ∀ g, bOf A3 = some g → w2.heap.size ≤ g := by
       intro g hg
       rcases hat3 with h | h <;> rw [h] at hg <;> simp [bOf] at hg
       omega
     have hb3 := below_then hb3' hb2
     have hrh3 : Reads w3 w.heap.size 1 (some ad) 4 (bys (b.take 4)) := hrh.below hb3
     try simp only [Nat.zero_add, List.nil_append, e88] at ho3
     try simp only [Nat.zero_add, e88]
     clear hat3
     have ht4 : (b.take 4).length = 4 := by simp; omega
     obtain ⟨q, hq⟩ : ∃ q, b.take 4 = q := ⟨_, rfl⟩
     rw [hq] at hrh3 ht4
     have hcr' := hcr.out
     rw [hq] at hcr'
     obtain ⟨t, ht⟩ : ∃ t, q ++ p = t := ⟨_, rfl⟩
     rw [ht] at hcr'
     have htl : 4 + p.length = t.length := by rw [← ht]; simp [ht4]
     have htb : t.length ≤ 200000 := by omega
     replace ht := Lib.hid ht
     replace htl := Lib.hid htl
     replace hq := Lib.hid hq
     replace ht4 := Lib.hid ht4
     replace hcr' := Lib.hid hcr'
     go_wp2_with (at_builtin; first | (refine wpList_append_mine rfl _ _ 22 22 rfl 5 i0 (.int .u8 0) 1 1 Try.underlying22 hi hz0 hz1 hz2 rfl rfl Own.none_ rfl (Src.ofReads Try.underlying22 _ hrh3 (bys_one _)) (by decide) (by decide) (fun A4 c4 w4 ho4 hg4 hat4 => ?_); have hb4' : Below w3.heap.size w3 w4 := (Below.refl _ w3).grown hg4 (Nat.le_refl _) (fun k hk => by simp [bOf] at hk); have hA4 : ∀ g, bOf A4 = some g → w3.heap.size ≤ g := (fresh_of hat4); have hb4 := below_then hb4' hb3; have ho34 := ho3.below hb4' (Nat.le_refl _); clear hat4; simp only [Nat.zero_add, List.nil_append] at ho4) | (refine wpList_append_mine rfl _ _ 22 22 rfl 5 i0 (.int .u8 0) 1 1 Try.underlying22 hi hz0 hz1 hz2 rfl rfl ho4 rfl (Src.ofReads Try.underlying22 _ ho34.reads_ (bys_one _)) (by unfold maxLen; omega) (by omega) (fun A5 c5 w5 ho5 hg5 hat5 => ?_); clear hat5))
     have hb5 : Below w.heap.size w w5 := hb4.grown hg5 hb4.size (fun k hk => Nat.le_trans hb3.size (hA4 k hk))
     have ho35 : Own w5 5 1 A3 p.length c3 (bys p) := ho34.upd (S := fun k => some k = bOf A4) ((Upd.refl _ _).grown hg5 (fun k hk _ => hk.symm)) (fun g hg hh => by
       have := ho3.lt hg; have := hA4 g hh.symm; omega)
     rw [← bys_append, ht.out, htl.out] at ho5
     rw [htl.out]
     go_wp2_with fail
     refine (ref_sum_contract A5 c5 t w5 ho5.reads_ (by omega)).mono ?_
     rintro e w6 ⟨rfl, hb6'⟩
     dsimp only
     rw [hcr'.out]
     have hb6 := below_then hb6' hb5
     have ho36 := ho35.below hb6' (Nat.le_refl _)
     have hfl := fsum_lt p
     obtain ⟨f, hf⟩ : ∃ f, fsum p = f := ⟨_, rfl⟩
     rw [hf] at hfl ⊢
     replace hf := Lib.hid hf
     by_cases hfs : f = s
     · subst hfs
       go_wp2_with fail
       go_ret3
       have ho : opened b = (p, 8 + p.length, 0) := by unfold opened; rw [if_neg h8, hn.out, if_neg hbig, if_neg hmore, hp.out, hf.out, hs.out, if_pos rfl]
       rw [ho]
       exact ⟨A3, c3, by simp, ho36, hb6, fun g hg => Nat.le_trans hb2.size (hA3 g hg)⟩
     · go_wp2_with fail
       go_ret3
       have ho : opened b = ([], 0, 21) := by unfold opened; rw [if_neg h8, hn.out, if_neg hbig, if_neg hmore, hp.out, hf.out, hs.out, if_neg hfs]
       rw [ho]
       exact ⟨none, 0, rfl, Own.none_, hb6, by simp [bOf]⟩
end Go.Proofs.Ytjljlgkghlphnaa
