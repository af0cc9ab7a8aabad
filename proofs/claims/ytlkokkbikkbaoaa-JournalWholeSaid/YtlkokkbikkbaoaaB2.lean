/- The sum of bytes, as plain numbers; that one byte turned makes another sum. No program is named here. -/
import Derived.Laws.BitsAllLaws
import Derived.Laws.BitsLemmas
import Derived.WalkKit
import Derived.Test.YtlkokkbikkbaoaaRows
import Derived.Test.YtlkokkbikkbaoaaB1
import Derived.Test.YtlkokkbikkbaoaaW1
set_option linter.unusedSimpArgs false
set_option linter.unusedVariables false
set_option linter.unusedSimpArgs false
set_option linter.unusedVariables false
namespace Go.Proofs.Ytlkokkbikkbaoaa
open Go.RowKit
set_option maxRecDepth 100000

theorem ofInt_u32 (a : Nat) (ha : a < 4294967296) : (BitVec.ofInt 32 (a : Int)).toNat = a := by
  rw [BitVec.ofInt_natCast, BitVec.toNat_ofNat]; exact Nat.mod_eq_of_lt (by omega)
theorem u32_xor_nat (a b : Nat) (ha : a < 4294967296) (hb : b < 4294967296) : bits .xor .u32 (a : Int) (b : Int) = ((a ^^^ b : Nat) : Int) := by
  have hx : a ^^^ b < 2 ^ 32 := Nat.xor_lt_two_pow (by omega) (by omega)
  show IntKind.u32.wrap ((BitVec.ofInt 32 (a : Int) ^^^ BitVec.ofInt 32 (b : Int)).toNat : Int) = _
  rw [BitVec.toNat_xor, ofInt_u32 a ha, ofInt_u32 b hb]
  simp [IntKind.wrap, IntKind.bits, IntKind.signed]
  omega
theorem u32_and_one (a : Nat) (ha : a < 4294967296) : bits .and .u32 (a : Int) 1 = ((a % 2 : Nat) : Int) := by
  have e : (1 : Int) = ((1 : Nat) : Int) := rfl
  show IntKind.u32.wrap ((BitVec.ofInt 32 (a : Int) &&& BitVec.ofInt 32 (1 : Int)).toNat : Int) = _
  rw [e, BitVec.toNat_and, ofInt_u32 a ha, ofInt_u32 1 (by omega), Nat.and_one_is_mod]
  simp [IntKind.wrap, IntKind.bits, IntKind.signed]
  omega

def crc1 (y : Nat) : Nat := (y / 2) ^^^ (3988292384 * (y % 2))
def crcN : Nat → Nat → Nat
  | 0, y => y
  | n + 1, y => crc1 (crcN n y)
def crcB (s : Nat) (b : UInt8) : Nat := crcN 8 (s ^^^ b.toNat)
def crcL (s : Nat) (bs : List UInt8) : Nat := bs.foldl crcB s
def crc (bs : List UInt8) : Nat := crcL 4294967295 bs ^^^ 4294967295

theorem crc1_lt {y : Nat} (h : y < 4294967296) : crc1 y < 4294967296 := by
  unfold crc1
  exact Nat.xor_lt_two_pow (n := 32) (by omega) (by omega)
theorem crcN_lt (n : Nat) {y : Nat} (h : y < 4294967296) : crcN n y < 4294967296 := by
  induction n with
  | zero => exact h
  | succ n ih => exact crc1_lt ih
theorem xor_byte_lt {s : Nat} (b : UInt8) (h : s < 4294967296) : s ^^^ b.toNat < 4294967296 :=
  Nat.xor_lt_two_pow (n := 32) h (by have := b.toNat_lt; omega)
theorem crcB_lt {s : Nat} (b : UInt8) (h : s < 4294967296) : crcB s b < 4294967296 := crcN_lt 8 (xor_byte_lt b h)
theorem crcL_lt (bs : List UInt8) : ∀ {s : Nat}, s < 4294967296 → crcL s bs < 4294967296 := by
  induction bs with
  | nil => exact fun h => h
  | cons b bs ih => exact fun h => ih (crcB_lt b h)
theorem crc_lt (bs : List UInt8) : crc bs < 4294967296 := Nat.xor_lt_two_pow (n := 32) (crcL_lt bs (by omega)) (by omega)
theorem crcL_append (s : Nat) (a b : List UInt8) : crcL s (a ++ b) = crcL (crcL s a) b := List.foldl_append

end Go.Proofs.Ytlkokkbikkbaoaa
set_option linter.unusedSimpArgs false
set_option linter.unusedVariables false
namespace Go.Proofs.Ytlkokkbikkbaoaa
open Go.RowKit
set_option maxRecDepth 100000

theorem crc1_bits (y : Nat) (h : y < 4294967296) : bits .xor .u32 ((y : Int) / 2) (3988292384 * bits .and .u32 (y : Int) 1 % 4294967296) = ((crc1 y : Nat) : Int) := by
  rw [u32_and_one y h, show ((y : Int) / 2) = ((y / 2 : Nat) : Int) from rfl, show (3988292384 * ((y % 2 : Nat) : Int) % 4294967296) = ((3988292384 * (y % 2) : Nat) : Int) from by omega]
  rw [u32_xor_nat _ _ (by omega) (by omega)]
  rfl
theorem crc0_bits (x : Nat) (b : UInt8) (h : x < 4294967296) : bits .xor .u32 (x : Int) ((b.toNat : Int) % 4294967296) = ((x ^^^ b.toNat : Nat) : Int) := by
  have := b.toNat_lt
  rw [show ((b.toNat : Int) % 4294967296) = ((b.toNat : Nat) : Int) from by omega, u32_xor_nat _ _ h (by omega)]
theorem crcE_bits (x : Nat) (h : x < 4294967296) : bits .xor .u32 IntKind.u32.max (x : Int) = ((x ^^^ 4294967295 : Nat) : Int) := by
  rw [show IntKind.u32.max = ((4294967295 : Nat) : Int) from rfl, u32_xor_nat _ _ (by omega) h, Nat.xor_comm]
theorem crcL_take_succ (bs : List UInt8) (s : Nat) {j : Nat} (hj : j < bs.length) : crcL s (bs.take (j + 1)) = crcN 8 (crcL s (bs.take j) ^^^ bs[j].toNat) := by
  rw [List.take_succ_eq_append_getElem hj, crcL_append]
  rfl

theorem sum_contract (A : Option Addr) (c : Nat) (bs : List UInt8) (w : World) (h : Reads w w.heap.size 1 A bs.length (bys bs)) (hl : bs.length ≤ 140737488351232) :
    Calls Try.prog 45 #[.slice A bs.length c] w fun e w' => e = .returned (.int .u32 (crc bs : Nat)) ∧ Below w.heap.size w w' := by
  go_enter Try.func45, Try.ntmps45
  go_wp2
  all_goals
   go_loopw [3, 8] (fun s i w' => ∃ (j : Nat), j ≤ bs.length ∧ s = .int .u32 ((crcL 4294967295 (bs.take j) : Nat) : Int) ∧ i = .int .i64 (j : Int) ∧ Below w.heap.size w w') (fun _ i _ => ((bs.length : Int) - intOf i).toNat)
   case atStart => exact ⟨0, Nat.zero_le _, rfl, rfl, Below.refl _ w⟩
   case round =>
    obtain ⟨j, hj, rfl, rfl, hb⟩ := hrel
    generalize hx : crcL 4294967295 (bs.take j) = x
    have hxl : x < 4294967296 := by rw [← hx]; exact crcL_lt _ (by omega)
    replace hx := Lib.hid hx
    by_cases hlt : j < bs.length
    · obtain ⟨ad, u, rfl, _, hu, hc⟩ := (h.below hb).at_ hlt
      simp only [bys, byv, List.getElem?_map, List.getElem?_eq_getElem hlt, Option.map_some, Option.some.injEq] at hu
      subst hu
      go_wp2_with fail
      rw [show bits .xor .u32 (x : Int) ((bs[j].toNat : Int) % 4294967296) = ((x ^^^ bs[j].toNat : Nat) : Int) from crc0_bits x _ hxl]
      generalize hy0 : x ^^^ bs[j].toNat = y0
      have hy0l : y0 < 4294967296 := by rw [← hy0]; exact xor_byte_lt _ hxl
      replace hy0 := Lib.hid hy0
      go_loopw [3, 16] (fun s i w' => ∃ (m : Nat), m ≤ 8 ∧ s = .int .u32 ((crcN m y0 : Nat) : Int) ∧ i = .int .i64 (m : Int) ∧ Below w.heap.size w w') (fun _ i _ => (8 - intOf i).toNat)
      case atStart => exact ⟨0, by omega, rfl, rfl, by assumption⟩
      case round =>
        obtain ⟨m, hm, rfl, rfl, hb'⟩ := hrel
        generalize hy : crcN m y0 = y
        have hyl : y < 4294967296 := by rw [← hy]; exact crcN_lt _ hy0l
        replace hy := Lib.hid hy
        by_cases hlt' : m < 8
        · go_wp2_with fail
          rw [crc1_bits y hyl]
          go_roundw
          case rel => exact ⟨m + 1, by omega, by rw [← hy.out]; rfl, by simp, by assumption⟩
          case measure => simp [intOf]; omega
        · have he : m = 8 := by omega
          subst he
          go_wp2_with fail
          go_roundw
          case rel => exact ⟨j + 1, by omega, by rw [crcL_take_succ bs _ hlt, hx.out, hy0.out, hy.out], by simp, by assumption⟩
          case measure => simp [intOf]; omega
    · have he : j = bs.length := by omega
      subst he
      go_wp2_with fail
      rw [crcE_bits x hxl]
      go_ret
      have hx := hx.out
      rw [List.take_length] at hx
      subst hx
      exact ⟨rfl, by assumption⟩

end Go.Proofs.Ytlkokkbikkbaoaa
set_option linter.unusedSimpArgs false
set_option linter.unusedVariables false
namespace Go.Proofs.Ytlkokkbikkbaoaa
open Go.RowKit
set_option maxRecDepth 100000

def fsum (p : List UInt8) : Nat := crc (putU p.length 4 ++ p)
def framed (p : List UInt8) : List UInt8 := putU p.length 4 ++ putU (fsum p) 4 ++ p
theorem fsum_lt (p : List UInt8) : fsum p < 4294967296 := crc_lt _
theorem framed_len (p : List UInt8) : (framed p).length = 8 + p.length := by simp [framed, putU_len]; omega


theorem wire_put4 {A : Option Addr} {c B : Nat} {bs r : List UInt8} {v : Nat} {w : World} (hr : Reads w B 1 A bs.length (bys bs)) (hB : B ≤ w.heap.size) (hl : bs.length ≤ 100000000000) (hv : v < 18446744073709551616) (he : bs ++ putU v 4 = r) :
    Calls Try.prog 25 #[.slice A bs.length c, .int .u64 (v : Int), .int .i64 4] w (NewBytes w r) := by
  subst he
  exact wire_put (m := 4) hr hB hl hv
theorem sum_walk {A : Option Addr} {c : Nat} {p : List UInt8} {w : World} (h : Reads w w.heap.size 1 A p.length (bys p)) (hl : p.length ≤ 10000000000) :
    Calls Try.prog 27 #[.slice A p.length c] w fun e w' => e = .returned (.int .u64 (fsum p : Nat)) ∧ Below w.heap.size w w' := by
  obtain ⟨i0, hi, hz0, hz1, hz2⟩ := info_parts info_u8
  obtain ⟨q, hq⟩ : ∃ q, putU p.length 4 = q := ⟨_, rfl⟩
  obtain ⟨t, ht⟩ : ∃ t, q ++ p = t := ⟨_, rfl⟩
  obtain ⟨r, hcr⟩ : ∃ r, crc t = r := ⟨_, rfl⟩
  have hrl : r < 4294967296 := by rw [← hcr]; exact crc_lt _
  have hql : q.length = 4 := by rw [← hq]; exact putU_len _ _
  have htl : t.length = 4 + p.length := by rw [← ht]; simp [hql]
  replace hq := Lib.hid hq
  replace ht := Lib.hid ht
  replace hcr := Lib.hid hcr
  replace hql := Lib.hid hql
  replace htl := Lib.hid htl
  go_enter Try.func27, Try.ntmps27
  go_wp2_with fail
  refine (wire_put4 (bs := []) (v := p.length) (B := 0) Reads.none_ (Nat.zero_le _) (by simp) (by omega) hq.out).mono ?_
  rintro e w1 ⟨A1, c1, rfl, ho1, hb1, hg1⟩
  dsimp only
  rw [hql.out] at *
  go_wp2_with (at_builtin; go_must (refine wpList_append_mine rfl _ _ 26 26 rfl 5 i0 (.int .u8 0) 1 1 Try.underlying26 hi hz0 hz1 hz2 rfl rfl ho1 rfl (Src.ofReads Try.underlying26 _ (h.below hb1) (bys_one _)) ?b1 ?b2 ?grow))
  case b1 => unfold maxLen; omega
  case b2 => omega
  case grow =>
    intro A2 c2 w2 ho2 hg2 hat2
    have hb2 : Below w.heap.size w w2 := hb1.grown hg2 hb1.size hg1
    rw [← bys_append, ht.out, ← htl.out] at ho2
    rw [← htl.out]
    have htb : t.length ≤ 140737488351232 := by rw [htl.out]; omega
    go_wp2_with fail
    refine (sum_contract A2 c2 t w2 ho2.reads_ htb).mono ?_
    rintro e w3 ⟨rfl, hb3⟩
    dsimp only
    rw [hcr.out]
    go_wp2_with fail
    go_ret
    have hq := hq.out
    have ht := ht.out
    have hcr := hcr.out
    subst hq ht hcr
    exact ⟨rfl, hb2.trans (hb3.mono hb2.size)⟩

def WrapOk (w : World) (bs : List UInt8) (k : IntKind) (e : Ending) (w' : World) : Prop :=
  ∃ A' c', e = .returned (.tuple #[.slice A' bs.length c', .int k 0]) ∧ Own w' 5 1 A' bs.length c' (bys bs) ∧ Below w.heap.size w w' ∧ ∀ g, bOf A' = some g → w.heap.size ≤ g

theorem wrap_walk {A C : Option Addr} {c d : Nat} {bs p r : List UInt8} {w : World} (hb : Reads w w.heap.size 1 A bs.length (bys bs)) (h : Reads w w.heap.size 1 C p.length (bys p)) (hbl : bs.length ≤ 1000000000) (hl : p.length ≤ 65536) (he : bs ++ framed p = r) :
    Calls Try.prog 12 #[.slice A bs.length c, .slice C p.length d] w (WrapOk w r .i64) := by
  obtain ⟨i0, hi, hz0, hz1, hz2⟩ := info_parts info_u8
  obtain ⟨q, hq⟩ : ∃ q, bs ++ putU p.length 4 = q := ⟨_, rfl⟩
  obtain ⟨s, hs⟩ : ∃ s, fsum p = s := ⟨_, rfl⟩
  have hsl : s < 4294967296 := by rw [← hs]; exact fsum_lt _
  obtain ⟨t, ht⟩ : ∃ t, q ++ putU s 4 = t := ⟨_, rfl⟩
  have hqb : q.length ≤ 1000000100 := by rw [← hq]; simp [putU_len]; omega
  have htb : t.length ≤ 1000000100 := by rw [← ht, ← hq]; simp [putU_len]; omega
  have hr : t ++ p = r := by rw [← he, ← ht, ← hq, ← hs]; simp [framed]
  replace he := Lib.hid he
  replace hq := Lib.hid hq
  replace ht := Lib.hid ht
  replace hs := Lib.hid hs
  replace hr := Lib.hid hr
  have hrl : r.length = t.length + p.length := by rw [← hr.out]; simp
  replace hrl := Lib.hid hrl
  go_enter Try.func12, Try.ntmps12
  go_wp2_with fail
  refine (wire_put4 hb (Nat.le_refl _) (by omega) (by omega) hq.out).mono ?_
  rintro e w1 ⟨A1, c1, rfl, ho1, hb1, hg1⟩
  dsimp only
  go_wp2_with fail
  refine (sum_walk ((h.below hb1).more hb1.size) (by omega)).mono ?_
  rintro e w2 ⟨rfl, hb2⟩
  dsimp only
  rw [hs.out]
  have ho1' := ho1.below hb2 (Nat.le_refl _)
  go_wp2_with fail
  refine (wire_put4 ho1'.reads_ (Nat.le_refl _) (by omega) (by omega) ht.out).mono ?_
  rintro e w3 ⟨A3, c3, rfl, ho3, hb3, hg3⟩
  dsimp only
  have hb03 : Below w.heap.size w w3 := below_then hb3 (below_then hb2 hb1)
  have hg3' : ∀ g, bOf A3 = some g → w.heap.size ≤ g := fun g hg => Nat.le_trans (Nat.le_trans hb1.size hb2.size) (hg3 g hg)
  go_wp2_with (at_builtin; go_must (refine wpList_append_mine rfl _ _ 26 26 rfl 5 i0 (.int .u8 0) 1 1 Try.underlying26 hi hz0 hz1 hz2 rfl rfl ho3 rfl (Src.ofReads Try.underlying26 _ (h.below hb03) (bys_one _)) ?b1 ?b2 ?grow))
  case b1 => unfold maxLen; omega
  case b2 => omega
  case grow =>
    intro A4 c4 w4 ho4 hg4 hat4
    have hb4 : Below w.heap.size w w4 := hb03.grown hg4 hb03.size hg3'
    rw [← bys_append, hr.out, ← hrl.out] at ho4
    rw [← hrl.out]
    go_wp2_with fail
    go_ret2
    refine ⟨A4, c4, rfl, ho4, hb4, fun g hg => ?_⟩
    rcases hat4 with h | h <;> rw [h] at hg
    · exact hg3' g hg
    · have := hb03.size; simp at hg; omega

theorem wrap_big {A C : Option Addr} {c d n m : Nat} {w : World} (hl : 65536 < m) (hm : m ≤ 140737488351232) :
    Calls Try.prog 12 #[.slice A n c, .slice C m d] w fun e w' => e = .returned (.tuple #[.slice none 0 0, .int .i64 22]) ∧ w = w' := by
  go_enter Try.func12, Try.ntmps12
  go_wp2
  go_ret2
  exact ⟨rfl, rfl⟩
end Go.Proofs.Ytlkokkbikkbaoaa
set_option linter.unusedSimpArgs false
set_option linter.unusedVariables false
namespace Go.Proofs.Ytlkokkbikkbaoaa
open Go.RowKit
set_option maxRecDepth 100000

def opened (b : List UInt8) : List UInt8 × Nat × Nat :=
  if b.length < 8 then ([], 0, 23) else
  if 65536 < readU (b.take 4) then ([], 0, 22) else
  if b.length - 8 < readU (b.take 4) then ([], 0, 23) else
  if fsum ((b.drop 8).take (readU (b.take 4))) = readU ((b.drop 4).take 4) then ((b.drop 8).take (readU (b.take 4)), 8 + readU (b.take 4), 0) else ([], 0, 21)

def OpenRes (w : World) (r : List UInt8 × Nat × Nat) (e : Ending) (w' : World) : Prop :=
  ∃ A' c', e = .returned (.tuple #[.slice A' r.1.length c', .int .i64 (r.2.1 : Nat), .int .i64 (r.2.2 : Nat)]) ∧ Own w' 5 1 A' r.1.length c' (bys r.1) ∧ Below w.heap.size w w' ∧ ∀ g, bOf A' = some g → w.heap.size ≤ g

set_option maxHeartbeats 800000 in
theorem open_walk {A : Option Addr} {c : Nat} {b : List UInt8} {w : World} (h : Reads w w.heap.size 1 A b.length (bys b)) (hc : b.length ≤ c) (hl : b.length ≤ 1000000000) :
    Calls Try.prog 19 #[.slice A b.length c] w (OpenRes w (opened b)) := by
  go_enter Try.func19, Try.ntmps19
  by_cases h8 : b.length < 8
  · go_wp2_with fail
    go_ret3
    have ho : opened b = ([], 0, 23) := by unfold opened; rw [if_pos h8]
    rw [ho]
    exact ⟨none, 0, rfl, Own.none_, Below.refl _ _, by simp [bOf]⟩
  · obtain ⟨ad, rfl, had, hcell⟩ := h.2 (by omega)
    go_wp2_with fail
    refine (wire_read (k := 4) h (by omega) (by omega) hc (by omega)).mono ?_
    rintro e w1 ⟨rfl, hb1⟩
    dsimp only
    obtain ⟨n, hn⟩ : ∃ n, readU (b.take 4) = n := ⟨_, rfl⟩
    have hnl : n < 4294967296 := by
      have h0 := readU_lt (b.take 4)
      rw [List.length_take, Nat.min_eq_left (by omega)] at h0
      rw [← hn]; simpa using h0
    rw [hn]
    replace hn := Lib.hid hn
    have hr4 : Reads w w.heap.size 1 (some ⟨ad.block, ad.off + 4, none⟩) (b.length - 4) (bys (b.drop 4)) := by
      have := h.cut (k := 4) (cap := b.length) (by omega) (Nat.le_refl _)
      rw [if_neg (by omega), Nat.mul_one, bys_drop] at this
      exact this
    have hr8 : Reads w w.heap.size 1 (if c = 8 then some ad else some ⟨ad.block, ad.off + 8, none⟩) (b.length - 8) (bys (b.drop 8)) := by
      have := h.cut (k := 8) (cap := c) (by omega) hc
      rw [Nat.mul_one, bys_drop] at this
      exact this
    obtain ⟨s, hs⟩ : ∃ s, readU ((b.drop 4).take 4) = s := ⟨_, rfl⟩
    have hsl : s < 4294967296 := by
      have h0 := readU_lt ((b.drop 4).take 4)
      rw [List.length_take, List.length_drop, Nat.min_eq_left (by omega)] at h0
      rw [← hs]; simpa using h0
    replace hs := Lib.hid hs
    have h4l : (b.drop 4).length = b.length - 4 := by simp
    rw [← h4l] at hr4
    go_wp2_with fail
    rw [← h4l]
    refine (wire_read (k := 4) ((hr4.below hb1).more hb1.size) (by omega) (by omega) (by omega) (by omega)).mono ?_
    rintro e w2 ⟨rfl, hb2'⟩
    dsimp only
    have hb2 := below_then hb2' hb1
    rw [hs.out]
    by_cases hbig : 65536 < n
    · go_wp2_with fail
      go_ret3
      have ho : opened b = ([], 0, 22) := by unfold opened; rw [if_neg h8, hn.out, if_pos hbig]
      rw [ho]
      exact ⟨none, 0, rfl, Own.none_, hb2, by simp [bOf]⟩
    by_cases hmore : b.length - 8 < n
    · go_wp2_with fail
      go_ret3
      have ho : opened b = ([], 0, 23) := by unfold opened; rw [if_neg h8, hn.out, if_neg hbig, if_pos hmore]
      rw [ho]
      exact ⟨none, 0, rfl, Own.none_, hb2, by simp [bOf]⟩
    obtain ⟨p, hp⟩ : ∃ p, (b.drop 8).take n = p := ⟨_, rfl⟩
    have hpl : p.length = n := by rw [← hp]; simp; omega
    have hrp := (hr8.first (k := n) (by omega))
    rw [Nat.mul_one, bys_take, hp] at hrp
    have hrp' : Reads w w.heap.size 1 (some ⟨ad.block, ad.off + 8, none⟩) n (bys p) := by
      rcases Nat.eq_zero_or_pos n with h0 | h0
      · subst h0
        have := hrp.1
        exact ⟨this, fun h => absurd h (by omega)⟩
      · rw [if_neg (by omega)] at hrp
        exact hrp
    replace hp := Lib.hid hp
    replace hn := Lib.hid hn.out
    clear hrp hr8
    subst hpl
    have hrc : Reads w2 w2.heap.size 1 (some ⟨ad.block, ad.off + 8, none⟩) p.length (bys p) := (hrp'.below hb2).more hb2.size
    have hpb : p.length ≤ 100000 := by omega
    clear hrp'
    go_wp2_with fail
    all_goals
     refine (clone_bytes (B := w2.heap.size) (bs := p) (by first | exact hrc | exact ⟨hrc.1, fun h => absurd h (by omega)⟩) (Nat.le_refl _) (Nat.le_trans hpb (by decide))).mono ?_
     rintro e w3 ⟨A3, c3, rfl, ho3, hb3', hg3⟩
     dsimp only
     have hb3 := below_then hb3' hb2
     go_wp2_with fail
     refine (sum_walk ho3.reads_ (by omega)).mono ?_
     rintro e w4 ⟨rfl, hb4'⟩
     dsimp only
     have hb4 := below_then hb4' hb3
     have hfl := fsum_lt p
     obtain ⟨f, hf⟩ : ∃ f, fsum p = f := ⟨_, rfl⟩
     rw [hf] at hfl ⊢
     replace hf := Lib.hid hf
     by_cases hfs : f = s
     · subst hfs
       go_wp2_with fail
       go_ret3
       have ho : opened b = (p, 8 + p.length, 0) := by unfold opened; rw [if_neg h8, hn.out, if_neg hbig, if_neg hmore, hp.out, hf.out, hs.out, if_pos rfl]
       rw [ho]
       exact ⟨A3, c3, by simp, ho3.below hb4' (Nat.le_refl _), hb4, fun g hg => Nat.le_trans hb2.size (hg3 g hg)⟩
     · go_wp2_with fail
       go_ret3
       have ho : opened b = ([], 0, 21) := by unfold opened; rw [if_neg h8, hn.out, if_neg hbig, if_neg hmore, hp.out, hf.out, hs.out, if_neg hfs]
       rw [ho]
       exact ⟨none, 0, rfl, Own.none_, hb4, by simp [bOf]⟩
end Go.Proofs.Ytlkokkbikkbaoaa
