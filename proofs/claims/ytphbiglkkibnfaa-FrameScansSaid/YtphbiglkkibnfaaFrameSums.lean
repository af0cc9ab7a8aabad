/- FrameSums' walk. -/
import Derived.Test.YtphbiglkkibnfaaFrameKnown
namespace Go.Proofs.Ytphbiglkkibnfaa
open Go.RowKit

/-- An owned row's block, and a cell of it set. -/
theorem Own.open_ {w : World} {t : TypeId} {A : Option Addr} {n c : Nat} {xs : List Value} (h : Own w t 1 A n c xs) (hn : 0 < n) : ∃ g cur, A = some ⟨g, 0, none⟩ ∧ Blk w g t cur ∧ (∀ i, i < n → cur[i]? = xs[i]?) ∧ (∀ i u, i < n → Own (w.setCell ⟨g, i, none⟩ u) t 1 A n c (xs.set i u)) := by
  have hl := h.1
  rcases h.2 with ⟨_, h0, _⟩ | ⟨g, cur, rfl, hg, hnc, hcm, hcs, htake⟩
  · omega
  · refine ⟨g, cur, rfl, hg, fun i hi => ?_, fun i u hi => ⟨by simpa using hl, .inr ⟨g, _, rfl, hg.set_ i u, hnc, hcm, by simpa using hcs, ?_⟩⟩⟩
    · rw [← htake, List.getElem?_take, if_pos (by omega)]; simp
    · rw [← htake]
      simp only [Array.toList_setIfInBounds, List.take_set, Nat.mul_one]

theorem bys_set (bs : List UInt8) (i : Nat) (b : UInt8) : (bys bs).set i (byv b) = bys (bs.set i b) := by simp [bys, List.map_set]

theorem ofInt_u8 (a : Nat) (ha : a < 256) : (BitVec.ofInt 8 (a : Int)).toNat = a := by
  rw [BitVec.ofInt_natCast, BitVec.toNat_ofNat]; exact Nat.mod_eq_of_lt (by omega)
theorem u8_xor_nat (a b : Nat) (ha : a < 256) (hb : b < 256) : bits .xor .u8 (a : Int) (b : Int) = ((a ^^^ b : Nat) : Int) := by
  have hx : a ^^^ b < 2 ^ 8 := Nat.xor_lt_two_pow (by omega) (by omega)
  show IntKind.u8.wrap ((BitVec.ofInt 8 (a : Int) ^^^ BitVec.ofInt 8 (b : Int)).toNat : Int) = _
  rw [BitVec.toNat_xor, ofInt_u8 a ha, ofInt_u8 b hb]
  simp [IntKind.wrap, IntKind.bits, IntKind.signed]
  omega
theorem bit_byte (b : UInt8) (k : Int) (h0 : 0 ≤ k) (h1 : k < 8) : ∃ b' : UInt8, b' ≠ b ∧ bits .xor .u8 (b.toNat : Int) (2 ^ k.toNat % 256) = (b'.toNat : Int) := by
  obtain ⟨n, hn⟩ : ∃ n, k.toNat = n := ⟨_, rfl⟩
  have hn8 : n < 8 := by omega
  rw [hn]
  have hp : 2 ^ n < 256 := by
    have := Nat.pow_lt_pow_right (a := 2) (by omega) hn8
    omega
  have hp0 : 0 < 2 ^ n := Nat.pow_pos (by omega)
  have e : ((2 : Int) ^ n % 256) = ((2 ^ n : Nat) : Int) := by
    rw [Int.natCast_pow]
    exact Int.emod_eq_of_lt (by have : (0 : Int) ≤ ((2 ^ n : Nat) : Int) := by omega
                                rwa [Int.natCast_pow] at this) (by have : ((2 ^ n : Nat) : Int) < 256 := by omega
                                                                   rwa [Int.natCast_pow] at this)
  have hbl := b.toNat_lt
  rw [e, u8_xor_nat _ _ hbl hp]
  have hx : b.toNat ^^^ 2 ^ n < 2 ^ 8 := Nat.xor_lt_two_pow (by omega) (by omega)
  refine ⟨UInt8.ofNat (b.toNat ^^^ 2 ^ n), fun h => ?_, ?_⟩
  · have h2 := congrArg UInt8.toNat h
    rw [UInt8.toNat_ofNat', Nat.mod_eq_of_lt hx] at h2
    have := xor_left_inj (c := b.toNat) (a := 2 ^ n) (b := 0) (by rw [h2, Nat.xor_zero])
    omega
  · rw [UInt8.toNat_ofNat', Nat.mod_eq_of_lt hx]

theorem wf_u16 {x : Int} (h : (Lit.int .u16 x).wf = true) : 0 ≤ x ∧ x ≤ 65535 := by
  simp [Lit.wf, IntKind.min, IntKind.max, IntKind.signed, IntKind.bits] at h; omega

set_option maxHeartbeats 800000 in
theorem frameSums_walk (A : Option Addr) (c : Nat) (b : List UInt8) (at_ bit : Int) (w : World) (ha0 : 0 ≤ at_) (ha1 : at_ ≤ 65535) (hb0 : 0 ≤ bit) (hb1 : bit ≤ 255) (h : Reads w w.heap.size 1 A b.length (bys b)) (hl : b.length ≤ 140737488351232) :
    Calls Try.prog 6 #[.slice A b.length c, .int .u16 at_, .int .u8 bit] w (SaysTrue w) := by
  obtain ⟨i0, hi, hz0, hz1, hz2⟩ := info_parts info_u8
  go_enter Try.func6, Try.ntmps6
  go_wp2_with fail
  refine (known_true w).mono ?_
  rintro e w1 ⟨rfl, hb1'⟩
  by_cases hbig : 500 < b.length
  · go_wp2_with fail
    go_ret
    exact ⟨rfl, hb1'⟩
  by_cases hz : b.length = 0
  · have ht : (((b.length : Nat) : Int) == 0) = true := by simp [hz]
    go_wp2_with fail
    go_ret
    exact ⟨rfl, hb1'⟩
  have hr1 := (h.below hb1').more hb1'.size
  have ht : (((b.length : Nat) : Int) == 0) = false := by rw [beq_eq_false_iff_ne]; omega
  replace hz : 0 < b.length := by omega
  go_wp2_with fail
  refine (sum_contract A c b w1 hr1 hl).mono ?_
  rintro e w2 ⟨rfl, hb2'⟩
  dsimp only
  have hb2 := below_then hb2' hb1'
  have hr2 := (hr1.below hb2').more hb2'.size
  have hcl := crc_lt b
  obtain ⟨s, hs⟩ : ∃ s, crc b = s := ⟨_, rfl⟩
  rw [hs] at hcl ⊢
  replace hs := Lib.hid hs
  go_wp2_with (at_builtin; go_must (refine wpList_append_mine rfl _ _ 22 22 rfl 5 i0 (.int .u8 0) 1 1 Try.underlying22 hi hz0 hz1 hz2 rfl rfl Own.none_ rfl (Src.ofReads Try.underlying22 _ hr2 (bys_one _)) ?b1 ?b2 ?grow))
  case b1 => unfold maxLen; omega
  case b2 => omega
  case grow =>
    intro A3 c3 w3 ho3 hg3 hat3
    have hA3 := fresh_of hat3
    have hb3' : Below w2.heap.size w2 w3 := (Below.refl _ w2).grown hg3 (Nat.le_refl _) (fun k hk => by simp [bOf] at hk)
    have hb3 := below_then hb3' hb2
    try simp only [Nat.zero_add, List.nil_append] at ho3
    try simp only [Nat.zero_add]
    clear hat3
    obtain ⟨g, cur, rfl, hblk, hcur, hset⟩ := ho3.open_ (by omega)
    obtain ⟨i, hi', hii⟩ : ∃ i : Nat, at_ % (b.length : Int) = (i : Int) ∧ i < b.length := by
      have h1 := Int.emod_nonneg at_ (show (b.length : Int) ≠ 0 by omega)
      have h2 := Int.emod_lt_of_pos at_ (show (0 : Int) < b.length by omega)
      exact ⟨(at_ % (b.length : Int)).toNat, by omega, by omega⟩
    have hcell := hblk.cell i
    rw [hcur i hii] at hcell
    simp only [bys, byv, List.getElem?_map, List.getElem?_eq_getElem hii, Option.map_some] at hcell
    have hfz := hblk.frozen i
    go_wp2_with fail
    obtain ⟨b', hne, hbv⟩ := bit_byte b[i] (bit % 8) (by omega) (by omega)
    rw [hbv]
    have ho4 := hset i (byv b') hii
    rw [bys_set] at ho4
    have hg2 := hA3 g rfl
    have hr4 := (hr2.below hb3').setCell (p := ⟨g, i, none⟩) hg2 (byv b')
    have hb4 : Below w.heap.size w (w3.setCell ⟨g, i, none⟩ (byv b')) := hb3.setCell (by show w.heap.size ≤ g; have := hb2.size; omega) _
    have hcs := crc_set b i hii b' hne
    have hsz : w3.heap.size = (w3.setCell ⟨g, i, none⟩ (byv b')).heap.size := by simp
    change Calls _ _ _ (w3.setCell ⟨g, i, none⟩ (byv b')) _
    generalize w3.setCell ⟨g, i, none⟩ (byv b') = w4 at ho4 hr4 hb4 hsz ⊢
    clear hcell hfz hset hcur hblk hbv
    have hlc : (b.set i b').length = b.length := by simp
    obtain ⟨d, hd⟩ : ∃ d, b.set i b' = d := ⟨_, rfl⟩
    rw [hd] at ho4 hcs hlc
    rw [← hlc] at ho4
    rw [hs.out] at hcs
    obtain ⟨t, ht⟩ : ∃ t, crc d = t := ⟨_, rfl⟩
    rw [ht] at hcs
    have htl := crc_lt d
    rw [ht] at htl
    replace ht := Lib.hid ht
    have hr4' := hr4.more (B' := w4.heap.size) (by have := hb3'.size; omega)
    refine (ref_sum_contract A c b w4 hr4' hl).mono ?_
    rintro e w5 ⟨rfl, hb5⟩
    dsimp only
    rw [hs.out]
    have ho5 := ho4.below hb5 (Nat.le_refl _)
    have hb5' := below_then hb5 hb4
    go_wp2_with fail
    rw [← hlc]
    have hdl : d.length ≤ 140737488351232 := by omega
    clear hlc
    refine (sum_contract _ c3 d w5 ho5.reads_ hdl).mono ?_
    rintro e w6 ⟨rfl, hb6⟩
    dsimp only
    rw [ht.out]
    have ho6 := ho5.below hb6 (Nat.le_refl _)
    have hb6' := below_then hb6 hb5'
    go_wp2_with fail
    refine (ref_sum_contract _ c3 d w6 ho6.reads_ hdl).mono ?_
    rintro e w7 ⟨rfl, hb7⟩
    dsimp only
    rw [ht.out]
    have ho7 := ho6.below hb7 (Nat.le_refl _)
    have hb7' := below_then hb7 hb6'
    go_wp2_with fail
    refine (sum_contract _ c3 d w7 ho7.reads_ hdl).mono ?_
    rintro e w8 ⟨rfl, hb8⟩
    dsimp only
    rw [ht.out]
    have hb8' := below_then hb8 hb7'
    have hts : ((t : Int) != (s : Int)) = true := by rw [bne_iff_ne]; omega
    go_wp2
    go_ret
    exact ⟨rfl, hb8'⟩
end Go.Proofs.Ytphbiglkkibnfaa
