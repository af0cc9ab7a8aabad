/- WireNaN's walk. -/
import Derived.Test.YtafogjonicdbmaaNaN
import Derived.Test.YtafogjonicdbmaaWireNumbers
namespace Go.Proofs.Ytafogjonicdbmaa
open Go.RowKit

theorem ofInt_u64 (a : Nat) (ha : a < 18446744073709551616) : (BitVec.ofInt 64 (a : Int)).toNat = a := by
  rw [BitVec.ofInt_natCast, BitVec.toNat_ofNat]; exact Nat.mod_eq_of_lt (by omega)
theorem u64_and_nat (a b : Nat) (ha : a < 18446744073709551616) (hb : b < 18446744073709551616) : bits .and .u64 (a : Int) (b : Int) = ((a &&& b : Nat) : Int) := by
  have hx : a &&& b < 18446744073709551616 := Nat.lt_of_le_of_lt Nat.and_le_left ha
  show IntKind.u64.wrap ((BitVec.ofInt 64 (a : Int) &&& BitVec.ofInt 64 (b : Int)).toNat : Int) = _
  rw [BitVec.toNat_and, ofInt_u64 a ha, ofInt_u64 b hb]
  simp [IntKind.wrap, IntKind.bits, IntKind.signed]
  omega
theorem nan_bits (x : Nat) (hx : x < 18446744073709551616) (b1 b2 : Bool) (h1 : (bits .and .u64 ((x : Int) / 4503599627370496) 2047 == 2047) = b1) (h2 : (bits .and .u64 (x : Int) 4503599627370495 != 0) = b2) : (b1 && b2) = nanB x := by
  have e1 : bits .and .u64 ((x : Int) / 4503599627370496) 2047 = ((x / 4503599627370496 % 2048 : Nat) : Int) := by
    rw [show ((x : Int) / 4503599627370496) = ((x / 4503599627370496 : Nat) : Int) from rfl, show (2047 : Int) = ((2047 : Nat) : Int) from rfl, u64_and_nat _ _ (by omega) (by omega)]
    congr 1
    exact Nat.and_two_pow_sub_one_eq_mod (x / 4503599627370496) 11
  have e2 : bits .and .u64 (x : Int) 4503599627370495 = ((x % 4503599627370496 : Nat) : Int) := by
    rw [show (4503599627370495 : Int) = ((4503599627370495 : Nat) : Int) from rfl, u64_and_nat _ _ hx (by omega)]
    congr 1
    exact Nat.and_two_pow_sub_one_eq_mod x 52
  rw [e1] at h1
  rw [e2] at h2
  unfold nanB
  rw [← h1, ← h2, Bool.eq_iff_iff]
  simp only [Bool.and_eq_true, beq_iff_eq, bne_iff_ne, decide_eq_true_eq, ne_eq]
  omega

set_option maxHeartbeats 1600000 in
theorem wireNaN_walk (a : Int) (w : World) (h0 : 0 ≤ a) (h1 : a < 18446744073709551616) : Calls Try.prog 6 #[.int .u64 a] w (SaysTrue w) := by
  obtain ⟨i0, hi, hz0, hz1, hz2⟩ := info_parts info_u8
  obtain ⟨x, ha⟩ : ∃ x : Nat, a = (x : Int) := ⟨a.toNat, by omega⟩
  have hx : x < 18446744073709551616 := by omega
  obtain ⟨b1, hb1⟩ : ∃ b1, (bits .and .u64 (a / 4503599627370496) 2047 == 2047) = b1 := ⟨_, rfl⟩
  obtain ⟨b2, hb2⟩ : ∃ b2, (bits .and .u64 a 4503599627370495 != 0) = b2 := ⟨_, rfl⟩
  obtain ⟨b3, hb3⟩ : ∃ b3, (a != 9221120237041090561) = b3 := ⟨_, rfl⟩
  have hnb : (b1 && b2) = nanB x := nan_bits x hx b1 b2 (by rw [← ha]; exact hb1) (by rw [← ha]; exact hb2)
  have hcx : b3 = !(x == 9221120237041090561) := by rw [← hb3, ha]; simp [bne]; rw [Bool.eq_iff_iff]; simp; omega
  obtain ⟨r, hr⟩ : ∃ r, [2] ++ putU x 8 = r := ⟨_, rfl⟩
  have hrl : r.length = 9 := by rw [← hr]; simp [putU_len]
  have hr1 : readU ((r.drop 0).take 1) = 2 := by rw [← hr]; rfl
  have hr8 : readU ((r.drop (0 + 1)).take 8) = x := by
    rw [← hr]
    show readU ((putU x 8).take 8) = x
    rw [List.take_of_length_le (by simp [putU_len]), readU_put]
    exact Nat.mod_eq_of_lt (by omega)
  have hput : ∀ (w : World) {A : Option Addr} {c : Nat}, Own w 5 1 A [(2 : UInt8)].length c (bys [2]) → Calls Try.prog 21 #[.slice A [(2 : UInt8)].length c, .int .u64 a, .int .i64 8] w (PutBytes w A r) := by
    intro w A c h
    rw [ha, ← hr]
    exact ref_put (m := 8) h (by decide) hx
  replace hput := Lib.hid hput
  replace hr := Lib.hid hr
  replace ha := Lib.hid ha
  replace hx := Lib.hid hx
  replace hrl := Lib.hid hrl
  replace hr1 := Lib.hid hr1
  replace hr8 := Lib.hid hr8
  replace hnb := Lib.hid hnb
  replace hcx := Lib.hid hcx
  clear h0 h1
  go_enter Try.func6, Try.ntmps6
  go_wp2_with fail
  refine (known_true w).mono ?_
  rintro e w1 ⟨rfl, hk1⟩
  have ho := Own.new w1 5 1 1 #[.int .u8 2] rfl (by unfold maxLen; omega)
  have hk2 := hk1.alloc hk1.size (.cells #[.int .u8 2] 5)
  go_wp2_with fail
  generalize w1.alloc (.cells #[.int .u8 2] 5) = w2 at *
  refine (hput.out w2 ho).mono ?_
  rintro e w3 ⟨A3, c3, rfl, ho3, hu3, hg3⟩
  dsimp only
  have hk3 : Below w.heap.size w w3 := hk2.trans (hu3.below hk2.size (fun k hk he => by simp [bOf] at he; have := hk1.size; omega))
  clear ho hu3 hput
  obtain ⟨g, cur, rfl, -, -, -⟩ := ho3.open_ (by rw [hrl.out]; omega)
  have hc3 := ho3.le_cap
  have hc9 : 9 ≤ c3 := by rw [hrl.out] at hc3; exact hc3
  rw [hrl.out] at ho3 ⊢
  go_wp2_with fail
  have hRr : Reads w3 w3.heap.size 1 (some ⟨g, 0, none⟩) r.length (bys r) := by rw [hrl.out]; exact ho3.reads_
  by_cases hcb : cb x = x
  · have hrd := read_ok (w := w3) (A := some ⟨g, 0, none⟩) (m := r.length) (c0 := c3) (fun w4 hb hr => value_float (b := r) (B := w3.heap.size) (at_ := 0) hr (hRr.below hb) (by omega) hc3 (by rw [hrl.out]; decide) (by rw [hrl.out]; decide) hr1.out x hr8.out hcb) (fun w4 _ => val_check_num 2 _ _ _ _ _ _ w4 (.inr rfl) (by decide))
    rw [hrl.out] at hrd
    refine hrd.mono ?_
    clear hrd
    rintro e w4 ⟨rfl, hb4'⟩
    dsimp only
    have hk4 := below_then hb4' hk3
    have ho4 := ho3.below hb4' (Nat.le_refl _)
    have hsf := fun a k x m w => run_store_float (P := Try.prog) a k x m w
    have hv5 := Blk.new w4 26 #[.int .i64 2, .int .i64 0, .float .f64 x, .string ⟨#[]⟩, .slice none 0 0]
    have ho5 := ho4.alloc (.cells #[.int .i64 2, .int .i64 0, .float .f64 x, .string ⟨#[]⟩, .slice none 0 0] 26)
    have hk5 := hk4.alloc hk4.size (.cells #[.int .i64 2, .int .i64 0, .float .f64 x, .string ⟨#[]⟩, .slice none 0 0] 26)
    have hcase : b1 = false ∨ (b1 = true ∧ b2 = false) ∨ (b1 = true ∧ b2 = true ∧ b3 = false) := by
      have h1 := hnb.out
      have h2 := hcx.out
      unfold cb at hcb
      cases b1 <;> cases b2 <;> simp at h1 ⊢
      rw [← h1] at hcb
      simp at hcb
      rw [h2, ← hcb]
      rfl
    have hord := order_self x
    rw [← hnb.out] at hord
    clear ho4 hk4 hb4' ho3 hk3 hk2 hk1 hRr
    have hpr : [] ++ (2 :: putU (cb x) 8) = r := by rw [hcb]; exact hr.out
    have hcl : cb x < 18446744073709551616 := by rw [hcb]; exact hx.out
    replace hpr := Lib.hid hpr
    replace hcl := Lib.hid hcl
    replace hcb := Lib.hid hcb
    rcases hcase with rfl | ⟨rfl, rfl⟩ | ⟨rfl, rfl, rfl⟩
    all_goals
      go_wp2_with fail
      generalize w4.alloc (.cells #[.int .i64 2, .int .i64 0, .float .f64 x, .string ⟨#[]⟩, .slice none 0 0] 26) = w5 at *
      refine (wire_put_float (bs := []) (B := 0) rfl (by decide) ⟨rfl, by simp⟩ (by omega) (by simp) hcl.out hpr.out).mono ?_
      rintro e w6 ⟨A6, c6, rfl, ho6, hb6', hg6⟩
      dsimp only
      have hk6 := below_then hb6' hk5
      have hv6 := hv5.below hb6' hv5.lt
      have hi6 := hv6.cell 2
      have k1 := conv_bytes (c := c3) (ho5.below hb6' (Nat.le_refl _)).reads_
      have k2 := conv_bytes (c := c6) ho6.reads_
      rw [hrl.out] at k2 ⊢
      clear hv5 ho5 hk5 hb6' ho6 hv6 hg6
      go_wp2_with fail
      go_ret
      exact ⟨rfl, hk6⟩
  · have hnx : nanB x = true ∧ x ≠ 9221120237041090561 := by
      unfold cb at hcb
      cases h : nanB x
      · rw [h] at hcb; simp at hcb
      · rw [h] at hcb; simp at hcb; exact ⟨rfl, fun e => hcb e.symm⟩
    have hb12 : b1 = true ∧ b2 = true := by
      have h1 := hnb.out
      rw [hnx.1] at h1
      simpa using h1
    have hb3' : b3 = true := by
      rw [hcx.out]
      simp [hnx.2]
    obtain ⟨rfl, rfl⟩ := hb12
    subst hb3'
    have hrd := read_short (w := w3) (A := some ⟨g, 0, none⟩) (n := r.length) (c := c3) (fun w4 hb hr => value_float_no (b := r) (B := w3.heap.size) (at_ := 0) hr (hRr.below hb) (by omega) hc3 (by rw [hrl.out]; decide) (by rw [hrl.out]; decide) hr1.out x hr8.out hcb)
    rw [hrl.out] at hrd
    refine hrd.mono ?_
    clear hrd hnx hcb
    rintro e w4 ⟨rfl, hb4'⟩
    dsimp only
    have hk4 := below_then hb4' hk3
    have hsf := fun a k x m w => run_store_float (P := Try.prog) a k x m w
    have hk5 := hk4.alloc hk4.size (.cells #[.int .i64 0, .int .i64 0, .float .f64 0, .string ⟨#[]⟩, .slice none 0 0] 26)
    go_wp2_with fail
    go_ret
    exact ⟨rfl, hk5⟩
end Go.Proofs.Ytafogjonicdbmaa
