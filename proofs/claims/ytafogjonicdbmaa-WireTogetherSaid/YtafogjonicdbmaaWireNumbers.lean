/- WireNumbers' walk. -/
import Derived.Test.YtafogjonicdbmaaWireKnown
namespace Go.Proofs.Ytafogjonicdbmaa
open Go.RowKit

theorem take_putU {v k : Nat} (l : List UInt8) : (putU v k ++ l).take k = putU v k := by
  have := List.take_left (l₁ := putU v k) (l₂ := l)
  rwa [putU_len] at this
theorem drop_putU {v k : Nat} (l : List UInt8) : (putU v k ++ l).drop k = l := by
  have := List.drop_left (l₁ := putU v k) (l₂ := l)
  rwa [putU_len] at this
theorem wf_u64 {x : Int} (h : (Lit.int .u64 x).wf = true) : 0 ≤ x ∧ x < 18446744073709551616 := by
  simp [Lit.wf, IntKind.min, IntKind.max, IntKind.signed, IntKind.bits] at h; omega
theorem readT_put (s : List UInt8) (m : Int) (hm : (s.length : Int) ≤ m) (hs : s.length ≤ 300) : readT (putU s.length 2 ++ s) m = (s, 2 + s.length, 0) := by
  have hn : readU ((putU s.length 2 ++ s).take 2) = s.length := by rw [take_putU, readU_put]; exact Nat.mod_eq_of_lt (by omega)
  unfold readT
  rw [hn, if_pos ⟨by simp [putU_len], hm, by simp [putU_len]; omega⟩, drop_putU, List.take_of_length_le (Nat.le_refl _)]

set_option maxHeartbeats 3200000 in
set_option maxRecDepth 100000 in
theorem wireNumbers_walk (A : Option Addr) (c : Nat) (b s : List UInt8) (u n most : Int) (w : World) (hu0 : 0 ≤ u) (hu1 : u < 18446744073709551616) (hn0 : -9223372036854775808 ≤ n) (hn1 : n ≤ 9223372036854775807) (hm0 : -9223372036854775808 ≤ most) (hm1 : most ≤ 9223372036854775807)
    (h : Reads w w.heap.size 1 A b.length (bys b)) (hc : b.length ≤ c) (hl : b.length ≤ 140737488351232) (hsl : s.length ≤ 140737488351232) :
    Calls Try.prog 5 #[.slice A b.length c, .int .u64 u, .int .i64 n, .string (bstr s), .int .i64 most] w (SaysTrue w) := by
  obtain ⟨v, rfl⟩ : ∃ v : Nat, u = (v : Int) := ⟨u.toNat, by omega⟩
  have hv : v < 18446744073709551616 := by omega
  replace hv := Lib.hid hv
  clear hu0 hu1
  replace hn0 := Lib.hid hn0
  replace hn1 := Lib.hid hn1
  replace hm0 := Lib.hid hm0
  replace hm1 := Lib.hid hm1
  go_enter Try.func5, Try.ntmps5
  go_wp2_with fail
  refine (known_true w).mono ?_
  rintro e w1 ⟨rfl, hb1⟩
  by_cases h1 : 100 < b.length
  · go_wp2_with fail
    go_ret
    exact ⟨rfl, hb1⟩
  have hsz : (bstr s).size = s.length := bstr_size s
  by_cases h2 : 300 < s.length
  · go_wp2_with fail
    go_ret
    exact ⟨rfl, hb1⟩
  have hr1 := (h.below hb1).more hb1.size
  go_wp2_with fail
  obtain ⟨r, hr⟩ : ∃ r, b ++ putU v (n8 n) = r := ⟨_, rfl⟩
  replace hr := Lib.hid hr
  have hput := wire_put (m := n) hr1 (Nat.le_refl _) (by omega) hv.out (c := c)
  rw [hr.out] at hput
  refine hput.mono ?_
  clear hput
  rintro e w2 ⟨A2, c2, rfl, ho2, hb2', hg2⟩
  dsimp only
  have hb2 := below_then hb2' hb1
  have hr2 := (hr1.below hb2').more hb2'.size
  obtain ⟨rn, hrn⟩ : ∃ rn, readN b n = rn := ⟨_, rfl⟩
  replace hrn := Lib.hid hrn
  go_wp2_with fail
  refine (read_any hr2 hc (by omega) hrn.out).mono ?_
  rintro e w3 ⟨rfl, hb3'⟩
  dsimp only
  have hb3 := below_then hb3' hb2
  have hr3 := (hr2.below hb3').more hb3'.size
  have ho3 := ho2.below hb3' (Nat.le_refl _)
  go_wp2_with fail
  refine (ref_read_any hr3 (by omega) hrn.out).mono ?_
  rintro e w4 ⟨rfl, hb4'⟩
  dsimp only
  have hb4 := below_then hb4' hb3
  have hr4 := (hr3.below hb4').more hb4'.size
  have ho4 := ho3.below hb4' (Nat.le_refl _)
  clear hr1 hr2 hr3 ho2 ho3 hb2' hb3' hb4' hb1 hb2 hb3
  go_wp2_with fail
  have kc : ∀ W, Below w4.heap.size w4 W → (convert 22 9 (.slice A2 r.length c2)).run Try.prog W = .ok (.string (bstr r)) W := fun W hW => conv_bytes (ho4.below hW (Nat.le_refl _)).reads_
  have hS : Below w4.heap.size w4 w4.drew := (Below.refl _ _).drew
  refine wp_region_lex (fun W => Below w4.heap.size w4 W) [1, 11] [10] [0, 1, 2, 3, 4, 5, 6, 7, 8, 9, 10, 11, 12, 13, 14, 15, 16, 17, 18, 19, 20, 21, 22] (by kernel_rfl) rfl (by kernel_rfl) (by kernel_rfl) (fun _ _ d _ _ h => by cases d <;> exact h) ?_
  repeat (first | (refine lexG_take _ ?_ rfl rfl rfl rfl (fun _ => ?_) ?_; rotate_left; (focus (go_simp; with_reducible rfl)); try simp only [Act.put, List.setIfInBounds_toArray, List.set_cons_zero, List.set_cons_succ]) | (refine lexG_held _ ?_ rfl rfl rfl rfl (by assumption) (fun _ hSw => ?_) ?_; rotate_left; (focus ((try dsimp only at hSw); go_simp; with_reducible rfl)); try simp only [Act.put, List.setIfInBounds_toArray, List.set_cons_zero, List.set_cons_succ]) | (refine lexG_skip _ rfl rfl (by assumption) ?_; try simp only [Act.put, List.setIfInBounds_toArray, List.set_cons_zero, List.set_cons_succ]))
  clear kc
  refine lexG_now _ rfl rfl rfl (fun K hK => ?_)
  go_wp2_with fail
  refine (ref_put_full (m := n) hr4.drew (Nat.le_refl _) (by omega) hv.out).mono ?_
  rw [hr.out]
  rintro e w5 ⟨A5, c5, rfl, ⟨row, hgr5, _⟩, hb5', _⟩
  dsimp only
  have hS5 : Below w4.heap.size w4 w5 ∧ Below w5.heap.size w5 w5 := ⟨below_then hb5' hS, Below.refl _ _⟩
  refine hK _ _ (fun W => Below w4.heap.size w4 W ∧ Below w5.heap.size w5 W) (fun _ h => h.1) hS5 ?_
  clear hK K hS hb5'
  have kc : ∀ W, Below w5.heap.size w5 W → (convert 22 9 (.slice A5 r.length c5)).run Try.prog W = .ok (.string (bstr r)) W := fun W hW => conv_bytes (hgr5.reads_.below hW)
  try simp only [Act.put, List.setIfInBounds_toArray, List.set_cons_zero, List.set_cons_succ]
  repeat (first | (refine lexG_take _ ?_ rfl rfl rfl rfl (fun _ => ?_) ?_; rotate_left; (focus (go_simp; with_reducible rfl)); try simp only [Act.put, List.setIfInBounds_toArray, List.set_cons_zero, List.set_cons_succ]) | (refine lexG_held _ ?_ rfl rfl rfl rfl (by assumption) (fun _ hSw => ?_) ?_; rotate_left; (focus ((try dsimp only at hSw); go_simp; with_reducible rfl)); try simp only [Act.put, List.setIfInBounds_toArray, List.set_cons_zero, List.set_cons_succ]) | (refine lexG_skip _ rfl rfl (by assumption) ?_; try simp only [Act.put, List.setIfInBounds_toArray, List.set_cons_zero, List.set_cons_succ]))
  refine lexG_nil ?_
  clear kc hgr5
  have hb5 := below_then hS5.1 hb4
  have hr5 := (hr4.below hS5.1).more hS5.1.size
  clear hr4 hS5 hb4 ho4
  go_wp2_with fail
  have hcell : ∀ k, k < 3 → ∃ m : Int, (w5.alloc (.cells #[.int .i64 most, .int .i64 (most.tmod 300), .int .i64 300] 3)).cell? ⟨w5.heap.size, k, none⟩ = some (.int .i64 m) := by
    intro k hk
    have hn := (Blk.new w5 3 #[.int .i64 most, .int .i64 (most.tmod 300), .int .i64 300]).cell k
    rcases (show k = 0 ∨ k = 1 ∨ k = 2 by omega) with rfl | rfl | rfl
    · exact ⟨_, hn⟩
    · exact ⟨_, hn⟩
    · exact ⟨_, hn⟩
  have hb6 := hb5.alloc hb5.size (.cells #[.int .i64 most, .int .i64 (most.tmod 300), .int .i64 300] 3)
  have hr6 := (hr5.alloc (Nat.le_refl _) (.cells #[.int .i64 most, .int .i64 (most.tmod 300), .int .i64 300] 3)).more (B' := w5.heap.size + 1) (by omega)
  have he6 : (w5.alloc (.cells #[.int .i64 most, .int .i64 (most.tmod 300), .int .i64 300] 3)).heap.size = w5.heap.size + 1 := by simp
  rw [← he6] at hr6
  have hq : w5.heap.size < (w5.alloc (.cells #[.int .i64 most, .int .i64 (most.tmod 300), .int .i64 300] 3)).heap.size := by omega
  clear he6 hb5 hr5
  generalize w5.alloc (.cells #[.int .i64 most, .int .i64 (most.tmod 300), .int .i64 300] 3) = w6 at *
  generalize w5.heap.size = q at *
  go_loopw [85] (fun i wr => ∃ k : Nat, k ≤ 3 ∧ i = .int .i64 (k : Int) ∧ Below w6.heap.size w6 wr) (fun i _ => 3 - (intOf i).toNat)
  case atStart => exact ⟨0, by omega, rfl, Below.refl _ _⟩
  case round =>
    rename_i hrel
    obtain ⟨k, hk3, rfl, hbr⟩ := hrel
    by_cases hk : k < 3
    · obtain ⟨m, hm⟩ := hcell k hk
      have hm' := (hbr.cell (p := ⟨q, k, none⟩) hq).trans hm
      have hrr := (hr6.below hbr).more hbr.size
      clear hm hcell
      by_cases hp : (s.length : Int) ≤ m
      · obtain ⟨x, hx⟩ : ∃ x, b ++ putU s.length 2 ++ s = x := ⟨_, rfl⟩
        have hxl : x.length = b.length + (2 + s.length) := by rw [← hx]; simp [putU_len]
        have hxd : x.drop b.length = putU s.length 2 ++ s := by rw [← hx, List.append_assoc, List.drop_left]
        replace hx := Lib.hid hx
        replace hxl := Lib.hid hxl
        replace hxd := Lib.hid hxd
        go_wp2_with fail
        refine (put_text (c := c) hrr (Nat.le_refl _) (by omega) hp (by omega) hx.out).mono ?_
        rintro e w7 ⟨A7, c7, rfl, ho7, hb7', hg7⟩
        dsimp only
        have hr7 := (hrr.below hb7').more hb7'.size
        have hb7 := below_then hb7' hbr
        go_wp2_with fail
        refine (ref_put_text hr7 (Nat.le_refl _) (by omega) hp (by omega) hx.out).mono ?_
        rintro e w8 ⟨A8, c8, rfl, ho8, hb8', hg8⟩
        dsimp only
        have hr8 := (hr7.below hb8').more hb8'.size
        have hb8 := below_then hb8' hb7
        have ho78 := ho7.below hb8' (Nat.le_refl _)
        obtain ⟨t, ht⟩ : ∃ t, readT b m = t := ⟨_, rfl⟩
        replace ht := Lib.hid ht
        go_wp2_with fail
        refine (read_text hr8 hc (by omega) ht.out).mono ?_
        rintro e w9 ⟨rfl, hb9'⟩
        dsimp only
        have hr9 := (Reads.below hr8 hb9').more hb9'.size
        have hb9 := below_then hb9' hb8
        go_wp2_with fail
        refine (ref_read_text hr9 hc (by omega) ht.out).mono ?_
        rintro e w10 ⟨rfl, hb10'⟩
        dsimp only
        have hb10 := below_then hb10' hb9
        have hb810 := below_then hb10' hb9'
        have ho10 := ho78.below hb810 (Nat.le_refl _)
        have k1 := conv_bytes (c := c7) ho10.reads_
        have k2 := conv_bytes (c := c8) (ho8.below hb810 (Nat.le_refl _)).reads_
        have hcl := ho10.le_cap
        have hxb : b.length < x.length := by rw [hxl.out]; omega
        have hxc : b.length < c7 := by omega
        obtain ⟨g, cur, rfl, -, -, -⟩ := ho10.open_ (by omega)
        obtain ⟨y, hy⟩ : ∃ y, putU s.length 2 ++ s = y := ⟨_, rfl⟩
        have hyl : x.length - b.length = y.length := by rw [hxl.out, ← hy]; simp [putU_len]
        have hry : Reads w10 w10.heap.size 1 (some ⟨g, b.length, none⟩) y.length (bys y) := by
          have := ho10.reads_.cut (k := b.length) (cap := x.length) (by omega) (Nat.le_refl _)
          rw [if_neg (by omega), Nat.mul_one, bys_drop, hxd.out, hy, Option.map_some, add_row, hyl] at this
          exact this
        have hty := readT_put s m hp (by omega)
        rw [hy] at hty
        replace hy := Lib.hid hy
        replace hyl := Lib.hid hyl
        replace hty := Lib.hid hty
        clear ho7 ho8 ho78 ho10 hr7 hr8 hr9 hb7' hb8' hb9' hb10' hb7 hb8 hb9 hg7 hg8 hb810
        go_wp2_with fail
        have hyb : y.length ≤ 1000000 := by rw [← hyl.out, hxl.out]; omega
        have hyc : y.length ≤ c7 - b.length := by rw [← hyl.out]; omega
        rw [hyl.out]
        refine (read_text hry hyc (by omega) hty.out).mono ?_
        rintro e w11 ⟨rfl, hb11'⟩
        dsimp only
        have hb11 := below_then hb11' hb10
        have e2 : (((2 + s.length : Nat) : Int) == (s.length : Int) + 2) = true := by rw [beq_iff_eq]; omega
        have e3 : (((2 + s.length : Nat) : Int) != (s.length : Int) + 2) = false := by simp; omega
        go_wp2_with fail
        go_roundw
        case rel => exact ⟨k + 1, by omega, by simp, by assumption⟩
        case measure => simp [intOf]; omega
      · replace hp : m < (s.length : Int) := by omega
        go_wp2_with fail
        refine (put_text_no (.inl hp) (by omega)).mono ?_
        rintro e w7 ⟨rfl, rfl⟩
        dsimp only
        go_wp2_with fail
        refine (ref_put_text_no (.inl hp) (by omega)).mono ?_
        rintro e w8 ⟨rfl, rfl⟩
        dsimp only
        obtain ⟨t, ht⟩ : ∃ t, readT b m = t := ⟨_, rfl⟩
        replace ht := Lib.hid ht
        go_wp2_with fail
        refine (read_text hrr hc (by omega) ht.out).mono ?_
        rintro e w9 ⟨rfl, hb9'⟩
        dsimp only
        have hr9 := (Reads.below hrr hb9').more hb9'.size
        have hb9 := below_then hb9' hbr
        go_wp2_with fail
        refine (ref_read_text hr9 hc (by omega) ht.out).mono ?_
        rintro e w10 ⟨rfl, hb10'⟩
        dsimp only
        have hb10 := below_then hb10' hb9
        have k1 := conv_bytes (A := none) (n := 0) (c := 0) (bs := []) (w := w10) (B := 0) Reads.none_
        go_wp2_with fail
        go_roundw
        case rel => exact ⟨k + 1, by omega, by simp, by assumption⟩
        case measure => simp [intOf]; omega
    · have hk' : k = 3 := by omega
      subst hk'
      go_wp2_with fail
      go_ret
      exact ⟨rfl, below_then hbr hb6⟩
end Go.Proofs.Ytafogjonicdbmaa
