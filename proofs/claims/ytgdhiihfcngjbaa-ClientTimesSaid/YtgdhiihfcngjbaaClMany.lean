/- ClientMany: four calls are open, a fifth is refused, an answer makes room. -/
import Derived.Test.YtgdhiihfcngjbaaCl14
set_option linter.unusedSimpArgs false
set_option linter.unusedVariables false
namespace Go.Proofs.Ytgdhiihfcngjbaa
open Go.RowKit
set_option maxRecDepth 100000

def manyO (i : Nat) : OpnD := ⟨⟨2, i + 1, 0, (⟨#[103]⟩ : ByteArray).toList, (⟨#[109]⟩ : ByteArray).toList, []⟩, 0, true⟩
def many (j : Nat) : CliD := ⟨2, j, (List.range j).map manyO, []⟩
def idN (j : Nat) : List Value := (List.range j).flatMap fun i => [.int .u32 2, .int .u32 ((i + 1 : Nat) : Int), .int .u16 0]
theorem good_gm : badC (⟨#[103]⟩ : ByteArray) (⟨#[109]⟩ : ByteArray) [] = false := by rfl
theorem goodE {d : CliD} (h : d.op.length < 4) : callE d (⟨#[103]⟩ : ByteArray) (⟨#[109]⟩ : ByteArray) [] = 0 := by
  unfold callE
  rw [if_neg (by rw [good_gm]; decide), if_neg (by omega)]
theorem fullE {d : CliD} (h : 4 ≤ d.op.length) : callE d (⟨#[103]⟩ : ByteArray) (⟨#[109]⟩ : ByteArray) [] = 42 := by
  unfold callE
  rw [if_neg (by rw [good_gm]; decide), if_pos h]
theorem many_len (j : Nat) : (many j).op.length = j := by simp [many]
theorem manyD {j : Nat} (h : j < 4) : callD (many j) (⟨#[103]⟩ : ByteArray) (⟨#[109]⟩ : ByteArray) [] = many (j + 1) := by
  unfold callD
  rw [if_pos (goodE (by rw [many_len]; exact h))]
  simp [many, List.range_succ, manyO]
theorem idN_next (j : Nat) : idN (j + 1) = idN j ++ [.int .u32 2, .int .u32 ((j + 1 : Nat) : Int), .int .u16 0] := by simp [idN, List.range_succ]
theorem id_at {m : Nat} (hm : m < 4) : ∀ t v, ([.int .u32 2, .int .u32 ((m + 1 : Nat) : Int), .int .u16 0] : List Value)[t]? = some v → (idN 4)[m * 3 + t]? = some v := by
  intro t v hv
  have ht : t < 3 := by have := atLt hv; simpa using this
  rcases (show m = 0 ∨ m = 1 ∨ m = 2 ∨ m = 3 by omega) with rfl | rfl | rfl | rfl <;> rcases (show t = 0 ∨ t = 1 ∨ t = 2 by omega) with rfl | rfl | rfl <;> exact hv
def manyR (m : Nat) : CliD := ⟨2, 4, (many 4).op.eraseIdx m, [⟨2, m + 1, 0, 0, zeroV⟩]⟩
theorem many_recv {m : Nat} (hm : m < 4) : recvD (many 4) ⟨2, m + 1, 0, 0, cleanV zeroV⟩ = (manyR m, true) := by
  rcases (show m = 0 ∨ m = 1 ∨ m = 2 ∨ m = 3 by omega) with rfl | rfl | rfl | rfl <;> rfl
theorem manyR_len {m : Nat} (hm : m < 4) : (manyR m).op.length = 3 := by
  rcases (show m = 0 ∨ m = 1 ∨ m = 2 ∨ m = 3 by omega) with rfl | rfl | rfl | rfl <;> rfl

set_option maxHeartbeats 6400000 in
theorem clientMany_walk (n : Int) (w : World) (h0 : 0 ≤ n) (h9 : n ≤ 255) : Calls Try.prog 3 #[.int .u8 n] w (fun e w' => e = .returned (.bool true) ∧ Below w.heap.size w w') := by
  obtain ⟨i0, hi, hz0, hz1, hz2⟩ := info_parts info_id
  have hsf := fun a k x m w => run_store_float (P := Try.prog) a k x m w
  have hkn := fun W => known_true W
  obtain ⟨m, hm⟩ : ∃ m : Nat, n % 4 = (m : Int) := ⟨(n % 4).toNat, by omega⟩
  have t4 : n.tmod 4 = (m : Int) := by rw [Int.tmod_eq_emod_of_nonneg h0]; exact hm
  have hm4 : m < 4 := by omega
  have wm : IntKind.i64.wrap (m : Int) = (m : Int) := by rw [IntKind.wrap_i64]; omega
  have wn : IntKind.i64.wrap n = n := by rw [IntKind.wrap_i64]; omega
  replace hkn := Lib.hid hkn
  go_enter Try.func3, Try.ntmps3
  go_wp2_with fail
  refine (hkn.out w).mono ?_
  rintro e w0 ⟨rfl, hb0⟩
  try dsimp only
  go_wp2_with fail
  refine (cl_new w0 2 3 (by decide)).mono ?_
  rintro e w1 ⟨rfl, hS1, hb1⟩
  try dsimp only
  obtain ⟨G, hG⟩ : ∃ y, w0.heap.size = y := ⟨_, rfl⟩
  have hs0 := hb0.size
  have hs1 := hb1.size
  have hb01 : Below w.heap.size w w1 := below_then hb1 hb0
  rw [hG] at hS1 hs0 ⊢
  have hFF1 : ∀ y, y = G → w.heap.size ≤ y := fun y e => by omega
  clear hb0 hb1
  replace hS1 := Lib.hid hS1
  go_wp2_with fail
  go_loopw [4, 5] (fun ids i wr => ∃ (j : Nat) (A : Option Addr) (c : Nat) (F : Nat → Prop), j ≤ 4 ∧ ids = .slice A j c ∧ i = .int .i64 (j : Int) ∧ StubS wr F G (many j) ∧ (∀ y, F y → w.heap.size ≤ y) ∧ Own wr 29 3 A j c (idN j) ∧ (∀ y, bOf A = some y → w.heap.size ≤ y ∧ ¬ F y) ∧ Below w.heap.size w wr) (fun _ i _ => 4 - (intOf i).toNat)
  case atStart => exact ⟨0, none, 0, fun y => y = G, by omega, rfl, rfl, hS1.out, hFF1, Own.none_, by simp [bOf], hb01⟩
  case round =>
    rename_i hrel
    obtain ⟨j, A, c, F, hj, rfl, rfl, hS, hF, ho, hA, hb⟩ := hrel
    have hsr := hb.size
    by_cases hlt : j < 4
    · have hd : decide ((j : Int) < 4) = true := decide_eq_true (by omega)
      have hjw : IntKind.i64.wrap ((j : Int) + 1) = (j : Int) + 1 := by rw [IntKind.wrap_i64]; omega
      have hc1 := cl_callS hS (held_none wr (fun y => y = G) 2 (j + 1) 0 (⟨#[103]⟩ : ByteArray) (⟨#[109]⟩ : ByteArray) (by decide) (by omega) (by decide)) (by decide) (show j < 1000000 by omega) (by decide) (by decide)
      rw [manyD hlt, goodE (by rw [many_len]; exact hlt), List.length_nil, show callC (many j) (⟨#[103]⟩ : ByteArray) (⟨#[109]⟩ : ByteArray) [] = 2 by unfold callC; rw [if_pos (goodE (by rw [many_len]; exact hlt))]; rfl, show callS (many j) (⟨#[103]⟩ : ByteArray) (⟨#[109]⟩ : ByteArray) [] = j + 1 by unfold callS; rw [if_pos (goodE (by rw [many_len]; exact hlt))]; rfl] at hc1
      have hid := idN_next j
      obtain ⟨k1, hk1⟩ : ∃ q, j + 1 = q := ⟨_, rfl⟩
      rw [hk1] at hc1 hid
      have hcap := ho.le_cap
      replace hc1 := Lib.hid hc1
      replace hS := Lib.hid hS
      replace hid := Lib.hid hid
      replace hF := Lib.hid hF
      replace hA := Lib.hid hA
      replace hk1 := Lib.hid hk1
      clear hcap
      go_wp2_with fail
      refine hc1.out.mono ?_
      clear hc1
      rintro e w4 ⟨rfl, hC4⟩
      try dsimp only
      obtain ⟨F4, hS4, hF4, hb4, hu4⟩ := hC4.next (b := w.heap.size) (K := fun y => bOf A = some y) (w0 := w) (fun y hy => ⟨hF.out y hy, fun e => (hA.out y e).2 hy⟩) (fun y hy => ho.lt hy) hb hsr
      have ho4 := ho.upd hu4 (fun y hy e => e hy)
      have hft4 := hS4.ft
      have hsr4 := hb4.size
      obtain ⟨w5, hw5⟩ : ∃ q, q = w4.alloc (.cells #[.int .u32 2, .int .u32 (k1 : Int), .int .u16 0] 29) := ⟨_, rfl⟩
      have hb45 : Below w4.heap.size w4 w5 := by rw [hw5]; exact (Below.refl _ _).alloc (Nat.le_refl _) _
      have hbx : Blk w5 w4.heap.size 29 #[.int .u32 2, .int .u32 (k1 : Int), .int .u16 0] := by rw [hw5]; exact Blk.new w4 _ _
      have ho5 := ho4.below hb45 (Nat.le_refl _)
      have hb5 := hb4.trans (hb45.mono hsr4)
      have hS5 := hS4.below hb45
      have hs45 := hb45.size
      obtain ⟨bx, hbxe⟩ : ∃ y, w4.heap.size = y := ⟨_, rfl⟩
      rw [hbxe] at hbx
      replace hS5 := Lib.hid hS5
      clear hS4 hC4 ho hu4 ho4 hb45
      go_upto_region 11 with (fail)
      rw [← hw5]
      try rw [hbxe]
      clear hw5
      have p0 := hbx.cell 0
      have p1 := hbx.cell 1
      have p2 := hbx.cell 2
      have hsrc := Reads.lit (size := 3) w5 #[.int .u32 2, .int .u32 (k1 : Int), .int .u16 0] 29 (0, 0) 1 [.int .u32 2, .int .u32 (k1 : Int), .int .u16 0] rfl rfl
      have hb57 := (Below.refl w5.heap.size w5).alloc (Nat.le_refl _) (.cells #[.int .u32 2, .int .u32 (k1 : Int), .int .u16 0] 29)
      have hb7 := hb5.alloc hb5.size (.cells #[.int .u32 2, .int .u32 (k1 : Int), .int .u16 0] 29)
      have ho7 := ho5.alloc (.cells #[.int .u32 2, .int .u32 (k1 : Int), .int .u16 0] 29)
      have hS7 := hS5.out.below hb57
      have hs7 := hb57.size
      replace hS7 := Lib.hid hS7
      replace hb57 := Lib.hid hb57
      go_wp2_with (at_builtin; go_must (refine wpList_append_mine rfl _ _ 26 26 rfl 29 i0 _ 3 12 Try.underlying26 hi hz0 hz1 hz2 rfl rfl ho7 rfl (Src.ofReads Try.underlying26 _ hsrc (by intro u hu; simp only [List.mem_cons, List.not_mem_nil, or_false] at hu; rcases hu with rfl | rfl | rfl <;> rfl)) (by unfold maxLen; omega) (by omega) (fun A10 c10 w10 ho10 hg10 hat10 => ?_)))
      have hu10 : Upd (fun z => bOf A = some z) (w5.alloc (.cells #[.int .u32 2, .int .u32 (k1 : Int), .int .u16 0] 29)) w10 := (Upd.refl (fun z => bOf A = some z) _).grown hg10 (fun k e _ => e)
      have hnF : ∀ y, F4 y → ¬ bOf A = some y := fun y hy e => (hF4 y hy).2 e
      have hS10 := hS7.out.keep hu10 hnF
      have hA10 : ∀ y, bOf A10 = some y → w.heap.size ≤ y ∧ ¬ F4 y := fun y hy => by
        rcases hat10 with e | e <;> rw [e] at hy
        · exact ⟨(hA.out y hy).1, fun h => hnF y h hy⟩
        · have h2 : (w5.alloc (.cells #[.int .u32 2, .int .u32 (k1 : Int), .int .u16 0] 29)).heap.size = y := by injection hy
          exact ⟨by omega, fun h => by have := hft4 y h; omega⟩
      have hb10 : Below w.heap.size w w10 := hb7.grown hg10 hb7.size (fun y hy => (hA.out y hy).1)
      have hS10' : StubS w10 F4 G (many (j + 1)) := by rw [hk1.out]; exact hS10
      have ho10' : Own w10 29 3 A10 (j + 1) c10 (idN (j + 1)) := by have h1 := ho10; rw [← hid.out, ← hk1.out] at h1; exact h1
      replace hS10' := Lib.hid hS10'
      replace ho10' := Lib.hid ho10'
      replace hA10 := Lib.hid hA10
      replace hb10 := Lib.hid hb10
      clear hS10 hu10 ho10 hg10 hat10 hsrc
      go_roundw
      case rel => exact ⟨j + 1, A10, c10, F4, by omega, by rfl, by simp, hS10'.out, fun y hy => (hF4 y hy).1, ho10'.out, hA10.out, hb10.out⟩
      case measure => simp [intOf]; omega
    · have hj4 : j = 4 := by omega
      subst hj4
      have hcap := ho.le_cap
      have hc1 := cl_callS hS (held_none wr (fun y => y = G) 2 5 0 (⟨#[103]⟩ : ByteArray) (⟨#[109]⟩ : ByteArray) (by decide) (by decide) (by decide)) (by decide) (show (4 : Nat) < 1000000 by omega) (by decide) (by decide)
      have hE : callE (many 4) (⟨#[103]⟩ : ByteArray) (⟨#[109]⟩ : ByteArray) [] = 42 := fullE (by rw [many_len]; omega)
      rw [show callD (many 4) (⟨#[103]⟩ : ByteArray) (⟨#[109]⟩ : ByteArray) [] = many 4 by unfold callD; rw [hE, if_neg (by decide)], show callC (many 4) (⟨#[103]⟩ : ByteArray) (⟨#[109]⟩ : ByteArray) [] = 0 by unfold callC; rw [hE, if_neg (by decide)], show callS (many 4) (⟨#[103]⟩ : ByteArray) (⟨#[109]⟩ : ByteArray) [] = 0 by unfold callS; rw [hE, if_neg (by decide)], hE, List.length_nil] at hc1
      clear hE
      replace hc1 := Lib.hid hc1
      replace hS := Lib.hid hS
      replace hF := Lib.hid hF
      replace hA := Lib.hid hA
      go_wp2_with fail
      refine hc1.out.mono ?_
      clear hc1
      rintro e w4 ⟨rfl, hC4⟩
      try dsimp only
      obtain ⟨F4, hS4, hF4, hb4, hu4⟩ := hC4.next (b := w.heap.size) (K := fun y => bOf A = some y) (w0 := w) (fun y hy => ⟨hF.out y hy, fun e => (hA.out y e).2 hy⟩) (fun y hy => ho.lt hy) hb hsr
      have ho4 := ho.upd hu4 (fun y hy e => e hy)
      have hsr4 := hb4.size
      obtain ⟨w5, hw5⟩ : ∃ q, q = w4.alloc (.cells #[.int .u32 0, .int .u32 0, .int .u16 0] 29) := ⟨_, rfl⟩
      have hb45 : Below w4.heap.size w4 w5 := by rw [hw5]; exact (Below.refl _ _).alloc (Nat.le_refl _) _
      have ho5 := ho4.below hb45 (Nat.le_refl _)
      have hb5 := hb4.trans (hb45.mono hsr4)
      have hS5 := hS4.below hb45
      obtain ⟨y4, hy4⟩ : ∃ y, w4.heap.size = y := ⟨_, rfl⟩
      obtain ⟨gI, cur, rfl, hcur, -, htk, -⟩ := ho5.open_s (by decide)
      have hcell : ∀ t v, ([.int .u32 2, .int .u32 ((m + 1 : Nat) : Int), .int .u16 0] : List Value)[t]? = some v → w5.cell? ⟨gI, m * 3 + t, none⟩ = some v := fun t v hv => by
        have h1 := id_at hm4 t v hv
        rw [← htk, List.getElem?_take] at h1
        have ht : t < 3 := by have := atLt hv; simpa using this
        rw [if_pos (by omega)] at h1
        rw [hcur.cell, show cur[m * 3 + t]? = cur.toList[m * 3 + t]? by simp, h1]
      have p0 : w5.cell? ⟨gI, m * 3, none⟩ = some (.int .u32 2) := hcell 0 _ rfl
      have p1 : w5.cell? ⟨gI, m * 3 + 1, none⟩ = some (.int .u32 ((m + 1 : Nat) : Int)) := hcell 1 _ rfl
      have p2 : w5.cell? ⟨gI, m * 3 + 2, none⟩ = some (.int .u16 0) := hcell 2 _ rfl
      have hc2 := cl_recvS (rc := 2) (rs := m + 1) (rn := 0) (er := 0) hS5 (zero_reads w5) (Nat.le_refl _) zero_ok (by decide)
      rw [many_recv hm4] at hc2
      have hlR := manyR_len hm4
      obtain ⟨m1, hm1⟩ : ∃ q, m + 1 = q := ⟨_, rfl⟩
      rw [hm1] at hc2 p1
      replace hc2 := Lib.hid hc2
      replace hlR := Lib.hid hlR
      clear hS4 hC4 ho hu4 ho4 hb45 hcell htk hcur hS5 hm1
      go_upto_region 15 with (fail)
      rw [← hw5]
      try rw [hy4]
      clear hw5
      go_wp2_with fail
      refine hc2.out.mono ?_
      clear hc2
      rintro e w6 ⟨rfl, hC6⟩
      try dsimp only
      obtain ⟨F6, hS6, hF6, hb6, -⟩ := hC6.next (b := w.heap.size) (K := fun y => False) (w0 := w) (fun y hy => ⟨(hF4 y hy).1, fun h => h⟩) (fun y hy => hy.elim) hb5 hb5.size
      have hc3 := cl_callS hS6 (held_none w6 (fun y => y = G) 2 5 0 (⟨#[103]⟩ : ByteArray) (⟨#[109]⟩ : ByteArray) (by decide) (by decide) (by decide)) (by decide) (show (4 : Nat) < 1000000 by omega) (by decide) (by decide)
      have hE : callE (manyR m) (⟨#[103]⟩ : ByteArray) (⟨#[109]⟩ : ByteArray) [] = 0 := goodE (by rw [hlR.out]; omega)
      rw [show callC (manyR m) (⟨#[103]⟩ : ByteArray) (⟨#[109]⟩ : ByteArray) [] = 2 by unfold callC; rw [if_pos hE]; rfl, show callS (manyR m) (⟨#[103]⟩ : ByteArray) (⟨#[109]⟩ : ByteArray) [] = 5 by unfold callS; rw [if_pos hE]; rfl, hE, List.length_nil] at hc3
      have hl4 : (callD (manyR m) (⟨#[103]⟩ : ByteArray) (⟨#[109]⟩ : ByteArray) []).op.length = 4 := by
        unfold callD
        rw [if_pos hE, List.length_append, hlR.out]
        rfl
      clear hE
      generalize callD (manyR m) (⟨#[103]⟩ : ByteArray) (⟨#[109]⟩ : ByteArray) [] = d9 at hc3 hl4
      replace hc3 := Lib.hid hc3
      replace hl4 := Lib.hid hl4
      clear p0 p1 p2 hS6 hC6 ho5
      go_wp2_with fail
      refine hc3.out.mono ?_
      clear hc3
      rintro e w7 ⟨rfl, hC7⟩
      try dsimp only
      obtain ⟨F7, hS7, hF7, hb7, -⟩ := hC7.next (b := w.heap.size) (K := fun y => False) (w0 := w) hF6 (fun y hy => hy.elim) hb6 hb6.size
      obtain ⟨w8, hw8⟩ : ∃ q, q = w7.alloc (.cells #[.int .u32 2, .int .u32 5, .int .u16 0] 29) := ⟨_, rfl⟩
      have hb78 : Below w7.heap.size w7 w8 := by rw [hw8]; exact (Below.refl _ _).alloc (Nat.le_refl _) _
      have hbx : Blk w8 w7.heap.size 29 #[.int .u32 2, .int .u32 5, .int .u16 0] := by rw [hw8]; exact Blk.new w7 _ _
      have hc4 := cl_openS (hS7.below hb78)
      have hb8 := hb7.trans (hb78.mono hb7.size)
      rw [hl4.out] at hc4
      obtain ⟨y7, hy7⟩ : ∃ y, w7.heap.size = y := ⟨_, rfl⟩
      rw [hy7] at hbx
      replace hc4 := Lib.hid hc4
      clear hS7 hC7 hb78
      go_upto_region 18 with (fail)
      rw [← hw8]
      try rw [hy7]
      clear hw8
      have p1 := hbx.cell 1
      go_wp2_with fail
      refine hc4.out.mono ?_
      clear hc4
      rintro e w9 ⟨A9, c9, rfl, -, -, hb9⟩
      try dsimp only
      have hb9' := hb8.trans (hb9.mono hb8.size)
      go_wp2_with fail
      go_ret
      exact ⟨rfl, hb9'⟩
end Go.Proofs.Ytgdhiihfcngjbaa
