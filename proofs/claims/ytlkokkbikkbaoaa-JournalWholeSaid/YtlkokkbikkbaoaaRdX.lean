/- call's reader: no value to be read. -/
import Derived.Test.YtlkokkbikkbaoaaRdW
set_option linter.unusedSimpArgs false
set_option linter.unusedVariables false
set_option linter.unusedSimpArgs false
set_option linter.unusedVariables false
namespace Go.Proofs.Ytlkokkbikkbaoaa
open Go.RowKit
set_option maxRecDepth 100000

set_option maxHeartbeats 3200000 in
theorem cvalue_no_nil {r : Nat} {w : World} (h : CAt w r none 0 0 0) :
    Calls Try.prog 61 #[.pointer (some ⟨r, 0, none⟩)] w (fun e w' => e = .panicked shortC ∧ Below w.heap.size w w') := by
  have hsf := fun a k x m w => run_store_float (P := Try.prog) a k x m w
  have hrl : r < w.heap.size := Blk.lt h
  have hrv : ∀ w1, Below w.heap.size w w1 → Calls Try.prog 70 #[.slice none 0 0] w1 (fun e w' => e = .returned (.tuple #[.agg #[.int .i64 0, .int .i64 0, .float .f64 0, .string ⟨#[]⟩, .slice none 0 0], .int .i64 0, .int .i64 20]) ∧ Below w1.heap.size w1 w') := fun w1 hb1 => by
    have hx := wire_read_v (b := []) (A := none) (c := 0) (w := w1) Reads.none_ (fun _ => rfl) (Nat.le_refl _) (by simp)
    exact hx
  have hz := Blk.new w 64 #[.int .i64 0, .int .i64 0, .float .f64 0, .string ⟨#[]⟩, .slice none 0 0]
  have hw2 : (w.alloc (.cells #[.int .i64 0, .int .i64 0, .float .f64 0, .string ⟨#[]⟩, .slice none 0 0] 64)).heap.size = w.heap.size + 1 := by simp
  have hR2 : CAt (w.alloc (.cells #[.int .i64 0, .int .i64 0, .float .f64 0, .string ⟨#[]⟩, .slice none 0 0] 64)) r none 0 0 0 := Blk.alloc h (.cells #[.int .i64 0, .int .i64 0, .float .f64 0, .string ⟨#[]⟩, .slice none 0 0] 64)
  have hb2 := (Below.refl w.heap.size w).alloc (Nat.le_refl _) (.cells #[.int .i64 0, .int .i64 0, .float .f64 0, .string ⟨#[]⟩, .slice none 0 0] 64)
  clear h
  replace hrv := Lib.hid hrv
  go_enter Try.func61, Try.ntmps61
  go_wp2_with fail
  generalize w.alloc (.cells #[.int .i64 0, .int .i64 0, .float .f64 0, .string ⟨#[]⟩, .slice none 0 0] 64) = w2 at *
  go_upto_region 1 with (fail)
  go_cut [3, 4, 5] from 6 to 19 (fun p3 v4 v5 wx => v5 = .int .i64 20 ∧ Below w2.heap.size w2 wx)
  case first =>
    have hS : w2.drew.cell? ⟨r, 0, none⟩ = some (.slice none 0 0) ∧ w2.drew.cell? ⟨r, 1, none⟩ = some (.int .i64 ((0 : Nat) : Int)) ∧ Below w2.heap.size w2 w2.drew := ⟨Blk.cell hR2 0, Blk.cell hR2 1, (Below.refl _ _).drew⟩
    refine wp_region_pair (fun W => W.cell? ⟨r, 0, none⟩ = some (.slice none 0 0) ∧ W.cell? ⟨r, 1, none⟩ = some (.int .i64 ((0 : Nat) : Int)) ∧ Below w2.heap.size w2 W) [3, 7] [9, 14, 15] [0, 1, 2, 3, 4, 5, 6, 7, 8] 9 14 [10, 11, 12, 13, 14, 15, 16, 17] [9, 10, 11, 12, 13, 15, 16, 17] (by kernel_rfl) rfl rfl (by kernel_rfl) (by kernel_rfl) (by kernel_rfl) rfl rfl (by kernel_rfl) (by kernel_rfl) (fun _ _ d _ _ h => by cases d <;> exact h) ?_
    repeat (first | (refine lexG_take _ ?_ rfl rfl rfl rfl (fun _ => ?_) ?_; rotate_left; (focus (go_simp; with_reducible rfl)); try simp only [Act.put, List.setIfInBounds_toArray, List.set_cons_zero, List.set_cons_succ]) | (refine lexG_held _ ?_ rfl rfl rfl rfl (by assumption) (fun _ hSw => ?_) ?_; rotate_left; (focus ((try dsimp only at hSw); go_simp; with_reducible rfl)); try simp only [Act.put, List.setIfInBounds_toArray, List.set_cons_zero, List.set_cons_succ]) | (refine lexG_skip _ rfl rfl (by assumption) ?_; try simp only [Act.put, List.setIfInBounds_toArray, List.set_cons_zero, List.set_cons_succ]))
    refine lexG_nil ?_
    refine ⟨?_, ?_⟩
    · refine lexG_now _ rfl rfl rfl (fun K hK => ?_)
      go_wp2_with fail
      refine (hrv.out _ (hb2.trans (hS.2.2.mono (by omega)))).mono ?_
      rintro e w5 ⟨rfl, hb5⟩
      dsimp only
      have hb5' : Below w2.heap.size w2 w5 := below_then hb5 hS.2.2
      have hR5 : CAt w5 r none 0 0 0 := Blk.below hR2 hb5' (Blk.lt hR2)
      refine hK _ _ _ (fun _ h => h) ⟨Blk.cell hR5 0, Blk.cell hR5 1, hb5'⟩ ?_
      clear hK K hS hb5
      try simp only [Act.put, List.setIfInBounds_toArray, List.set_cons_zero, List.set_cons_succ]
      repeat (first | (refine lexG_take _ ?_ rfl rfl rfl rfl (fun _ => ?_) ?_; rotate_left; (focus (go_simp; with_reducible rfl)); try simp only [Act.put, List.setIfInBounds_toArray, List.set_cons_zero, List.set_cons_succ]) | (refine lexG_held _ ?_ rfl rfl rfl rfl (by assumption) (fun _ hSw => ?_) ?_; rotate_left; (focus ((try dsimp only at hSw); go_simp; with_reducible rfl)); try simp only [Act.put, List.setIfInBounds_toArray, List.set_cons_zero, List.set_cons_succ]) | (refine lexG_skip _ rfl rfl (by assumption) ?_; try simp only [Act.put, List.setIfInBounds_toArray, List.set_cons_zero, List.set_cons_succ]))
      refine lexG_now _ rfl rfl rfl (fun K hK => ?_)
      go_simp
      have hb6 := hb5'.alloc hb5'.size (.cells #[.int .i64 0, .int .i64 0, .float .f64 0, .string ⟨#[]⟩, .slice none 0 0] 64)
      have hR6 : CAt (w5.alloc (.cells #[.int .i64 0, .int .i64 0, .float .f64 0, .string ⟨#[]⟩, .slice none 0 0] 64)) r none 0 0 0 := Blk.alloc hR5 (.cells #[.int .i64 0, .int .i64 0, .float .f64 0, .string ⟨#[]⟩, .slice none 0 0] 64)
      have h3 := Blk.new w5 64 #[.int .i64 0, .int .i64 0, .float .f64 0, .string ⟨#[]⟩, .slice none 0 0]
      have hr5l := Blk.lt hR5
      refine hK _ _ _ (fun _ h => h) ⟨Blk.cell hR6 0, Blk.cell hR6 1, hb6⟩ ?_
      clear hK K
      try simp only [Act.put, List.setIfInBounds_toArray, List.set_cons_zero, List.set_cons_succ]
      repeat (first | (refine lexG_take _ ?_ rfl rfl rfl rfl (fun _ => ?_) ?_; rotate_left; (focus (go_simp; with_reducible rfl)); try simp only [Act.put, List.setIfInBounds_toArray, List.set_cons_zero, List.set_cons_succ]) | (refine lexG_held _ ?_ rfl rfl rfl rfl (by assumption) (fun _ hSw => ?_) ?_; rotate_left; (focus ((try dsimp only at hSw); go_simp; with_reducible rfl)); try simp only [Act.put, List.setIfInBounds_toArray, List.set_cons_zero, List.set_cons_succ]) | (refine lexG_skip _ rfl rfl (by assumption) ?_; try simp only [Act.put, List.setIfInBounds_toArray, List.set_cons_zero, List.set_cons_succ]))
      refine lexG_now _ rfl rfl rfl (fun K hK => ?_)
      refine wp_store_row 64 (Operand.tmp 3) (Operand.tmp 17) rfl w5.heap.size #[.int .i64 0, .int .i64 0, .float .f64 0, .string ⟨#[]⟩, .slice none 0 0] (by simp [go_sem]) (by simp [go_sem]) 64 _ h3 (by kernel_rfl) rfl (by simp [Value.oneCell']) ?_
      have hb7 := below_row hb6 (g := w5.heap.size) hb5'.size #[.int .i64 0, .int .i64 0, .float .f64 0, .string ⟨#[]⟩, .slice none 0 0]
      have hR7 : CAt ((w5.alloc (.cells #[.int .i64 0, .int .i64 0, .float .f64 0, .string ⟨#[]⟩, .slice none 0 0] 64)).setRow w5.heap.size #[.int .i64 0, .int .i64 0, .float .f64 0, .string ⟨#[]⟩, .slice none 0 0]) r none 0 0 0 := Blk.farRow hR6 (by omega) #[.int .i64 0, .int .i64 0, .float .f64 0, .string ⟨#[]⟩, .slice none 0 0]
      refine hK _ _ _ (fun _ h => h) ⟨Blk.cell hR7 0, Blk.cell hR7 1, hb7⟩ ?_
      clear hK K
      try simp only [Act.put, List.setIfInBounds_toArray, List.set_cons_zero, List.set_cons_succ]
      repeat (first | (refine lexG_take _ ?_ rfl rfl rfl rfl (fun _ => ?_) ?_; rotate_left; (focus (go_simp; with_reducible rfl)); try simp only [Act.put, List.setIfInBounds_toArray, List.set_cons_zero, List.set_cons_succ]) | (refine lexG_held _ ?_ rfl rfl rfl rfl (by assumption) (fun _ hSw => ?_) ?_; rotate_left; (focus ((try dsimp only at hSw); go_simp; with_reducible rfl)); try simp only [Act.put, List.setIfInBounds_toArray, List.set_cons_zero, List.set_cons_succ]) | (refine lexG_skip _ rfl rfl (by assumption) ?_; try simp only [Act.put, List.setIfInBounds_toArray, List.set_cons_zero, List.set_cons_succ]))
      refine lexG_nil ?_
      go_wp2_with fail
      go_meet
      exact ⟨rfl, hb7⟩
    · refine lexG_now _ rfl rfl rfl (fun K hK => ?_)
      go_simp
      have hb3 : Below w2.heap.size w2 (w2.alloc (.cells #[.int .i64 0, .int .i64 0, .float .f64 0, .string ⟨#[]⟩, .slice none 0 0] 64)).drew := below_drewN ((Below.refl w2.heap.size w2).alloc (Nat.le_refl _) (.cells #[.int .i64 0, .int .i64 0, .float .f64 0, .string ⟨#[]⟩, .slice none 0 0] 64)) 1
      have hR3 : CAt (w2.alloc (.cells #[.int .i64 0, .int .i64 0, .float .f64 0, .string ⟨#[]⟩, .slice none 0 0] 64)).drew r none 0 0 0 := Blk.drew (Blk.alloc hR2 (.cells #[.int .i64 0, .int .i64 0, .float .f64 0, .string ⟨#[]⟩, .slice none 0 0] 64))
      have h3 := (Blk.new w2 64 #[.int .i64 0, .int .i64 0, .float .f64 0, .string ⟨#[]⟩, .slice none 0 0]).drew
      refine hK _ _ _ (fun _ h => h) ⟨Blk.cell hR3 0, Blk.cell hR3 1, hb3⟩ ?_
      clear hK K hS
      generalize (w2.alloc (.cells #[.int .i64 0, .int .i64 0, .float .f64 0, .string ⟨#[]⟩, .slice none 0 0] 64)).drew = w3 at *
      try simp only [Act.put, List.setIfInBounds_toArray, List.set_cons_zero, List.set_cons_succ]
      repeat (first | (refine lexG_take _ ?_ rfl rfl rfl rfl (fun _ => ?_) ?_; rotate_left; (focus (go_simp; with_reducible rfl)); try simp only [Act.put, List.setIfInBounds_toArray, List.set_cons_zero, List.set_cons_succ]) | (refine lexG_held _ ?_ rfl rfl rfl rfl (by assumption) (fun _ hSw => ?_) ?_; rotate_left; (focus ((try dsimp only at hSw); go_simp; with_reducible rfl)); try simp only [Act.put, List.setIfInBounds_toArray, List.set_cons_zero, List.set_cons_succ]) | (refine lexG_skip _ rfl rfl (by assumption) ?_; try simp only [Act.put, List.setIfInBounds_toArray, List.set_cons_zero, List.set_cons_succ]))
      refine lexG_now _ rfl rfl rfl (fun K hK => ?_)
      go_wp2_with fail
      refine (hrv.out _ (hb2.trans (hb3.mono (by omega)))).mono ?_
      rintro e w5 ⟨rfl, hb5⟩
      dsimp only
      have hb5' : Below w2.heap.size w2 w5 := below_then hb5 hb3
      have hR5 : CAt w5 r none 0 0 0 := Blk.below hR3 hb5 (Blk.lt hR3)
      have h35 := h3.below hb5 h3.lt
      refine hK _ _ _ (fun _ h => h) ⟨Blk.cell hR5 0, Blk.cell hR5 1, hb5'⟩ ?_
      clear hK K hb5
      try simp only [Act.put, List.setIfInBounds_toArray, List.set_cons_zero, List.set_cons_succ]
      repeat (first | (refine lexG_take _ ?_ rfl rfl rfl rfl (fun _ => ?_) ?_; rotate_left; (focus (go_simp; with_reducible rfl)); try simp only [Act.put, List.setIfInBounds_toArray, List.set_cons_zero, List.set_cons_succ]) | (refine lexG_held _ ?_ rfl rfl rfl rfl (by assumption) (fun _ hSw => ?_) ?_; rotate_left; (focus ((try dsimp only at hSw); go_simp; with_reducible rfl)); try simp only [Act.put, List.setIfInBounds_toArray, List.set_cons_zero, List.set_cons_succ]) | (refine lexG_skip _ rfl rfl (by assumption) ?_; try simp only [Act.put, List.setIfInBounds_toArray, List.set_cons_zero, List.set_cons_succ]))
      refine lexG_now _ rfl rfl rfl (fun K hK => ?_)
      refine wp_store_row 64 (Operand.tmp 3) (Operand.tmp 17) rfl w2.heap.size #[.int .i64 0, .int .i64 0, .float .f64 0, .string ⟨#[]⟩, .slice none 0 0] (by simp [go_sem]) (by simp [go_sem]) 64 _ h35 (by kernel_rfl) rfl (by simp [Value.oneCell']) ?_
      have hr2l := Blk.lt hR2
      have hb7 := below_row hb5' (g := w2.heap.size) (Nat.le_refl _) #[.int .i64 0, .int .i64 0, .float .f64 0, .string ⟨#[]⟩, .slice none 0 0]
      have hR7 : CAt (w5.setRow w2.heap.size #[.int .i64 0, .int .i64 0, .float .f64 0, .string ⟨#[]⟩, .slice none 0 0]) r none 0 0 0 := Blk.farRow hR5 (by omega) #[.int .i64 0, .int .i64 0, .float .f64 0, .string ⟨#[]⟩, .slice none 0 0]
      refine hK _ _ _ (fun _ h => h) ⟨Blk.cell hR7 0, Blk.cell hR7 1, hb7⟩ ?_
      clear hK K
      try simp only [Act.put, List.setIfInBounds_toArray, List.set_cons_zero, List.set_cons_succ]
      repeat (first | (refine lexG_take _ ?_ rfl rfl rfl rfl (fun _ => ?_) ?_; rotate_left; (focus (go_simp; with_reducible rfl)); try simp only [Act.put, List.setIfInBounds_toArray, List.set_cons_zero, List.set_cons_succ]) | (refine lexG_held _ ?_ rfl rfl rfl rfl (by assumption) (fun _ hSw => ?_) ?_; rotate_left; (focus ((try dsimp only at hSw); go_simp; with_reducible rfl)); try simp only [Act.put, List.setIfInBounds_toArray, List.set_cons_zero, List.set_cons_succ]) | (refine lexG_skip _ rfl rfl (by assumption) ?_; try simp only [Act.put, List.setIfInBounds_toArray, List.set_cons_zero, List.set_cons_succ]))
      refine lexG_nil ?_
      go_wp2_with fail
      go_meet
      exact ⟨rfl, hb7⟩
  case rest =>
    obtain ⟨rfl, hbc⟩ := hcut
    go_wp2_with fail
    refine (cmust_no _).mono ?_
    rintro e w8 ⟨rfl, rfl⟩
    dsimp only
    have hfin := hb2.trans (hbc.mono hb2.size)
    go_wp2_with fail
    exact ⟨rfl, rfl, hfin⟩

set_option maxHeartbeats 3200000 in
theorem cvalue_no_end {ad : Addr} {m at_ r : Nat} {w : World} (h : CAt w r (some ad) m at_ at_) (hat : at_ ≤ m) (hm : m ≤ at_) :
    Calls Try.prog 61 #[.pointer (some ⟨r, 0, none⟩)] w (fun e w' => e = .panicked shortC ∧ Below w.heap.size w w') := by
  have hsf := fun a k x m w => run_store_float (P := Try.prog) a k x m w
  have hrl : r < w.heap.size := Blk.lt h
  have hm0 : m - at_ = 0 := by omega
  have hrv : ∀ w1, Below w.heap.size w w1 → Calls Try.prog 70 #[.slice (some ad) 0 0] w1 (fun e w' => e = .returned (.tuple #[.agg #[.int .i64 0, .int .i64 0, .float .f64 0, .string ⟨#[]⟩, .slice none 0 0], .int .i64 0, .int .i64 20]) ∧ Below w1.heap.size w1 w') := fun w1 hb1 => by
    have hx := wire_read_v (b := []) (A := some ad) (c := 0) (w := w1) ⟨by simp [bys], fun h => absurd h (by simp)⟩ (fun _ => rfl) (Nat.le_refl _) (by simp)
    exact hx
  clear hm0
  have hz := Blk.new w 64 #[.int .i64 0, .int .i64 0, .float .f64 0, .string ⟨#[]⟩, .slice none 0 0]
  have hw2 : (w.alloc (.cells #[.int .i64 0, .int .i64 0, .float .f64 0, .string ⟨#[]⟩, .slice none 0 0] 64)).heap.size = w.heap.size + 1 := by simp
  have hR2 : CAt (w.alloc (.cells #[.int .i64 0, .int .i64 0, .float .f64 0, .string ⟨#[]⟩, .slice none 0 0] 64)) r (some ad) m at_ at_ := Blk.alloc h (.cells #[.int .i64 0, .int .i64 0, .float .f64 0, .string ⟨#[]⟩, .slice none 0 0] 64)
  have hb2 := (Below.refl w.heap.size w).alloc (Nat.le_refl _) (.cells #[.int .i64 0, .int .i64 0, .float .f64 0, .string ⟨#[]⟩, .slice none 0 0] 64)
  clear h
  replace hrv := Lib.hid hrv
  go_enter Try.func61, Try.ntmps61
  go_wp2_with fail
  generalize w.alloc (.cells #[.int .i64 0, .int .i64 0, .float .f64 0, .string ⟨#[]⟩, .slice none 0 0] 64) = w2 at *
  go_upto_region 1 with (fail)
  go_cut [3, 4, 5] from 6 to 19 (fun p3 v4 v5 wx => v5 = .int .i64 20 ∧ Below w2.heap.size w2 wx)
  case first =>
    have hS : w2.drew.cell? ⟨r, 0, none⟩ = some (.slice (some ad) m at_) ∧ w2.drew.cell? ⟨r, 1, none⟩ = some (.int .i64 (at_ : Int)) ∧ Below w2.heap.size w2 w2.drew := ⟨Blk.cell hR2 0, Blk.cell hR2 1, (Below.refl _ _).drew⟩
    refine wp_region_pair (fun W => W.cell? ⟨r, 0, none⟩ = some (.slice (some ad) m at_) ∧ W.cell? ⟨r, 1, none⟩ = some (.int .i64 (at_ : Int)) ∧ Below w2.heap.size w2 W) [3, 7] [9, 14, 15] [0, 1, 2, 3, 4, 5, 6, 7, 8] 9 14 [10, 11, 12, 13, 14, 15, 16, 17] [9, 10, 11, 12, 13, 15, 16, 17] (by kernel_rfl) rfl rfl (by kernel_rfl) (by kernel_rfl) (by kernel_rfl) rfl rfl (by kernel_rfl) (by kernel_rfl) (fun _ _ d _ _ h => by cases d <;> exact h) ?_
    repeat (first | (refine lexG_take _ ?_ rfl rfl rfl rfl (fun _ => ?_) ?_; rotate_left; (focus (go_simp; with_reducible rfl)); try simp only [Act.put, List.setIfInBounds_toArray, List.set_cons_zero, List.set_cons_succ]) | (refine lexG_held _ ?_ rfl rfl rfl rfl (by assumption) (fun _ hSw => ?_) ?_; rotate_left; (focus ((try dsimp only at hSw); go_simp; with_reducible rfl)); try simp only [Act.put, List.setIfInBounds_toArray, List.set_cons_zero, List.set_cons_succ]) | (refine lexG_skip _ rfl rfl (by assumption) ?_; try simp only [Act.put, List.setIfInBounds_toArray, List.set_cons_zero, List.set_cons_succ]))
    refine lexG_nil ?_
    refine ⟨?_, ?_⟩
    · refine lexG_now _ rfl rfl rfl (fun K hK => ?_)
      go_wp2_with fail
      refine (hrv.out _ (hb2.trans (hS.2.2.mono (by omega)))).mono ?_
      rintro e w5 ⟨rfl, hb5⟩
      dsimp only
      have hb5' : Below w2.heap.size w2 w5 := below_then hb5 hS.2.2
      have hR5 : CAt w5 r (some ad) m at_ at_ := Blk.below hR2 hb5' (Blk.lt hR2)
      refine hK _ _ _ (fun _ h => h) ⟨Blk.cell hR5 0, Blk.cell hR5 1, hb5'⟩ ?_
      clear hK K hS hb5
      try simp only [Act.put, List.setIfInBounds_toArray, List.set_cons_zero, List.set_cons_succ]
      repeat (first | (refine lexG_take _ ?_ rfl rfl rfl rfl (fun _ => ?_) ?_; rotate_left; (focus (go_simp; with_reducible rfl)); try simp only [Act.put, List.setIfInBounds_toArray, List.set_cons_zero, List.set_cons_succ]) | (refine lexG_held _ ?_ rfl rfl rfl rfl (by assumption) (fun _ hSw => ?_) ?_; rotate_left; (focus ((try dsimp only at hSw); go_simp; with_reducible rfl)); try simp only [Act.put, List.setIfInBounds_toArray, List.set_cons_zero, List.set_cons_succ]) | (refine lexG_skip _ rfl rfl (by assumption) ?_; try simp only [Act.put, List.setIfInBounds_toArray, List.set_cons_zero, List.set_cons_succ]))
      refine lexG_now _ rfl rfl rfl (fun K hK => ?_)
      go_simp
      have hb6 := hb5'.alloc hb5'.size (.cells #[.int .i64 0, .int .i64 0, .float .f64 0, .string ⟨#[]⟩, .slice none 0 0] 64)
      have hR6 : CAt (w5.alloc (.cells #[.int .i64 0, .int .i64 0, .float .f64 0, .string ⟨#[]⟩, .slice none 0 0] 64)) r (some ad) m at_ at_ := Blk.alloc hR5 (.cells #[.int .i64 0, .int .i64 0, .float .f64 0, .string ⟨#[]⟩, .slice none 0 0] 64)
      have h3 := Blk.new w5 64 #[.int .i64 0, .int .i64 0, .float .f64 0, .string ⟨#[]⟩, .slice none 0 0]
      have hr5l := Blk.lt hR5
      refine hK _ _ _ (fun _ h => h) ⟨Blk.cell hR6 0, Blk.cell hR6 1, hb6⟩ ?_
      clear hK K
      try simp only [Act.put, List.setIfInBounds_toArray, List.set_cons_zero, List.set_cons_succ]
      repeat (first | (refine lexG_take _ ?_ rfl rfl rfl rfl (fun _ => ?_) ?_; rotate_left; (focus (go_simp; with_reducible rfl)); try simp only [Act.put, List.setIfInBounds_toArray, List.set_cons_zero, List.set_cons_succ]) | (refine lexG_held _ ?_ rfl rfl rfl rfl (by assumption) (fun _ hSw => ?_) ?_; rotate_left; (focus ((try dsimp only at hSw); go_simp; with_reducible rfl)); try simp only [Act.put, List.setIfInBounds_toArray, List.set_cons_zero, List.set_cons_succ]) | (refine lexG_skip _ rfl rfl (by assumption) ?_; try simp only [Act.put, List.setIfInBounds_toArray, List.set_cons_zero, List.set_cons_succ]))
      refine lexG_now _ rfl rfl rfl (fun K hK => ?_)
      refine wp_store_row 64 (Operand.tmp 3) (Operand.tmp 17) rfl w5.heap.size #[.int .i64 0, .int .i64 0, .float .f64 0, .string ⟨#[]⟩, .slice none 0 0] (by simp [go_sem]) (by simp [go_sem]) 64 _ h3 (by kernel_rfl) rfl (by simp [Value.oneCell']) ?_
      have hb7 := below_row hb6 (g := w5.heap.size) hb5'.size #[.int .i64 0, .int .i64 0, .float .f64 0, .string ⟨#[]⟩, .slice none 0 0]
      have hR7 : CAt ((w5.alloc (.cells #[.int .i64 0, .int .i64 0, .float .f64 0, .string ⟨#[]⟩, .slice none 0 0] 64)).setRow w5.heap.size #[.int .i64 0, .int .i64 0, .float .f64 0, .string ⟨#[]⟩, .slice none 0 0]) r (some ad) m at_ at_ := Blk.farRow hR6 (by omega) #[.int .i64 0, .int .i64 0, .float .f64 0, .string ⟨#[]⟩, .slice none 0 0]
      refine hK _ _ _ (fun _ h => h) ⟨Blk.cell hR7 0, Blk.cell hR7 1, hb7⟩ ?_
      clear hK K
      try simp only [Act.put, List.setIfInBounds_toArray, List.set_cons_zero, List.set_cons_succ]
      repeat (first | (refine lexG_take _ ?_ rfl rfl rfl rfl (fun _ => ?_) ?_; rotate_left; (focus (go_simp; with_reducible rfl)); try simp only [Act.put, List.setIfInBounds_toArray, List.set_cons_zero, List.set_cons_succ]) | (refine lexG_held _ ?_ rfl rfl rfl rfl (by assumption) (fun _ hSw => ?_) ?_; rotate_left; (focus ((try dsimp only at hSw); go_simp; with_reducible rfl)); try simp only [Act.put, List.setIfInBounds_toArray, List.set_cons_zero, List.set_cons_succ]) | (refine lexG_skip _ rfl rfl (by assumption) ?_; try simp only [Act.put, List.setIfInBounds_toArray, List.set_cons_zero, List.set_cons_succ]))
      refine lexG_nil ?_
      go_wp2_with fail
      go_meet
      exact ⟨rfl, hb7⟩
    · refine lexG_now _ rfl rfl rfl (fun K hK => ?_)
      go_simp
      have hb3 : Below w2.heap.size w2 (w2.alloc (.cells #[.int .i64 0, .int .i64 0, .float .f64 0, .string ⟨#[]⟩, .slice none 0 0] 64)).drew := below_drewN ((Below.refl w2.heap.size w2).alloc (Nat.le_refl _) (.cells #[.int .i64 0, .int .i64 0, .float .f64 0, .string ⟨#[]⟩, .slice none 0 0] 64)) 1
      have hR3 : CAt (w2.alloc (.cells #[.int .i64 0, .int .i64 0, .float .f64 0, .string ⟨#[]⟩, .slice none 0 0] 64)).drew r (some ad) m at_ at_ := Blk.drew (Blk.alloc hR2 (.cells #[.int .i64 0, .int .i64 0, .float .f64 0, .string ⟨#[]⟩, .slice none 0 0] 64))
      have h3 := (Blk.new w2 64 #[.int .i64 0, .int .i64 0, .float .f64 0, .string ⟨#[]⟩, .slice none 0 0]).drew
      refine hK _ _ _ (fun _ h => h) ⟨Blk.cell hR3 0, Blk.cell hR3 1, hb3⟩ ?_
      clear hK K hS
      generalize (w2.alloc (.cells #[.int .i64 0, .int .i64 0, .float .f64 0, .string ⟨#[]⟩, .slice none 0 0] 64)).drew = w3 at *
      try simp only [Act.put, List.setIfInBounds_toArray, List.set_cons_zero, List.set_cons_succ]
      repeat (first | (refine lexG_take _ ?_ rfl rfl rfl rfl (fun _ => ?_) ?_; rotate_left; (focus (go_simp; with_reducible rfl)); try simp only [Act.put, List.setIfInBounds_toArray, List.set_cons_zero, List.set_cons_succ]) | (refine lexG_held _ ?_ rfl rfl rfl rfl (by assumption) (fun _ hSw => ?_) ?_; rotate_left; (focus ((try dsimp only at hSw); go_simp; with_reducible rfl)); try simp only [Act.put, List.setIfInBounds_toArray, List.set_cons_zero, List.set_cons_succ]) | (refine lexG_skip _ rfl rfl (by assumption) ?_; try simp only [Act.put, List.setIfInBounds_toArray, List.set_cons_zero, List.set_cons_succ]))
      refine lexG_now _ rfl rfl rfl (fun K hK => ?_)
      go_wp2_with fail
      refine (hrv.out _ (hb2.trans (hb3.mono (by omega)))).mono ?_
      rintro e w5 ⟨rfl, hb5⟩
      dsimp only
      have hb5' : Below w2.heap.size w2 w5 := below_then hb5 hb3
      have hR5 : CAt w5 r (some ad) m at_ at_ := Blk.below hR3 hb5 (Blk.lt hR3)
      have h35 := h3.below hb5 h3.lt
      refine hK _ _ _ (fun _ h => h) ⟨Blk.cell hR5 0, Blk.cell hR5 1, hb5'⟩ ?_
      clear hK K hb5
      try simp only [Act.put, List.setIfInBounds_toArray, List.set_cons_zero, List.set_cons_succ]
      repeat (first | (refine lexG_take _ ?_ rfl rfl rfl rfl (fun _ => ?_) ?_; rotate_left; (focus (go_simp; with_reducible rfl)); try simp only [Act.put, List.setIfInBounds_toArray, List.set_cons_zero, List.set_cons_succ]) | (refine lexG_held _ ?_ rfl rfl rfl rfl (by assumption) (fun _ hSw => ?_) ?_; rotate_left; (focus ((try dsimp only at hSw); go_simp; with_reducible rfl)); try simp only [Act.put, List.setIfInBounds_toArray, List.set_cons_zero, List.set_cons_succ]) | (refine lexG_skip _ rfl rfl (by assumption) ?_; try simp only [Act.put, List.setIfInBounds_toArray, List.set_cons_zero, List.set_cons_succ]))
      refine lexG_now _ rfl rfl rfl (fun K hK => ?_)
      refine wp_store_row 64 (Operand.tmp 3) (Operand.tmp 17) rfl w2.heap.size #[.int .i64 0, .int .i64 0, .float .f64 0, .string ⟨#[]⟩, .slice none 0 0] (by simp [go_sem]) (by simp [go_sem]) 64 _ h35 (by kernel_rfl) rfl (by simp [Value.oneCell']) ?_
      have hr2l := Blk.lt hR2
      have hb7 := below_row hb5' (g := w2.heap.size) (Nat.le_refl _) #[.int .i64 0, .int .i64 0, .float .f64 0, .string ⟨#[]⟩, .slice none 0 0]
      have hR7 : CAt (w5.setRow w2.heap.size #[.int .i64 0, .int .i64 0, .float .f64 0, .string ⟨#[]⟩, .slice none 0 0]) r (some ad) m at_ at_ := Blk.farRow hR5 (by omega) #[.int .i64 0, .int .i64 0, .float .f64 0, .string ⟨#[]⟩, .slice none 0 0]
      refine hK _ _ _ (fun _ h => h) ⟨Blk.cell hR7 0, Blk.cell hR7 1, hb7⟩ ?_
      clear hK K
      try simp only [Act.put, List.setIfInBounds_toArray, List.set_cons_zero, List.set_cons_succ]
      repeat (first | (refine lexG_take _ ?_ rfl rfl rfl rfl (fun _ => ?_) ?_; rotate_left; (focus (go_simp; with_reducible rfl)); try simp only [Act.put, List.setIfInBounds_toArray, List.set_cons_zero, List.set_cons_succ]) | (refine lexG_held _ ?_ rfl rfl rfl rfl (by assumption) (fun _ hSw => ?_) ?_; rotate_left; (focus ((try dsimp only at hSw); go_simp; with_reducible rfl)); try simp only [Act.put, List.setIfInBounds_toArray, List.set_cons_zero, List.set_cons_succ]) | (refine lexG_skip _ rfl rfl (by assumption) ?_; try simp only [Act.put, List.setIfInBounds_toArray, List.set_cons_zero, List.set_cons_succ]))
      refine lexG_nil ?_
      go_wp2_with fail
      go_meet
      exact ⟨rfl, hb7⟩
  case rest =>
    obtain ⟨rfl, hbc⟩ := hcut
    go_wp2_with fail
    refine (cmust_no _).mono ?_
    rintro e w8 ⟨rfl, rfl⟩
    dsimp only
    have hfin := hb2.trans (hbc.mono hb2.size)
    go_wp2_with fail
    exact ⟨rfl, rfl, hfin⟩

set_option maxHeartbeats 3200000 in
theorem cvalue_no_mid {ad : Addr} {c B r at_ : Nat} {b : List UInt8} {w : World} (h : CAt w r (some ad) b.length c at_) (hr : Reads w B 1 (some ad) b.length (bys b)) (hB : B ≤ r) (hc : b.length ≤ c) (hl : b.length ≤ 1000000000) (hat : at_ ≤ b.length) (hac : at_ < c) (ho : rdV (b.drop at_) = none) :
    Calls Try.prog 61 #[.pointer (some ⟨r, 0, none⟩)] w (fun e w' => e = .panicked shortC ∧ Below w.heap.size w w') := by
  have hsf := fun a k x m w => run_store_float (P := Try.prog) a k x m w
  have hrl : r < w.heap.size := Blk.lt h
  have hne : ¬ c = at_ := by omega
  obtain ⟨d, hd⟩ : ∃ d, b.drop at_ = d := ⟨_, rfl⟩
  have hdl : d.length = b.length - at_ := by rw [← hd, List.length_drop]
  rw [hd] at ho
  have hcut := hr.cut (k := at_) (cap := c) (by omega) hc
  rw [if_neg (by omega), Nat.mul_one, bys_drop, hd] at hcut
  have hcut : Reads w B 1 (some (ad.add at_)) d.length (bys d) := by rw [hdl]; exact hcut
  have hdc : d.length ≤ c - at_ := by omega
  have hdb : d.length ≤ 1000000000 := by omega
  have hrv : ∀ w1, Below w.heap.size w w1 → Calls Try.prog 70 #[.slice (some (ad.add at_)) (b.length - at_) (c - at_)] w1 (fun e w' => e = .returned (.tuple #[.agg #[.int .i64 0, .int .i64 0, .float .f64 0, .string ⟨#[]⟩, .slice none 0 0], .int .i64 0, .int .i64 20]) ∧ Below w1.heap.size w1 w') := fun w1 hb1 => by
    have hx := wire_read_v ((hcut.below (hb1.mono (Nat.le_of_lt (Nat.lt_of_le_of_lt hB hrl)))).more (Nat.le_trans (Nat.le_of_lt (Nat.lt_of_le_of_lt hB hrl)) hb1.size)) (fun e => by cases e) hdc hdb
    rw [ho, hdl] at hx
    exact hx
  clear hd hdl hcut hdc hdb ho hr
  have hac2 : at_ ≤ c := by omega
  have hz := Blk.new w 64 #[.int .i64 0, .int .i64 0, .float .f64 0, .string ⟨#[]⟩, .slice none 0 0]
  have hw2 : (w.alloc (.cells #[.int .i64 0, .int .i64 0, .float .f64 0, .string ⟨#[]⟩, .slice none 0 0] 64)).heap.size = w.heap.size + 1 := by simp
  have hR2 : CAt (w.alloc (.cells #[.int .i64 0, .int .i64 0, .float .f64 0, .string ⟨#[]⟩, .slice none 0 0] 64)) r (some ad) b.length c at_ := Blk.alloc h (.cells #[.int .i64 0, .int .i64 0, .float .f64 0, .string ⟨#[]⟩, .slice none 0 0] 64)
  have hb2 := (Below.refl w.heap.size w).alloc (Nat.le_refl _) (.cells #[.int .i64 0, .int .i64 0, .float .f64 0, .string ⟨#[]⟩, .slice none 0 0] 64)
  clear h
  replace hrv := Lib.hid hrv
  go_enter Try.func61, Try.ntmps61
  go_wp2_with fail
  generalize w.alloc (.cells #[.int .i64 0, .int .i64 0, .float .f64 0, .string ⟨#[]⟩, .slice none 0 0] 64) = w2 at *
  go_upto_region 1 with (fail)
  go_cut [3, 4, 5] from 6 to 19 (fun p3 v4 v5 wx => v5 = .int .i64 20 ∧ Below w2.heap.size w2 wx)
  case first =>
    have hS : w2.drew.cell? ⟨r, 0, none⟩ = some (.slice (some ad) b.length c) ∧ w2.drew.cell? ⟨r, 1, none⟩ = some (.int .i64 (at_ : Int)) ∧ Below w2.heap.size w2 w2.drew := ⟨Blk.cell hR2 0, Blk.cell hR2 1, (Below.refl _ _).drew⟩
    refine wp_region_pair (fun W => W.cell? ⟨r, 0, none⟩ = some (.slice (some ad) b.length c) ∧ W.cell? ⟨r, 1, none⟩ = some (.int .i64 (at_ : Int)) ∧ Below w2.heap.size w2 W) [3, 7] [9, 14, 15] [0, 1, 2, 3, 4, 5, 6, 7, 8] 9 14 [10, 11, 12, 13, 14, 15, 16, 17] [9, 10, 11, 12, 13, 15, 16, 17] (by kernel_rfl) rfl rfl (by kernel_rfl) (by kernel_rfl) (by kernel_rfl) rfl rfl (by kernel_rfl) (by kernel_rfl) (fun _ _ d _ _ h => by cases d <;> exact h) ?_
    repeat (first | (refine lexG_take _ ?_ rfl rfl rfl rfl (fun _ => ?_) ?_; rotate_left; (focus (go_simp; with_reducible rfl)); try simp only [Act.put, List.setIfInBounds_toArray, List.set_cons_zero, List.set_cons_succ]) | (refine lexG_held _ ?_ rfl rfl rfl rfl (by assumption) (fun _ hSw => ?_) ?_; rotate_left; (focus ((try dsimp only at hSw); go_simp; with_reducible rfl)); try simp only [Act.put, List.setIfInBounds_toArray, List.set_cons_zero, List.set_cons_succ]) | (refine lexG_skip _ rfl rfl (by assumption) ?_; try simp only [Act.put, List.setIfInBounds_toArray, List.set_cons_zero, List.set_cons_succ]))
    refine lexG_nil ?_
    refine ⟨?_, ?_⟩
    · refine lexG_now _ rfl rfl rfl (fun K hK => ?_)
      go_wp2_with fail
      refine (hrv.out _ (hb2.trans (hS.2.2.mono (by omega)))).mono ?_
      rintro e w5 ⟨rfl, hb5⟩
      dsimp only
      have hb5' : Below w2.heap.size w2 w5 := below_then hb5 hS.2.2
      have hR5 : CAt w5 r (some ad) b.length c at_ := Blk.below hR2 hb5' (Blk.lt hR2)
      refine hK _ _ _ (fun _ h => h) ⟨Blk.cell hR5 0, Blk.cell hR5 1, hb5'⟩ ?_
      clear hK K hS hb5
      try simp only [Act.put, List.setIfInBounds_toArray, List.set_cons_zero, List.set_cons_succ]
      repeat (first | (refine lexG_take _ ?_ rfl rfl rfl rfl (fun _ => ?_) ?_; rotate_left; (focus (go_simp; with_reducible rfl)); try simp only [Act.put, List.setIfInBounds_toArray, List.set_cons_zero, List.set_cons_succ]) | (refine lexG_held _ ?_ rfl rfl rfl rfl (by assumption) (fun _ hSw => ?_) ?_; rotate_left; (focus ((try dsimp only at hSw); go_simp; with_reducible rfl)); try simp only [Act.put, List.setIfInBounds_toArray, List.set_cons_zero, List.set_cons_succ]) | (refine lexG_skip _ rfl rfl (by assumption) ?_; try simp only [Act.put, List.setIfInBounds_toArray, List.set_cons_zero, List.set_cons_succ]))
      refine lexG_now _ rfl rfl rfl (fun K hK => ?_)
      go_simp
      have hb6 := hb5'.alloc hb5'.size (.cells #[.int .i64 0, .int .i64 0, .float .f64 0, .string ⟨#[]⟩, .slice none 0 0] 64)
      have hR6 : CAt (w5.alloc (.cells #[.int .i64 0, .int .i64 0, .float .f64 0, .string ⟨#[]⟩, .slice none 0 0] 64)) r (some ad) b.length c at_ := Blk.alloc hR5 (.cells #[.int .i64 0, .int .i64 0, .float .f64 0, .string ⟨#[]⟩, .slice none 0 0] 64)
      have h3 := Blk.new w5 64 #[.int .i64 0, .int .i64 0, .float .f64 0, .string ⟨#[]⟩, .slice none 0 0]
      have hr5l := Blk.lt hR5
      refine hK _ _ _ (fun _ h => h) ⟨Blk.cell hR6 0, Blk.cell hR6 1, hb6⟩ ?_
      clear hK K
      try simp only [Act.put, List.setIfInBounds_toArray, List.set_cons_zero, List.set_cons_succ]
      repeat (first | (refine lexG_take _ ?_ rfl rfl rfl rfl (fun _ => ?_) ?_; rotate_left; (focus (go_simp; with_reducible rfl)); try simp only [Act.put, List.setIfInBounds_toArray, List.set_cons_zero, List.set_cons_succ]) | (refine lexG_held _ ?_ rfl rfl rfl rfl (by assumption) (fun _ hSw => ?_) ?_; rotate_left; (focus ((try dsimp only at hSw); go_simp; with_reducible rfl)); try simp only [Act.put, List.setIfInBounds_toArray, List.set_cons_zero, List.set_cons_succ]) | (refine lexG_skip _ rfl rfl (by assumption) ?_; try simp only [Act.put, List.setIfInBounds_toArray, List.set_cons_zero, List.set_cons_succ]))
      refine lexG_now _ rfl rfl rfl (fun K hK => ?_)
      refine wp_store_row 64 (Operand.tmp 3) (Operand.tmp 17) rfl w5.heap.size #[.int .i64 0, .int .i64 0, .float .f64 0, .string ⟨#[]⟩, .slice none 0 0] (by simp [go_sem]) (by simp [go_sem]) 64 _ h3 (by kernel_rfl) rfl (by simp [Value.oneCell']) ?_
      have hb7 := below_row hb6 (g := w5.heap.size) hb5'.size #[.int .i64 0, .int .i64 0, .float .f64 0, .string ⟨#[]⟩, .slice none 0 0]
      have hR7 : CAt ((w5.alloc (.cells #[.int .i64 0, .int .i64 0, .float .f64 0, .string ⟨#[]⟩, .slice none 0 0] 64)).setRow w5.heap.size #[.int .i64 0, .int .i64 0, .float .f64 0, .string ⟨#[]⟩, .slice none 0 0]) r (some ad) b.length c at_ := Blk.farRow hR6 (by omega) #[.int .i64 0, .int .i64 0, .float .f64 0, .string ⟨#[]⟩, .slice none 0 0]
      refine hK _ _ _ (fun _ h => h) ⟨Blk.cell hR7 0, Blk.cell hR7 1, hb7⟩ ?_
      clear hK K
      try simp only [Act.put, List.setIfInBounds_toArray, List.set_cons_zero, List.set_cons_succ]
      repeat (first | (refine lexG_take _ ?_ rfl rfl rfl rfl (fun _ => ?_) ?_; rotate_left; (focus (go_simp; with_reducible rfl)); try simp only [Act.put, List.setIfInBounds_toArray, List.set_cons_zero, List.set_cons_succ]) | (refine lexG_held _ ?_ rfl rfl rfl rfl (by assumption) (fun _ hSw => ?_) ?_; rotate_left; (focus ((try dsimp only at hSw); go_simp; with_reducible rfl)); try simp only [Act.put, List.setIfInBounds_toArray, List.set_cons_zero, List.set_cons_succ]) | (refine lexG_skip _ rfl rfl (by assumption) ?_; try simp only [Act.put, List.setIfInBounds_toArray, List.set_cons_zero, List.set_cons_succ]))
      refine lexG_nil ?_
      go_wp2_with fail
      go_meet
      exact ⟨rfl, hb7⟩
    · refine lexG_now _ rfl rfl rfl (fun K hK => ?_)
      go_simp
      have hb3 : Below w2.heap.size w2 (w2.alloc (.cells #[.int .i64 0, .int .i64 0, .float .f64 0, .string ⟨#[]⟩, .slice none 0 0] 64)).drew := below_drewN ((Below.refl w2.heap.size w2).alloc (Nat.le_refl _) (.cells #[.int .i64 0, .int .i64 0, .float .f64 0, .string ⟨#[]⟩, .slice none 0 0] 64)) 1
      have hR3 : CAt (w2.alloc (.cells #[.int .i64 0, .int .i64 0, .float .f64 0, .string ⟨#[]⟩, .slice none 0 0] 64)).drew r (some ad) b.length c at_ := Blk.drew (Blk.alloc hR2 (.cells #[.int .i64 0, .int .i64 0, .float .f64 0, .string ⟨#[]⟩, .slice none 0 0] 64))
      have h3 := (Blk.new w2 64 #[.int .i64 0, .int .i64 0, .float .f64 0, .string ⟨#[]⟩, .slice none 0 0]).drew
      refine hK _ _ _ (fun _ h => h) ⟨Blk.cell hR3 0, Blk.cell hR3 1, hb3⟩ ?_
      clear hK K hS
      generalize (w2.alloc (.cells #[.int .i64 0, .int .i64 0, .float .f64 0, .string ⟨#[]⟩, .slice none 0 0] 64)).drew = w3 at *
      try simp only [Act.put, List.setIfInBounds_toArray, List.set_cons_zero, List.set_cons_succ]
      repeat (first | (refine lexG_take _ ?_ rfl rfl rfl rfl (fun _ => ?_) ?_; rotate_left; (focus (go_simp; with_reducible rfl)); try simp only [Act.put, List.setIfInBounds_toArray, List.set_cons_zero, List.set_cons_succ]) | (refine lexG_held _ ?_ rfl rfl rfl rfl (by assumption) (fun _ hSw => ?_) ?_; rotate_left; (focus ((try dsimp only at hSw); go_simp; with_reducible rfl)); try simp only [Act.put, List.setIfInBounds_toArray, List.set_cons_zero, List.set_cons_succ]) | (refine lexG_skip _ rfl rfl (by assumption) ?_; try simp only [Act.put, List.setIfInBounds_toArray, List.set_cons_zero, List.set_cons_succ]))
      refine lexG_now _ rfl rfl rfl (fun K hK => ?_)
      go_wp2_with fail
      refine (hrv.out _ (hb2.trans (hb3.mono (by omega)))).mono ?_
      rintro e w5 ⟨rfl, hb5⟩
      dsimp only
      have hb5' : Below w2.heap.size w2 w5 := below_then hb5 hb3
      have hR5 : CAt w5 r (some ad) b.length c at_ := Blk.below hR3 hb5 (Blk.lt hR3)
      have h35 := h3.below hb5 h3.lt
      refine hK _ _ _ (fun _ h => h) ⟨Blk.cell hR5 0, Blk.cell hR5 1, hb5'⟩ ?_
      clear hK K hb5
      try simp only [Act.put, List.setIfInBounds_toArray, List.set_cons_zero, List.set_cons_succ]
      repeat (first | (refine lexG_take _ ?_ rfl rfl rfl rfl (fun _ => ?_) ?_; rotate_left; (focus (go_simp; with_reducible rfl)); try simp only [Act.put, List.setIfInBounds_toArray, List.set_cons_zero, List.set_cons_succ]) | (refine lexG_held _ ?_ rfl rfl rfl rfl (by assumption) (fun _ hSw => ?_) ?_; rotate_left; (focus ((try dsimp only at hSw); go_simp; with_reducible rfl)); try simp only [Act.put, List.setIfInBounds_toArray, List.set_cons_zero, List.set_cons_succ]) | (refine lexG_skip _ rfl rfl (by assumption) ?_; try simp only [Act.put, List.setIfInBounds_toArray, List.set_cons_zero, List.set_cons_succ]))
      refine lexG_now _ rfl rfl rfl (fun K hK => ?_)
      refine wp_store_row 64 (Operand.tmp 3) (Operand.tmp 17) rfl w2.heap.size #[.int .i64 0, .int .i64 0, .float .f64 0, .string ⟨#[]⟩, .slice none 0 0] (by simp [go_sem]) (by simp [go_sem]) 64 _ h35 (by kernel_rfl) rfl (by simp [Value.oneCell']) ?_
      have hr2l := Blk.lt hR2
      have hb7 := below_row hb5' (g := w2.heap.size) (Nat.le_refl _) #[.int .i64 0, .int .i64 0, .float .f64 0, .string ⟨#[]⟩, .slice none 0 0]
      have hR7 : CAt (w5.setRow w2.heap.size #[.int .i64 0, .int .i64 0, .float .f64 0, .string ⟨#[]⟩, .slice none 0 0]) r (some ad) b.length c at_ := Blk.farRow hR5 (by omega) #[.int .i64 0, .int .i64 0, .float .f64 0, .string ⟨#[]⟩, .slice none 0 0]
      refine hK _ _ _ (fun _ h => h) ⟨Blk.cell hR7 0, Blk.cell hR7 1, hb7⟩ ?_
      clear hK K
      try simp only [Act.put, List.setIfInBounds_toArray, List.set_cons_zero, List.set_cons_succ]
      repeat (first | (refine lexG_take _ ?_ rfl rfl rfl rfl (fun _ => ?_) ?_; rotate_left; (focus (go_simp; with_reducible rfl)); try simp only [Act.put, List.setIfInBounds_toArray, List.set_cons_zero, List.set_cons_succ]) | (refine lexG_held _ ?_ rfl rfl rfl rfl (by assumption) (fun _ hSw => ?_) ?_; rotate_left; (focus ((try dsimp only at hSw); go_simp; with_reducible rfl)); try simp only [Act.put, List.setIfInBounds_toArray, List.set_cons_zero, List.set_cons_succ]) | (refine lexG_skip _ rfl rfl (by assumption) ?_; try simp only [Act.put, List.setIfInBounds_toArray, List.set_cons_zero, List.set_cons_succ]))
      refine lexG_nil ?_
      go_wp2_with fail
      go_meet
      exact ⟨rfl, hb7⟩
  case rest =>
    obtain ⟨rfl, hbc⟩ := hcut
    go_wp2_with fail
    refine (cmust_no _).mono ?_
    rintro e w8 ⟨rfl, rfl⟩
    dsimp only
    have hfin := hb2.trans (hbc.mono hb2.size)
    go_wp2_with fail
    exact ⟨rfl, rfl, hfin⟩

theorem cvalue_no {A : Option Addr} {c B r at_ : Nat} {b : List UInt8} {w : World} (h : CAt w r A b.length c at_) (hr : Reads w B 1 A b.length (bys b)) (hA : A = none → c = 0) (hB : B ≤ r) (hc : b.length ≤ c) (hl : b.length ≤ 1000000000) (hat : at_ ≤ b.length) (ho : rdV (b.drop at_) = none) :
    Calls Try.prog 61 #[.pointer (some ⟨r, 0, none⟩)] w (fun e w' => e = .panicked shortC ∧ Below w.heap.size w w') := by
  cases A with
  | none =>
    have hc0 := hA rfl
    subst hc0
    have hb : b = [] := List.eq_nil_of_length_eq_zero (by omega)
    subst hb
    have ha0 : at_ = 0 := by have h2 : at_ ≤ 0 := hat; omega
    subst ha0
    exact cvalue_no_nil h
  | some ad =>
    by_cases hac : at_ < c
    · exact cvalue_no_mid h hr hB hc hl hat hac ho
    · have e : c = at_ := by omega
      subst e
      exact cvalue_no_end h hat hc
end Go.Proofs.Ytlkokkbikkbaoaa
