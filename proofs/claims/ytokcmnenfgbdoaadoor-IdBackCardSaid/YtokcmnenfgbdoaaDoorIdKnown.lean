/- The chapter's example. -/
import Derived.Test.YtokcmnenfgbdoaaDoorIdCut
namespace Go.Proofs.YtokcmnenfgbdoaaDoor
open Go.RowKit Go.Lib

theorem one_below {w w1 w2 : World} {b : Nat} {c s n : Int} (h : (w1.cell? ⟨b, 0, none⟩ = some (.int .u32 c) ∧ w1.cell? ⟨b, 1, none⟩ = some (.int .u32 s) ∧ w1.cell? ⟨b, 2, none⟩ = some (.int .u16 n)) ∧ Below b w w1 ∧ b < w1.heap.size) (hb : Below w1.heap.size w1 w2) :
    (w2.cell? ⟨b, 0, none⟩ = some (.int .u32 c) ∧ w2.cell? ⟨b, 1, none⟩ = some (.int .u32 s) ∧ w2.cell? ⟨b, 2, none⟩ = some (.int .u16 n)) ∧ Below b w w2 ∧ b < w2.heap.size :=
  ⟨idc_below h.1 hb h.2.2, h.2.1.trans (hb.mono (by have := h.2.2; omega)), Nat.lt_of_lt_of_le h.2.2 hb.size⟩

set_option maxHeartbeats 800000 in
theorem text_small (c s n : Nat) (hc : c < 100) (hs : s < 100) (hn : 1 ≤ n) (hn' : n < 100) {C S N : ByteArray} (eC : ⟨(Lib.decDigits c).toArray⟩ = C) (eS : ⟨(Lib.decDigits s).toArray⟩ = S) (eN : ⟨(Lib.decDigits n).toArray⟩ = N) (zC : C.size ≤ 20) (zS : S.size ≤ 20) (zN : N.size ≤ 20) {X : ByteArray} (eX : C ++ ⟨#[45]⟩ ++ S ++ (⟨#[46]⟩ ++ N) = X) (w : World) :
    Calls Tryd.prog 5 #[.agg #[.int .u32 c, .int .u32 s, .int .u16 n]] w (fun e w' => e = .returned (.string X) ∧ Below w.heap.size w w') := by
  have l1 : (⟨#[45]⟩ : ByteArray).size = 1 := rfl
  have l2 : (⟨#[46]⟩ : ByteArray).size = 1 := rfl
  have z1 : (C ++ (⟨#[45]⟩ : ByteArray)).size ≤ 21 := by rw [ByteArray.size_append]; omega
  have z2 : (C ++ (⟨#[45]⟩ : ByteArray) ++ S).size ≤ 41 := by rw [ByteArray.size_append]; omega
  have z3 : ((⟨#[46]⟩ : ByteArray) ++ N).size ≤ 21 := by rw [ByteArray.size_append]; omega
  have k1 : ∀ W, (Op.stringOp .add C ⟨#[45]⟩).run Tryd.prog W = .ok (.string (C ++ ⟨#[45]⟩)) W := fun W => run_string_add W _ _ (by omega) (by omega)
  have k2 : ∀ W, (Op.stringOp .add (C ++ ⟨#[45]⟩) S).run Tryd.prog W = .ok (.string (C ++ ⟨#[45]⟩ ++ S)) W := fun W => run_string_add W _ _ (by omega) (by omega)
  have k3 : ∀ W, (Op.stringOp .add ⟨#[46]⟩ N).run Tryd.prog W = .ok (.string (⟨#[46]⟩ ++ N)) W := fun W => run_string_add W _ _ (by omega) (by omega)
  have k4 : ∀ W, (Op.stringOp .add (C ++ ⟨#[45]⟩ ++ S) (⟨#[46]⟩ ++ N)).run Tryd.prog W = .ok (.string X) W := fun W => by rw [← eX]; exact run_string_add W _ _ (by omega) (by omega)
  clear z1 z2 z3 eX l1 l2
  generalize C ++ (⟨#[45]⟩ : ByteArray) = X1 at *
  generalize X1 ++ S = X2 at *
  generalize (⟨#[46]⟩ : ByteArray) ++ N = X3 at *
  have wc : IntKind.u64.wrap (c : Int) = c := by rw [IntKind.wrap_u64]; omega
  have ws : IntKind.u64.wrap (s : Int) = s := by rw [IntKind.wrap_u64]; omega
  have wn : IntKind.u64.wrap (n : Int) = n := by rw [IntKind.wrap_u64]; omega
  go_enter Tryd.func5, Tryd.ntmps5
  go_wp2_with fail
  have hb := (Below.refl w.heap.size w).alloc (Nat.le_refl _) (.cells #[.int .u32 c, .int .u32 s, .int .u16 n] 25)
  have hy := Blk.new w 25 #[.int .u32 c, .int .u32 s, .int .u16 n]
  have hz := hy.lt
  have hS : ((w.alloc (.cells #[.int .u32 c, .int .u32 s, .int .u16 n] 25)).drew.cell? ⟨w.heap.size, 0, none⟩ = some (.int .u32 c) ∧ (w.alloc (.cells #[.int .u32 c, .int .u32 s, .int .u16 n] 25)).drew.cell? ⟨w.heap.size, 1, none⟩ = some (.int .u32 s) ∧ (w.alloc (.cells #[.int .u32 c, .int .u32 s, .int .u16 n] 25)).drew.cell? ⟨w.heap.size, 2, none⟩ = some (.int .u16 n)) ∧ Below w.heap.size w (w.alloc (.cells #[.int .u32 c, .int .u32 s, .int .u16 n] 25)).drew ∧ w.heap.size < (w.alloc (.cells #[.int .u32 c, .int .u32 s, .int .u16 n] 25)).drew.heap.size := ⟨⟨hy.cell 0, hy.cell 1, hy.cell 2⟩, hb.drew, hz⟩
  clear hb hy hz
  generalize w.alloc (.cells #[.int .u32 c, .int .u32 s, .int .u16 n] 25) = w2 at *
  refine wp_region_lex (fun W => (W.cell? ⟨w.heap.size, 0, none⟩ = some (.int .u32 c) ∧ W.cell? ⟨w.heap.size, 1, none⟩ = some (.int .u32 s) ∧ W.cell? ⟨w.heap.size, 2, none⟩ = some (.int .u16 n)) ∧ Below w.heap.size w W ∧ w.heap.size < W.heap.size) [1, 6] [3, 8] [0, 1, 2, 5, 6, 7, 3, 4, 8, 9, 10] (by kernel_rfl) rfl (by kernel_rfl) (by kernel_rfl) (fun _ _ d _ _ h => by cases d <;> exact h) ?_
  repeat (first | (refine lexG_take _ ?_ rfl rfl rfl rfl (fun _ => ?_) ?_; rotate_left; (focus (go_simp; with_reducible rfl)); try simp only [Act.put, List.setIfInBounds_toArray, List.set_cons_zero, List.set_cons_succ]) | (refine lexG_held _ ?_ rfl rfl rfl rfl (by assumption) (fun _ hSw => ?_) ?_; rotate_left; (focus ((try dsimp only at hSw); go_simp; with_reducible rfl)); try simp only [Act.put, List.setIfInBounds_toArray, List.set_cons_zero, List.set_cons_succ]) | (refine lexG_skip _ rfl rfl (by assumption) ?_; try simp only [Act.put, List.setIfInBounds_toArray, List.set_cons_zero, List.set_cons_succ]))
  refine lexG_now _ rfl rfl rfl (fun K hK => ?_)
  go_wp2_with fail
  refine (digits_small _ hc _).mono ?_
  rw [eC]
  rintro e w3 ⟨rfl, hb3⟩
  dsimp only
  have hS3 := one_below hS hb3
  refine hK _ _ _ (fun _ h => h) hS3 ?_
  clear hK K hS hb3
  try simp only [Act.put, List.setIfInBounds_toArray, List.set_cons_zero, List.set_cons_succ]
  repeat (first | (refine lexG_take _ ?_ rfl rfl rfl rfl (fun _ => ?_) ?_; rotate_left; (focus (go_simp; with_reducible rfl)); try simp only [Act.put, List.setIfInBounds_toArray, List.set_cons_zero, List.set_cons_succ]) | (refine lexG_held _ ?_ rfl rfl rfl rfl (by assumption) (fun _ hSw => ?_) ?_; rotate_left; (focus ((try dsimp only at hSw); go_simp; with_reducible rfl)); try simp only [Act.put, List.setIfInBounds_toArray, List.set_cons_zero, List.set_cons_succ]) | (refine lexG_skip _ rfl rfl (by assumption) ?_; try simp only [Act.put, List.setIfInBounds_toArray, List.set_cons_zero, List.set_cons_succ]))
  refine lexG_now _ rfl rfl rfl (fun K hK => ?_)
  go_wp2_with fail
  refine (digits_small _ hs _).mono ?_
  rw [eS]
  rintro e w4 ⟨rfl, hb4⟩
  dsimp only
  have hS4 := one_below hS3 hb4
  refine hK _ _ _ (fun _ h => h) hS4 ?_
  clear hK K hS3 hb4
  try simp only [Act.put, List.setIfInBounds_toArray, List.set_cons_zero, List.set_cons_succ]
  repeat (first | (refine lexG_take _ ?_ rfl rfl rfl rfl (fun _ => ?_) ?_; rotate_left; (focus (go_simp; with_reducible rfl)); try simp only [Act.put, List.setIfInBounds_toArray, List.set_cons_zero, List.set_cons_succ]) | (refine lexG_held _ ?_ rfl rfl rfl rfl (by assumption) (fun _ hSw => ?_) ?_; rotate_left; (focus ((try dsimp only at hSw); go_simp; with_reducible rfl)); try simp only [Act.put, List.setIfInBounds_toArray, List.set_cons_zero, List.set_cons_succ]) | (refine lexG_skip _ rfl rfl (by assumption) ?_; try simp only [Act.put, List.setIfInBounds_toArray, List.set_cons_zero, List.set_cons_succ]))
  refine lexG_nil ?_
  obtain ⟨⟨g0, g1, g2⟩, hb4, hz4⟩ := hS4
  have hni : ((n : Int) == 0) = false := beq_eq_false_iff_ne.2 (by omega)
  go_wp2_with fail
  refine (digits_small _ hn' _).mono ?_
  rw [eN]
  rintro e w5 ⟨rfl, hb5⟩
  dsimp only
  go_wp2_with fail
  go_ret
  exact ⟨rfl, hb4.trans (hb5.mono (by omega))⟩
def exS : ByteArray := ⟨#[55, 45, 51, 46, 49]⟩
theorem text_ex (w : World) : Calls Tryd.prog 5 #[.agg #[.int .u32 7, .int .u32 3, .int .u16 1]] w (fun e w' => e = .returned (.string ⟨#[55, 45, 51, 46, 49]⟩) ∧ Below w.heap.size w w') :=
  text_small 7 3 1 (by omega) (by omega) (by omega) (by omega) (C := ⟨#[55]⟩) (S := ⟨#[51]⟩) (N := ⟨#[49]⟩) (by kernel_rfl) (by kernel_rfl) (by kernel_rfl) (by decide) (by decide) (by decide) (by kernel_rfl) w

set_option maxHeartbeats 1600000 in
theorem parse_ex (w : World) : Calls Tryd.prog 6 #[.string ⟨#[55, 45, 51, 46, 49]⟩] w (fun e w' => e = .returned (.tuple #[.agg #[.int .u32 7, .int .u32 3, .int .u16 1], .bool true]) ∧ Below w.heap.size w w') := by
  go_enter Tryd.func6, Tryd.ntmps6
  go_wp2_with fail
  have hb1 := (Below.refl w.heap.size w).alloc (Nat.le_refl _) (.cells #[.int .u32 0, .int .u32 0, .int .u16 0] 25)
  have hy1 := Blk.new w 25 #[.int .u32 0, .int .u32 0, .int .u16 0]
  have hz1 := hy1.lt
  generalize w.alloc (.cells #[.int .u32 0, .int .u32 0, .int .u16 0] 25) = w1 at *
  refine (cut_one ⟨#[55, 45, 51, 46, 49]⟩ 45 _ (by decide) (x := ⟨#[55]⟩) (y := ⟨#[51, 46, 49]⟩) (b := true) (by kernel_rfl) (by kernel_rfl) (by kernel_rfl)).mono ?_
  rintro e w2 ⟨rfl, hb2'⟩
  dsimp only
  have hb2 := hb1.trans (hb2'.mono hb1.size)
  have hy2 := hy1.below hb2' hz1
  have hz2 := hy2.lt
  go_wp2_with fail
  refine (cut_one ⟨#[51, 46, 49]⟩ 46 _ (by decide) (x := ⟨#[51]⟩) (y := ⟨#[49]⟩) (b := true) (by kernel_rfl) (by kernel_rfl) (by kernel_rfl)).mono ?_
  rintro e w3 ⟨rfl, hb3'⟩
  dsimp only
  have hb3 := hb2.trans (hb3'.mono hb2.size)
  have hy3 := hy2.below hb3' hz2
  have hz3 := hy3.lt
  clear hb1 hb2 hb2' hb3' hy1 hy2 hz1 hz2
  go_wp2_with fail
  refine (number_ok32 ⟨#[55]⟩ (by decide) 7 (by kernel_rfl) _).mono ?_
  rintro e w4 ⟨rfl, hb4'⟩
  dsimp only
  have hb4 := hb3.trans (hb4'.mono hb3.size)
  have hy4 := hy3.below hb4' hz3
  have hz4 := hy4.lt
  go_wp2_with fail
  refine (number_ok32 ⟨#[51]⟩ (by decide) 3 (by kernel_rfl) _).mono ?_
  rintro e w5 ⟨rfl, hb5'⟩
  dsimp only
  have hb5 := hb4.trans (hb5'.mono hb4.size)
  have hy5 := hy4.below hb5' hz4
  have hz5 := hy5.lt
  clear hb3 hb4 hb4' hb5' hy3 hy4 hz3 hz4
  go_wp2_with fail
  refine (number_ok16 ⟨#[49]⟩ (by decide) 1 (by kernel_rfl) _).mono ?_
  rintro e w6 ⟨rfl, hb6'⟩
  dsimp only
  have hb6 := hb5.trans (hb6'.mono hb5.size)
  have hy6 := hy5.below hb6' hz5
  have hz6 := hy6.lt
  clear hb5 hb6' hy5 hz5
  go_wp2_with fail
  have hb7 := hb6.alloc hb6.size (.cells #[.int .u32 7, .int .u32 3, .int .u16 1] 25)
  have hy7 := hy6.alloc (.cells #[.int .u32 7, .int .u32 3, .int .u16 1] 25)
  have hx7 := Blk.new w6 25 #[.int .u32 7, .int .u32 3, .int .u16 1]
  have hz7 := hy7.lt
  have hq7 := hx7.lt
  have hne : w.heap.size ≠ w6.heap.size := by omega
  clear hb6 hy6 hz6
  generalize w6.alloc (.cells #[.int .u32 7, .int .u32 3, .int .u16 1] 25) = w7 at *
  generalize w6.heap.size = q at *
  refine (text_ex _).mono ?_
  rintro e w8 ⟨rfl, hb8'⟩
  dsimp only
  have hb8 := hb7.trans (hb8'.mono hb7.size)
  have hy8 := hy7.below hb8' hz7
  have hx8 := hx7.below hb8' hq7
  have g0 := hx8.cell 0
  have g1 := hx8.cell 1
  have g2 := hx8.cell 2
  have f0 := hy8.frozen 0
  have f1 := hy8.frozen 1
  have f2 := hy8.frozen 2
  have k0 := hy8.cell 0
  have k1 := hy8.cell 1
  have k2 := hy8.cell 2
  clear hb7 hb8' hy7 hx7 hx8
  go_wp2_with fail
  refine bodyPost_ret (v := .tuple #[.agg #[.int .u32 7, .int .u32 3, .int .u16 1], .bool true]) ?hr rfl ?_
  case hr => exact results_ct rfl _ _ w.heap.size 25 _ (0, 0) _ _ rfl rfl (((hy8.set_ 0 (.int .u32 7)).set_ 1 (.int .u32 3)).set_ 2 (.int .u16 1)) Tryd.underlying25 rfl (by kernel_rfl)
  exact ⟨rfl, ((hb8.setCell (p := ⟨w.heap.size, 0, none⟩) (Nat.le_refl _) (.int .u32 7)).setCell (p := ⟨w.heap.size, 1, none⟩) (Nat.le_refl _) (.int .u32 3)).setCell (p := ⟨w.heap.size, 2, none⟩) (Nat.le_refl _) (.int .u16 1)⟩

theorem exS_below {w w1 w2 : World} {q q2 : Nat} (h : (w1.cell? ⟨q, 0, none⟩ = some (.int .u32 7) ∧ w1.cell? ⟨q, 1, none⟩ = some (.int .u32 3) ∧ w1.cell? ⟨q, 2, none⟩ = some (.int .u16 1)) ∧ (w1.cell? ⟨q2, 0, none⟩ = some (.int .u32 7) ∧ w1.cell? ⟨q2, 1, none⟩ = some (.int .u32 3) ∧ w1.cell? ⟨q2, 2, none⟩ = some (.int .u16 1)) ∧ Below w.heap.size w w1 ∧ q < w1.heap.size ∧ q2 < w1.heap.size) (hb : Below w1.heap.size w1 w2) :
    (w2.cell? ⟨q, 0, none⟩ = some (.int .u32 7) ∧ w2.cell? ⟨q, 1, none⟩ = some (.int .u32 3) ∧ w2.cell? ⟨q, 2, none⟩ = some (.int .u16 1)) ∧ (w2.cell? ⟨q2, 0, none⟩ = some (.int .u32 7) ∧ w2.cell? ⟨q2, 1, none⟩ = some (.int .u32 3) ∧ w2.cell? ⟨q2, 2, none⟩ = some (.int .u16 1)) ∧ Below w.heap.size w w2 ∧ q < w2.heap.size ∧ q2 < w2.heap.size :=
  ⟨idc_below h.1 hb h.2.2.2.1, idc_below h.2.1 hb h.2.2.2.2, h.2.2.1.trans (hb.mono h.2.2.1.size), Nat.lt_of_lt_of_le h.2.2.2.1 hb.size, Nat.lt_of_lt_of_le h.2.2.2.2 hb.size⟩

set_option maxHeartbeats 3200000 in
theorem known_true (w : World) : Calls Tryd.prog 4 #[] w (fun e w' => e = .returned (.bool true) ∧ Below w.heap.size w w') := by
  go_enter Tryd.func4, Tryd.ntmps4
  go_wp2_with fail
  refine (parse_ex _).mono ?_
  rintro e w1 ⟨rfl, hb1⟩
  dsimp only
  go_wp2_with fail
  have hb2 := hb1.alloc hb1.size (.cells #[.int .u32 7, .int .u32 3, .int .u16 1] 25)
  have hx2 := Blk.new w1 25 #[.int .u32 7, .int .u32 3, .int .u16 1]
  have hzx := hx2.lt
  generalize w1.alloc (.cells #[.int .u32 7, .int .u32 3, .int .u16 1] 25) = w2 at *
  have hq1 : w.heap.size ≤ w1.heap.size := hb1.size
  generalize w1.heap.size = q at *
  clear hb1
  refine (nested_ok 7 3 1 (by omega) (by omega) _).mono ?_
  rintro e w3 ⟨rfl, hb3'⟩
  dsimp only
  have hb3 := hb2.trans (hb3'.mono hb2.size)
  have hx3 := hx2.below hb3' hzx
  have hz3 := hx3.lt
  clear hb2 hb3' hx2 hzx
  have g0 := hx3.cell 0
  have g1 := hx3.cell 1
  have g2 := hx3.cell 2
  go_wp2_with fail
  have hb4 := hb3.alloc hb3.size (.cells #[.int .u32 7, .int .u32 3, .int .u16 1] 25)
  have hx4 := hx3.alloc (.cells #[.int .u32 7, .int .u32 3, .int .u16 1] 25)
  have hy4 := Blk.new w3 25 #[.int .u32 7, .int .u32 3, .int .u16 1]
  have hzx := hx4.lt
  have hzy := hy4.lt
  generalize w3.alloc (.cells #[.int .u32 7, .int .u32 3, .int .u16 1] 25) = w4 at *
  have hq2 : w.heap.size ≤ w3.heap.size := hb3.size
  generalize w3.heap.size = q2 at *
  clear hb3 g0 g1 g2 hx3
  refine (nested_no 7 3 1 1 (by omega) _).mono ?_
  rintro e w5 ⟨rfl, hb5'⟩
  dsimp only
  have hb5 := hb4.trans (hb5'.mono hb4.size)
  have hx5 := hx4.below hb5' hzx
  have hy5 := hy4.below hb5' hzy
  clear hb4 hb5' hx4 hy4 hzx hzy
  go_wp2_with fail
  have hb6 := hb5.alloc hb5.size (.cells #[.int .u32 0, .int .u32 0, .int .u16 0] 25)
  have hx6 := hx5.alloc (.cells #[.int .u32 0, .int .u32 0, .int .u16 0] 25)
  have hy6 := hy5.alloc (.cells #[.int .u32 0, .int .u32 0, .int .u16 0] 25)
  clear hb5 hx5 hy5
  generalize w5.alloc (.cells #[.int .u32 0, .int .u32 0, .int .u16 0] 25) = w6 at *
  generalize w5.heap.size = q3 at *
  have hS : (w6.drew.cell? ⟨q, 0, none⟩ = some (.int .u32 7) ∧ w6.drew.cell? ⟨q, 1, none⟩ = some (.int .u32 3) ∧ w6.drew.cell? ⟨q, 2, none⟩ = some (.int .u16 1)) ∧ (w6.drew.cell? ⟨q2, 0, none⟩ = some (.int .u32 7) ∧ w6.drew.cell? ⟨q2, 1, none⟩ = some (.int .u32 3) ∧ w6.drew.cell? ⟨q2, 2, none⟩ = some (.int .u16 1)) ∧ Below w.heap.size w w6.drew ∧ q < w6.drew.heap.size ∧ q2 < w6.drew.heap.size := ⟨⟨hx6.cell 0, hx6.cell 1, hx6.cell 2⟩, ⟨hy6.cell 0, hy6.cell 1, hy6.cell 2⟩, hb6.drew, hx6.lt, hy6.lt⟩
  clear hx6 hy6 hb6
  refine wp_region_lex (fun W => (W.cell? ⟨q, 0, none⟩ = some (.int .u32 7) ∧ W.cell? ⟨q, 1, none⟩ = some (.int .u32 3) ∧ W.cell? ⟨q, 2, none⟩ = some (.int .u16 1)) ∧ (W.cell? ⟨q2, 0, none⟩ = some (.int .u32 7) ∧ W.cell? ⟨q2, 1, none⟩ = some (.int .u32 3) ∧ W.cell? ⟨q2, 2, none⟩ = some (.int .u16 1)) ∧ Below w.heap.size w W ∧ q < W.heap.size ∧ q2 < W.heap.size) [9, 10, 14, 19, 25, 27] [15, 20, 26, 28] [0, 1, 2, 3, 4, 5, 6, 7, 8, 9, 10, 11, 12, 13, 14, 15, 16, 17, 18, 19, 21, 20, 22, 23, 24, 25, 27, 26, 28, 29, 30] (by kernel_rfl) rfl (by kernel_rfl) (by kernel_rfl) (fun _ _ d _ _ h => by cases d <;> exact h) ?_
  repeat (first | (refine lexG_take _ ?_ rfl rfl rfl rfl (fun _ => ?_) ?_; rotate_left; (focus (go_simp; with_reducible rfl)); try simp only [Act.put, List.setIfInBounds_toArray, List.set_cons_zero, List.set_cons_succ]) | (refine lexG_held _ ?_ rfl rfl rfl rfl (by assumption) (fun _ hSw => ?_) ?_; rotate_left; (focus ((try dsimp only at hSw); go_simp; with_reducible rfl)); try simp only [Act.put, List.setIfInBounds_toArray, List.set_cons_zero, List.set_cons_succ]) | (refine lexG_skip _ rfl rfl (by assumption) ?_; try simp only [Act.put, List.setIfInBounds_toArray, List.set_cons_zero, List.set_cons_succ]))
  refine lexG_now _ rfl rfl rfl (fun K hK => ?_)
  go_wp2_with fail
  refine (text_ex _).mono ?_
  rintro e w7 ⟨rfl, hb7⟩
  dsimp only
  have hS7 := exS_below hS hb7
  refine hK _ _ _ (fun _ h => h) hS7 ?_
  clear hK K hS hb7
  try simp only [Act.put, List.setIfInBounds_toArray, List.set_cons_zero, List.set_cons_succ]
  repeat (first | (refine lexG_take _ ?_ rfl rfl rfl rfl (fun _ => ?_) ?_; rotate_left; (focus (go_simp; with_reducible rfl)); try simp only [Act.put, List.setIfInBounds_toArray, List.set_cons_zero, List.set_cons_succ]) | (refine lexG_held _ ?_ rfl rfl rfl rfl (by assumption) (fun _ hSw => ?_) ?_; rotate_left; (focus ((try dsimp only at hSw); go_simp; with_reducible rfl)); try simp only [Act.put, List.setIfInBounds_toArray, List.set_cons_zero, List.set_cons_succ]) | (refine lexG_skip _ rfl rfl (by assumption) ?_; try simp only [Act.put, List.setIfInBounds_toArray, List.set_cons_zero, List.set_cons_succ]))
  refine lexG_now _ rfl rfl rfl (fun K hK => ?_)
  go_wp2_with fail
  refine (root_walk 7 3 1 _).mono ?_
  rintro e w8 ⟨rfl, hb8⟩
  dsimp only
  have hS8 := exS_below hS7 hb8
  refine hK _ _ _ (fun _ h => h) hS8 ?_
  clear hK K hS7 hb8
  try simp only [Act.put, List.setIfInBounds_toArray, List.set_cons_zero, List.set_cons_succ]
  repeat (first | (refine lexG_take _ ?_ rfl rfl rfl rfl (fun _ => ?_) ?_; rotate_left; (focus (go_simp; with_reducible rfl)); try simp only [Act.put, List.setIfInBounds_toArray, List.set_cons_zero, List.set_cons_succ]) | (refine lexG_held _ ?_ rfl rfl rfl rfl (by assumption) (fun _ hSw => ?_) ?_; rotate_left; (focus ((try dsimp only at hSw); go_simp; with_reducible rfl)); try simp only [Act.put, List.setIfInBounds_toArray, List.set_cons_zero, List.set_cons_succ]) | (refine lexG_skip _ rfl rfl (by assumption) ?_; try simp only [Act.put, List.setIfInBounds_toArray, List.set_cons_zero, List.set_cons_succ]))
  refine lexG_now _ rfl rfl rfl (fun K hK => ?_)
  go_wp2_with fail
  refine (root_walk 7 3 1 _).mono ?_
  rintro e w9 ⟨rfl, hb9⟩
  dsimp only
  have hS9 := exS_below hS8 hb9
  refine hK _ _ _ (fun _ h => h) hS9 ?_
  clear hK K hS8 hb9
  try simp only [Act.put, List.setIfInBounds_toArray, List.set_cons_zero, List.set_cons_succ]
  repeat (first | (refine lexG_take _ ?_ rfl rfl rfl rfl (fun _ => ?_) ?_; rotate_left; (focus (go_simp; with_reducible rfl)); try simp only [Act.put, List.setIfInBounds_toArray, List.set_cons_zero, List.set_cons_succ]) | (refine lexG_held _ ?_ rfl rfl rfl rfl (by assumption) (fun _ hSw => ?_) ?_; rotate_left; (focus ((try dsimp only at hSw); go_simp; with_reducible rfl)); try simp only [Act.put, List.setIfInBounds_toArray, List.set_cons_zero, List.set_cons_succ]) | (refine lexG_skip _ rfl rfl (by assumption) ?_; try simp only [Act.put, List.setIfInBounds_toArray, List.set_cons_zero, List.set_cons_succ]))
  refine lexG_now _ rfl rfl rfl (fun K hK => ?_)
  go_wp2_with fail
  refine (less_walk 7 3 0 7 3 1 _).mono ?_
  rintro e w10 ⟨rfl, hb10⟩
  dsimp only
  have hS10 := exS_below hS9 hb10
  refine hK _ _ _ (fun _ h => h) hS10 ?_
  clear hK K hS9 hb10
  have hid : idLt 7 3 0 7 3 1 = true := by decide
  try simp only [Act.put, List.setIfInBounds_toArray, List.set_cons_zero, List.set_cons_succ]
  repeat (first | (refine lexG_take _ ?_ rfl rfl rfl rfl (fun _ => ?_) ?_; rotate_left; (focus (go_simp; with_reducible rfl)); try simp only [Act.put, List.setIfInBounds_toArray, List.set_cons_zero, List.set_cons_succ]) | (refine lexG_held _ ?_ rfl rfl rfl rfl (by assumption) (fun _ hSw => ?_) ?_; rotate_left; (focus ((try dsimp only at hSw); go_simp; with_reducible rfl)); try simp only [Act.put, List.setIfInBounds_toArray, List.set_cons_zero, List.set_cons_succ]) | (refine lexG_skip _ rfl rfl (by assumption) ?_; try simp only [Act.put, List.setIfInBounds_toArray, List.set_cons_zero, List.set_cons_succ]))
  refine lexG_nil ?_
  go_wp2_with fail
  go_ret
  exact ⟨rfl, hS10.2.2.1⟩
end Go.Proofs.YtokcmnenfgbdoaaDoor
