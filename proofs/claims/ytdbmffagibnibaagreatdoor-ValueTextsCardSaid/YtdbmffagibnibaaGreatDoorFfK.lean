/- Values: choirlaw2.known. (Printed by gen_ffk.py.) -/
import Derived.Test.YtdbmffagibnibaaGreatDoorFf9
import Derived.Test.YtdbmffagibnibaaGreatDoorEq
set_option linter.unusedSimpArgs false
set_option linter.unusedVariables false
namespace Go.Proofs.YtdbmffagibnibaaGreatDoor
open Go.RowKit Go.Sort Go.Lib
set_option maxRecDepth 100000

theorem list_ref (A : Option Addr) (n c : Nat) (w : World) : Calls Tryz.prog 16 #[.slice A n c] w (Says w (.agg #[.int .i64 4, .int .i64 0, .float .f64 0, .string ⟨#[]⟩, .slice A n c])) := by
  have hsf := fun a k x m w => run_store_float (P := Tryz.prog) a k x m w
  go_enter Tryz.func16, Tryz.ntmps16
  go_wp2_with fail
  have hb := Blk.new w 25 #[.int .i64 4, .int .i64 0, .float .f64 0, .string ⟨#[]⟩, .slice A n c]
  refine bodyPost_ret ?hr rfl ⟨rfl, (Below.refl _ w).alloc (Nat.le_refl _) _⟩
  case hr => exact results_cell_row rfl _ _ w.heap.size 25 _ (0, 0) _ rfl hb Tryz.underlying25 rfl (by kernel_rfl)
/-- The example's list. -/
def vL : Val := .mk 4 0 0 [] [.mk 1 1 0 [] [], .mk 2 0 4602678819172646912 [] [], .mk 3 0 0 [97] []]
theorem flat_reads (k i : Int) (f : Nat) (s : List UInt8) (w : World) (B : Nat) : VReads w B (.mk k i f s []) #[.int .i64 k, .int .i64 i, .float .f64 f, .string (bstr s), .slice none 0 0] :=
  .mk (A := none) (c := 0) (xs := []) (fun _ => #[]) (by simp) Reads.none_ (fun j v h => by simp at h) (fun j h => by simp at h)
theorem vL_reads {L : Nat} {w : World} (hR : Blk w L 25 row3) : VReads w w.heap.size vL #[.int .i64 4, .int .i64 0, .float .f64 0, .string ⟨#[]⟩, .slice (some ⟨L, 0, none⟩) 3 3] := by
  refine .mk (c := 3) (xs := row3.toList) (fun j => if j = 0 then #[.int .i64 1, .int .i64 1, .float .f64 0, .string (bstr []), .slice none 0 0] else if j = 1 then #[.int .i64 2, .int .i64 0, .float .f64 4602678819172646912, .string (bstr []), .slice none 0 0] else #[.int .i64 3, .int .i64 0, .float .f64 0, .string (bstr [97]), .slice none 0 0]) (by decide) ⟨rfl, fun _ => ⟨_, rfl, hR.lt, fun j u hu => ?_⟩⟩ (fun j v h => ?_) (fun j h => ?_)
  · rw [add_row, hR.cell j]
    simpa using hu
  · match j with
    | 0 => cases h; exact flat_reads ..
    | 1 => cases h; exact flat_reads ..
    | 2 => cases h; exact flat_reads ..
    | j + 3 => simp at h
  · match j, h with
    | 0, _ => rfl
    | 1, _ => rfl
    | 2, _ => rfl
    | j + 3, h => simp at h; omega

set_option maxHeartbeats 12800000 in
theorem known_true (w : World) (hT : TabW w) (hQ : QuoteW w) : Calls Tryz.prog 9 #[] w (Says w (.bool true)) := by
  have hsf := fun a k x m w => run_store_float (P := Tryz.prog) a k x m w
  have h0 := ref_canon 0 w
  rw [show cb 0 = 0 from by decide] at h0
  have hf0 := fun W => float_ref 0 W
  rw [show cb 0 = 0 from by decide] at hf0
  have hfh := fun W => float_ref 4602678819172646912 W
  rw [show cb 4602678819172646912 = 4602678819172646912 from by decide] at hfh
  have hf2 := fun W => float_ref 4611686018427387904 W
  rw [show cb 4611686018427387904 = 4611686018427387904 from by decide] at hf2
  have hf1 := fun W => float_ref 4607182418800017408 W
  rw [show cb 4607182418800017408 = 4607182418800017408 from by decide] at hf1
  replace h0 := Lib.hid h0
  replace hf0 := Lib.hid hf0
  replace hfh := Lib.hid hfh
  replace hf2 := Lib.hid hf2
  replace hf1 := Lib.hid hf1
  replace hT := Lib.hid hT
  replace hQ := Lib.hid hQ
  go_enter Tryz.func9, Tryz.ntmps9
  go_wp2_with fail
  refine h0.out.mono ?_
  rintro e w0 ⟨rfl, rfl⟩
  dsimp only
  go_wp2_with fail
  refine (hf0.out _).mono ?_
  rintro e w1 ⟨rfl, hb1⟩
  dsimp only
  have hn2 := Blk.new w1 25 #[.int .i64 2, .int .i64 0, .float .f64 0, .string ⟨#[]⟩, .slice none 0 0]
  have hb2 := below_then ((Below.refl w1.heap.size w1).alloc (Nat.le_refl _) (.cells #[.int .i64 2, .int .i64 0, .float .f64 0, .string ⟨#[]⟩, .slice none 0 0] 25)) hb1
  obtain ⟨x, ex⟩ : ∃ x, w1.heap.size = x := ⟨_, rfl⟩
  rw [ex] at hn2
  replace ex := Lib.hid ex
  clear hb1
  go_upto_region 2 with (fail)
  try rw [ex.out]
  generalize w1.alloc (.cells #[.int .i64 2, .int .i64 0, .float .f64 0, .string ⟨#[]⟩, .slice none 0 0] 25) = w2 at *
  clear ex
  go_wp2_with fail
  refine (int_ref 1 _).mono ?_
  rintro e w3 ⟨rfl, hb3⟩
  dsimp only
  have hn3 := hn2.below hb3 hn2.lt
  have hb03 := below_then hb3 hb2
  go_wp2_with fail
  refine (hfh.out _).mono ?_
  rintro e w4 ⟨rfl, hb4⟩
  dsimp only
  have hn4 := hn3.below hb4 hn3.lt
  have hb04 := below_then hb4 hb03
  go_wp2_with fail
  refine (text_ref _ _).mono ?_
  rintro e w5 ⟨rfl, hb5⟩
  dsimp only
  have hn5 := hn4.below hb5 hn4.lt
  have hb05 := below_then hb5 hb04
  have hR6 := Blk.new w5 25 row3
  have hb6 := (Below.refl w5.heap.size w5).alloc (Nat.le_refl _) (.cells row3 25)
  have hn6 := hn5.below hb6 hn5.lt
  have hb06 := below_then hb6 hb05
  obtain ⟨L, eL⟩ : ∃ x, w5.heap.size = x := ⟨_, rfl⟩
  rw [eL] at hR6
  replace eL := Lib.hid eL
  clear hn2 hb2 hb3 hn3 hb03 hb4 hn4 hb04 hb5 hn5 hb05 hb6
  go_wp2_with fail
  try rw [eL.out]
  generalize w5.alloc (.cells row3 25) = w6 at *
  refine (list_ref _ _ _ _).mono ?_
  rintro e w7 ⟨rfl, hb7⟩
  dsimp only
  have hR7 := hR6.below hb7 hR6.lt
  have hn7 := hn6.below hb7 hn6.lt
  have hb07 := below_then hb7 hb06
  have hl8 := Blk.new w7 25 #[.int .i64 4, .int .i64 0, .float .f64 0, .string ⟨#[]⟩, .slice (some ⟨L, 0, none⟩) 3 3]
  have hb8 := (Below.refl w7.heap.size w7).alloc (Nat.le_refl _) (.cells #[.int .i64 4, .int .i64 0, .float .f64 0, .string ⟨#[]⟩, .slice (some ⟨L, 0, none⟩) 3 3] 25)
  have hR8 := hR7.below hb8 hR7.lt
  have hn8 := hn7.below hb8 hn7.lt
  have hb08 := below_then hb8 hb07
  obtain ⟨z, ez⟩ : ∃ x, w7.heap.size = x := ⟨_, rfl⟩
  rw [ez] at hl8
  replace ez := Lib.hid ez
  clear hR6 hn6 hb06 hb7 hR7 hn7 hb07 hb8
  go_upto_region 3 with (fail)
  try rw [ez.out]
  generalize w7.alloc (.cells #[.int .i64 4, .int .i64 0, .float .f64 0, .string ⟨#[]⟩, .slice (some ⟨L, 0, none⟩) 3 3] 25) = w8 at *
  clear ez eL
  have hRd : Blk w8.drew L 25 row3 := hR8.drew
  have hnd : Blk w8.drew x 25 #[.int .i64 2, .int .i64 0, .float .f64 0, .string ⟨#[]⟩, .slice none 0 0] := hn8.drew
  have hld : Blk w8.drew z 25 #[.int .i64 4, .int .i64 0, .float .f64 0, .string ⟨#[]⟩, .slice (some ⟨L, 0, none⟩) 3 3] := hl8.drew
  have hbd : Below w.heap.size w w8.drew := hb08.drew
  clear hR8 hn8 hl8 hb08
  refine wp_region_lex (fun W => Below w8.drew.heap.size w8.drew W) [0, 9, 10, 14, 20, 30] [1, 4, 5, 11, 15, 16, 21, 26, 31] [0, 1, 2, 3, 4, 5, 6, 7, 8, 9, 10, 11, 12, 13, 14, 15, 16, 17, 18, 19, 20, 21, 22, 23, 24, 25, 26, 27, 28, 29, 30, 31, 32, 33, 34] (by kernel_rfl) rfl (by kernel_rfl) (by kernel_rfl) (fun _ _ d _ _ h => by cases d <;> exact h) ?_
  generalize w8.drew = v at *
  have hS0 := Below.refl v.heap.size v
  have hTv := hT.out.next hbd
  have hQv := hQ.out.next hbd
  have hvL := vL_reads hRd
  have hvN := flat_reads 2 0 0 [] v v.heap.size
  have hok : OkV (.mk 2 0 0 [] []) := .mk (by omega) (by omega) (fun v h => by simp at h) (by simp)
  have hok1 : OkV (.mk 2 0 4607182418800017408 [] []) := .mk (by omega) (by omega) (fun v h => by simp at h) (by simp)
  have c1 := fun W (hW : Below v.heap.size v W) => text_list L 3 W (hTv.next hW) (hQv.next hW) (hRd.below hW hRd.lt)
  have c5 := fun W (hW : Below v.heap.size v W) => text_two W (hTv.next hW)
  have c11 := fun W (hW : Below v.heap.size v W) => equal_tree hvL vL _ W hvL hW hW.size
  rw [show eqV vL vL = true from by decide +kernel] at c11
  have c16 := fun W (hW : Below v.heap.size v W) => order_tree hvN (.mk 2 0 4607182418800017408 [] []) _ W (flat_reads 2 0 4607182418800017408 [] v v.heap.size) hok hok1 hW hW.size
  rw [show ordV (.mk 2 0 0 [] []) (.mk 2 0 4607182418800017408 [] []) = -1 from by decide +kernel] at c16
  have c21 := fun W (hW : Below v.heap.size v W) => val_check_any hvL W hW hW.size
  rw [show ((checkV vL : Int)) = 0 from by decide +kernel] at c21
  have c26 := fun W (hW : Below v.heap.size v W) => val_check_any (flat_reads 9 0 0 [] v v.heap.size) W hW hW.size
  rw [show ((checkV (.mk 9 0 0 [] []) : Int)) = 31 from by decide +kernel] at c26
  have c31 := fun W (hW : Below v.heap.size v W) => val_size_any hvL W hW hW.size
  rw [show IntKind.i64.wrap (sizeV vL : Int) = 24 from by decide +kernel] at c31
  replace c1 := Lib.hid c1
  replace c5 := Lib.hid c5
  replace c11 := Lib.hid c11
  replace c16 := Lib.hid c16
  replace c21 := Lib.hid c21
  replace c26 := Lib.hid c26
  replace c31 := Lib.hid c31
  clear hTv hQv hvL hvN hok hok1 hRd
  repeat (first | (refine lexG_take _ ?_ rfl rfl rfl rfl (fun _ => ?_) ?_; rotate_left; (focus (go_simp; with_reducible rfl)); try simp only [Act.put, List.setIfInBounds_toArray, List.set_cons_zero, List.set_cons_succ]) | (refine lexG_held _ ?_ rfl rfl rfl rfl (by assumption) (fun _ hSw => ?_) ?_; rotate_left; (focus (have z0 := (hld.below hSw hld.lt).cell 0; have z1 := (hld.below hSw hld.lt).cell 1; have z2 := (hld.below hSw hld.lt).cell 2; have z3 := (hld.below hSw hld.lt).cell 3; have z4 := (hld.below hSw hld.lt).cell 4; have y0 := (hnd.below hSw hnd.lt).cell 0; have y1 := (hnd.below hSw hnd.lt).cell 1; have y2 := (hnd.below hSw hnd.lt).cell 2; have y3 := (hnd.below hSw hnd.lt).cell 3; have y4 := (hnd.below hSw hnd.lt).cell 4; clear hSw; go_simp; with_reducible rfl)); try simp only [Act.put, List.setIfInBounds_toArray, List.set_cons_zero, List.set_cons_succ]) | (refine lexG_skip _ rfl rfl (by assumption) ?_; try simp only [Act.put, List.setIfInBounds_toArray, List.set_cons_zero, List.set_cons_succ]))
  refine lexG_now _ rfl rfl rfl (fun K hK => ?_)
  go_wp2_with fail
  refine (c1.out _ hS0).mono ?_
  rintro e u1 ⟨rfl, hbu1⟩
  dsimp only
  have hS1 := below_then hbu1 hS0
  refine hK _ _ _ (fun _ h => h) hS1 ?_
  clear hK K hbu1 hS0
  try simp only [Act.put, List.setIfInBounds_toArray, List.set_cons_zero, List.set_cons_succ]
  repeat (first | (refine lexG_take _ ?_ rfl rfl rfl rfl (fun _ => ?_) ?_; rotate_left; (focus (go_simp; with_reducible rfl)); try simp only [Act.put, List.setIfInBounds_toArray, List.set_cons_zero, List.set_cons_succ]) | (refine lexG_held _ ?_ rfl rfl rfl rfl (by assumption) (fun _ hSw => ?_) ?_; rotate_left; (focus (have z0 := (hld.below hSw hld.lt).cell 0; have z1 := (hld.below hSw hld.lt).cell 1; have z2 := (hld.below hSw hld.lt).cell 2; have z3 := (hld.below hSw hld.lt).cell 3; have z4 := (hld.below hSw hld.lt).cell 4; have y0 := (hnd.below hSw hnd.lt).cell 0; have y1 := (hnd.below hSw hnd.lt).cell 1; have y2 := (hnd.below hSw hnd.lt).cell 2; have y3 := (hnd.below hSw hnd.lt).cell 3; have y4 := (hnd.below hSw hnd.lt).cell 4; clear hSw; go_simp; with_reducible rfl)); try simp only [Act.put, List.setIfInBounds_toArray, List.set_cons_zero, List.set_cons_succ]) | (refine lexG_skip _ rfl rfl (by assumption) ?_; try simp only [Act.put, List.setIfInBounds_toArray, List.set_cons_zero, List.set_cons_succ]))
  refine lexG_now _ rfl rfl rfl (fun K hK => ?_)
  go_wp2_with fail
  refine (hf2.out _).mono ?_
  rintro e u4 ⟨rfl, hbu4⟩
  dsimp only
  have hS4 := below_then hbu4 hS1
  refine hK _ _ _ (fun _ h => h) hS4 ?_
  clear hK K hbu4 hS1
  try simp only [Act.put, List.setIfInBounds_toArray, List.set_cons_zero, List.set_cons_succ]
  repeat (first | (refine lexG_take _ ?_ rfl rfl rfl rfl (fun _ => ?_) ?_; rotate_left; (focus (go_simp; with_reducible rfl)); try simp only [Act.put, List.setIfInBounds_toArray, List.set_cons_zero, List.set_cons_succ]) | (refine lexG_held _ ?_ rfl rfl rfl rfl (by assumption) (fun _ hSw => ?_) ?_; rotate_left; (focus (have z0 := (hld.below hSw hld.lt).cell 0; have z1 := (hld.below hSw hld.lt).cell 1; have z2 := (hld.below hSw hld.lt).cell 2; have z3 := (hld.below hSw hld.lt).cell 3; have z4 := (hld.below hSw hld.lt).cell 4; have y0 := (hnd.below hSw hnd.lt).cell 0; have y1 := (hnd.below hSw hnd.lt).cell 1; have y2 := (hnd.below hSw hnd.lt).cell 2; have y3 := (hnd.below hSw hnd.lt).cell 3; have y4 := (hnd.below hSw hnd.lt).cell 4; clear hSw; go_simp; with_reducible rfl)); try simp only [Act.put, List.setIfInBounds_toArray, List.set_cons_zero, List.set_cons_succ]) | (refine lexG_skip _ rfl rfl (by assumption) ?_; try simp only [Act.put, List.setIfInBounds_toArray, List.set_cons_zero, List.set_cons_succ]))
  refine lexG_now _ rfl rfl rfl (fun K hK => ?_)
  go_wp2_with fail
  refine (c5.out _ hS4).mono ?_
  rintro e u5 ⟨rfl, hbu5⟩
  dsimp only
  have hS5 := below_then hbu5 hS4
  refine hK _ _ _ (fun _ h => h) hS5 ?_
  clear hK K hbu5 hS4
  try simp only [Act.put, List.setIfInBounds_toArray, List.set_cons_zero, List.set_cons_succ]
  repeat (first | (refine lexG_take _ ?_ rfl rfl rfl rfl (fun _ => ?_) ?_; rotate_left; (focus (go_simp; with_reducible rfl)); try simp only [Act.put, List.setIfInBounds_toArray, List.set_cons_zero, List.set_cons_succ]) | (refine lexG_held _ ?_ rfl rfl rfl rfl (by assumption) (fun _ hSw => ?_) ?_; rotate_left; (focus (have z0 := (hld.below hSw hld.lt).cell 0; have z1 := (hld.below hSw hld.lt).cell 1; have z2 := (hld.below hSw hld.lt).cell 2; have z3 := (hld.below hSw hld.lt).cell 3; have z4 := (hld.below hSw hld.lt).cell 4; have y0 := (hnd.below hSw hnd.lt).cell 0; have y1 := (hnd.below hSw hnd.lt).cell 1; have y2 := (hnd.below hSw hnd.lt).cell 2; have y3 := (hnd.below hSw hnd.lt).cell 3; have y4 := (hnd.below hSw hnd.lt).cell 4; clear hSw; go_simp; with_reducible rfl)); try simp only [Act.put, List.setIfInBounds_toArray, List.set_cons_zero, List.set_cons_succ]) | (refine lexG_skip _ rfl rfl (by assumption) ?_; try simp only [Act.put, List.setIfInBounds_toArray, List.set_cons_zero, List.set_cons_succ]))
  refine lexG_now _ rfl rfl rfl (fun K hK => ?_)
  go_wp2_with fail
  refine (c11.out _ hS5).mono ?_
  rintro e u11 ⟨rfl, hbu11⟩
  dsimp only
  have hS11 := below_then hbu11 hS5
  refine hK _ _ _ (fun _ h => h) hS11 ?_
  clear hK K hbu11 hS5
  try simp only [Act.put, List.setIfInBounds_toArray, List.set_cons_zero, List.set_cons_succ]
  repeat (first | (refine lexG_take _ ?_ rfl rfl rfl rfl (fun _ => ?_) ?_; rotate_left; (focus (go_simp; with_reducible rfl)); try simp only [Act.put, List.setIfInBounds_toArray, List.set_cons_zero, List.set_cons_succ]) | (refine lexG_held _ ?_ rfl rfl rfl rfl (by assumption) (fun _ hSw => ?_) ?_; rotate_left; (focus (have z0 := (hld.below hSw hld.lt).cell 0; have z1 := (hld.below hSw hld.lt).cell 1; have z2 := (hld.below hSw hld.lt).cell 2; have z3 := (hld.below hSw hld.lt).cell 3; have z4 := (hld.below hSw hld.lt).cell 4; have y0 := (hnd.below hSw hnd.lt).cell 0; have y1 := (hnd.below hSw hnd.lt).cell 1; have y2 := (hnd.below hSw hnd.lt).cell 2; have y3 := (hnd.below hSw hnd.lt).cell 3; have y4 := (hnd.below hSw hnd.lt).cell 4; clear hSw; go_simp; with_reducible rfl)); try simp only [Act.put, List.setIfInBounds_toArray, List.set_cons_zero, List.set_cons_succ]) | (refine lexG_skip _ rfl rfl (by assumption) ?_; try simp only [Act.put, List.setIfInBounds_toArray, List.set_cons_zero, List.set_cons_succ]))
  refine lexG_now _ rfl rfl rfl (fun K hK => ?_)
  go_wp2_with fail
  refine (hf1.out _).mono ?_
  rintro e u15 ⟨rfl, hbu15⟩
  dsimp only
  have hS15 := below_then hbu15 hS11
  refine hK _ _ _ (fun _ h => h) hS15 ?_
  clear hK K hbu15 hS11
  try simp only [Act.put, List.setIfInBounds_toArray, List.set_cons_zero, List.set_cons_succ]
  repeat (first | (refine lexG_take _ ?_ rfl rfl rfl rfl (fun _ => ?_) ?_; rotate_left; (focus (go_simp; with_reducible rfl)); try simp only [Act.put, List.setIfInBounds_toArray, List.set_cons_zero, List.set_cons_succ]) | (refine lexG_held _ ?_ rfl rfl rfl rfl (by assumption) (fun _ hSw => ?_) ?_; rotate_left; (focus (have z0 := (hld.below hSw hld.lt).cell 0; have z1 := (hld.below hSw hld.lt).cell 1; have z2 := (hld.below hSw hld.lt).cell 2; have z3 := (hld.below hSw hld.lt).cell 3; have z4 := (hld.below hSw hld.lt).cell 4; have y0 := (hnd.below hSw hnd.lt).cell 0; have y1 := (hnd.below hSw hnd.lt).cell 1; have y2 := (hnd.below hSw hnd.lt).cell 2; have y3 := (hnd.below hSw hnd.lt).cell 3; have y4 := (hnd.below hSw hnd.lt).cell 4; clear hSw; go_simp; with_reducible rfl)); try simp only [Act.put, List.setIfInBounds_toArray, List.set_cons_zero, List.set_cons_succ]) | (refine lexG_skip _ rfl rfl (by assumption) ?_; try simp only [Act.put, List.setIfInBounds_toArray, List.set_cons_zero, List.set_cons_succ]))
  refine lexG_now _ rfl rfl rfl (fun K hK => ?_)
  go_wp2_with fail
  refine (c16.out _ hS15).mono ?_
  rintro e u16 ⟨rfl, hbu16⟩
  dsimp only
  have hS16 := below_then hbu16 hS15
  refine hK _ _ _ (fun _ h => h) hS16 ?_
  clear hK K hbu16 hS15
  try simp only [Act.put, List.setIfInBounds_toArray, List.set_cons_zero, List.set_cons_succ]
  repeat (first | (refine lexG_take _ ?_ rfl rfl rfl rfl (fun _ => ?_) ?_; rotate_left; (focus (go_simp; with_reducible rfl)); try simp only [Act.put, List.setIfInBounds_toArray, List.set_cons_zero, List.set_cons_succ]) | (refine lexG_held _ ?_ rfl rfl rfl rfl (by assumption) (fun _ hSw => ?_) ?_; rotate_left; (focus (have z0 := (hld.below hSw hld.lt).cell 0; have z1 := (hld.below hSw hld.lt).cell 1; have z2 := (hld.below hSw hld.lt).cell 2; have z3 := (hld.below hSw hld.lt).cell 3; have z4 := (hld.below hSw hld.lt).cell 4; have y0 := (hnd.below hSw hnd.lt).cell 0; have y1 := (hnd.below hSw hnd.lt).cell 1; have y2 := (hnd.below hSw hnd.lt).cell 2; have y3 := (hnd.below hSw hnd.lt).cell 3; have y4 := (hnd.below hSw hnd.lt).cell 4; clear hSw; go_simp; with_reducible rfl)); try simp only [Act.put, List.setIfInBounds_toArray, List.set_cons_zero, List.set_cons_succ]) | (refine lexG_skip _ rfl rfl (by assumption) ?_; try simp only [Act.put, List.setIfInBounds_toArray, List.set_cons_zero, List.set_cons_succ]))
  refine lexG_now _ rfl rfl rfl (fun K hK => ?_)
  go_wp2_with fail
  refine (c21.out _ hS16).mono ?_
  rintro e u21 ⟨rfl, hbu21⟩
  dsimp only
  have hS21 := below_then hbu21 hS16
  refine hK _ _ _ (fun _ h => h) hS21 ?_
  clear hK K hbu21 hS16
  try simp only [Act.put, List.setIfInBounds_toArray, List.set_cons_zero, List.set_cons_succ]
  repeat (first | (refine lexG_take _ ?_ rfl rfl rfl rfl (fun _ => ?_) ?_; rotate_left; (focus (go_simp; with_reducible rfl)); try simp only [Act.put, List.setIfInBounds_toArray, List.set_cons_zero, List.set_cons_succ]) | (refine lexG_held _ ?_ rfl rfl rfl rfl (by assumption) (fun _ hSw => ?_) ?_; rotate_left; (focus (have z0 := (hld.below hSw hld.lt).cell 0; have z1 := (hld.below hSw hld.lt).cell 1; have z2 := (hld.below hSw hld.lt).cell 2; have z3 := (hld.below hSw hld.lt).cell 3; have z4 := (hld.below hSw hld.lt).cell 4; have y0 := (hnd.below hSw hnd.lt).cell 0; have y1 := (hnd.below hSw hnd.lt).cell 1; have y2 := (hnd.below hSw hnd.lt).cell 2; have y3 := (hnd.below hSw hnd.lt).cell 3; have y4 := (hnd.below hSw hnd.lt).cell 4; clear hSw; go_simp; with_reducible rfl)); try simp only [Act.put, List.setIfInBounds_toArray, List.set_cons_zero, List.set_cons_succ]) | (refine lexG_skip _ rfl rfl (by assumption) ?_; try simp only [Act.put, List.setIfInBounds_toArray, List.set_cons_zero, List.set_cons_succ]))
  refine lexG_now _ rfl rfl rfl (fun K hK => ?_)
  go_wp2_with fail
  refine (c26.out _ hS21).mono ?_
  rintro e u26 ⟨rfl, hbu26⟩
  dsimp only
  have hS26 := below_then hbu26 hS21
  refine hK _ _ _ (fun _ h => h) hS26 ?_
  clear hK K hbu26 hS21
  try simp only [Act.put, List.setIfInBounds_toArray, List.set_cons_zero, List.set_cons_succ]
  repeat (first | (refine lexG_take _ ?_ rfl rfl rfl rfl (fun _ => ?_) ?_; rotate_left; (focus (go_simp; with_reducible rfl)); try simp only [Act.put, List.setIfInBounds_toArray, List.set_cons_zero, List.set_cons_succ]) | (refine lexG_held _ ?_ rfl rfl rfl rfl (by assumption) (fun _ hSw => ?_) ?_; rotate_left; (focus (have z0 := (hld.below hSw hld.lt).cell 0; have z1 := (hld.below hSw hld.lt).cell 1; have z2 := (hld.below hSw hld.lt).cell 2; have z3 := (hld.below hSw hld.lt).cell 3; have z4 := (hld.below hSw hld.lt).cell 4; have y0 := (hnd.below hSw hnd.lt).cell 0; have y1 := (hnd.below hSw hnd.lt).cell 1; have y2 := (hnd.below hSw hnd.lt).cell 2; have y3 := (hnd.below hSw hnd.lt).cell 3; have y4 := (hnd.below hSw hnd.lt).cell 4; clear hSw; go_simp; with_reducible rfl)); try simp only [Act.put, List.setIfInBounds_toArray, List.set_cons_zero, List.set_cons_succ]) | (refine lexG_skip _ rfl rfl (by assumption) ?_; try simp only [Act.put, List.setIfInBounds_toArray, List.set_cons_zero, List.set_cons_succ]))
  refine lexG_now _ rfl rfl rfl (fun K hK => ?_)
  go_wp2_with fail
  refine (c31.out _ hS26).mono ?_
  rintro e u31 ⟨rfl, hbu31⟩
  dsimp only
  have hS31 := below_then hbu31 hS26
  refine hK _ _ _ (fun _ h => h) hS31 ?_
  clear hK K hbu31 hS26
  try simp only [Act.put, List.setIfInBounds_toArray, List.set_cons_zero, List.set_cons_succ]
  repeat (first | (refine lexG_take _ ?_ rfl rfl rfl rfl (fun _ => ?_) ?_; rotate_left; (focus (go_simp; with_reducible rfl)); try simp only [Act.put, List.setIfInBounds_toArray, List.set_cons_zero, List.set_cons_succ]) | (refine lexG_held _ ?_ rfl rfl rfl rfl (by assumption) (fun _ hSw => ?_) ?_; rotate_left; (focus (have z0 := (hld.below hSw hld.lt).cell 0; have z1 := (hld.below hSw hld.lt).cell 1; have z2 := (hld.below hSw hld.lt).cell 2; have z3 := (hld.below hSw hld.lt).cell 3; have z4 := (hld.below hSw hld.lt).cell 4; have y0 := (hnd.below hSw hnd.lt).cell 0; have y1 := (hnd.below hSw hnd.lt).cell 1; have y2 := (hnd.below hSw hnd.lt).cell 2; have y3 := (hnd.below hSw hnd.lt).cell 3; have y4 := (hnd.below hSw hnd.lt).cell 4; clear hSw; go_simp; with_reducible rfl)); try simp only [Act.put, List.setIfInBounds_toArray, List.set_cons_zero, List.set_cons_succ]) | (refine lexG_skip _ rfl rfl (by assumption) ?_; try simp only [Act.put, List.setIfInBounds_toArray, List.set_cons_zero, List.set_cons_succ]))
  refine lexG_nil ?_
  go_wp2_with fail
  go_ret
  exact ⟨rfl, below_then hS31 hbd⟩
end Go.Proofs.YtdbmffagibnibaaGreatDoor
