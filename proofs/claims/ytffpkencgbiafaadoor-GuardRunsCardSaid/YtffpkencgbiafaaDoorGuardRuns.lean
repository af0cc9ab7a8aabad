/- GuardRuns: what a function tells is told, an error has no value beside it; whatever it panics with is one error. -/
import Derived.Test.YtffpkencgbiafaaDoorGr10
import Derived.Test.YtffpkencgbiafaaDoorValArg
set_option linter.unusedSimpArgs false
set_option linter.unusedVariables false
namespace Go.Proofs.YtffpkencgbiafaaDoor
open Go.RowKit
set_option maxRecDepth 100000

theorem Blk.val5 {w : World} {g : Nat} {t : TypeId} {a b c d e : Value} (h : Blk w g t #[a, b, c, d, e]) : w.cell? ⟨g, 0, none⟩ = some a ∧ w.cell? ⟨g, 1, none⟩ = some b ∧ w.cell? ⟨g, 2, none⟩ = some c ∧ w.cell? ⟨g, 3, none⟩ = some d ∧ w.cell? ⟨g, 4, none⟩ = some e := ⟨h.cell 0, h.cell 1, h.cell 2, h.cell 3, h.cell 4⟩
theorem zero_reads (W : World) : VReads W W.heap.size (.mk 0 0 0 [] []) #[.int .i64 0, .int .i64 0, .float .f64 0, .string ⟨#[]⟩, .slice none 0 0] := (VOwn.flat W (fun _ => False) 0 0 0 []).reads
theorem same_zero (W : World) : Calls Tryd.prog 17 #[.agg #[.int .i64 0, .int .i64 0, .float .f64 0, .string ⟨#[]⟩, .slice none 0 0], .agg #[.int .i64 0, .int .i64 0, .float .f64 0, .string ⟨#[]⟩, .slice none 0 0]] W (Says W (.bool true)) := same_true (zero_reads W) _ W (zero_reads W) (Below.refl _ _) (Nat.le_refl _)
set_option maxHeartbeats 12800000 in
theorem guardRuns_walk {x : Val} {ca : Array Value} (e : Int) (how : Nat) (t : List UInt8) (n : Int) (w : World) (hv : VReads w w.heap.size x ca) (hok : OkV x) (he : 0 ≤ e ∧ e ≤ 65535) (hh : how ≤ 255) (ht : t.length ≤ 140737488351232) : Calls Tryd.prog 5 #[.agg ca, .int .u16 e, .int .u8 (how : Int), .string (bstr t), .int .i64 n] w (fun e w' => e = .returned (.bool true) ∧ Below w.heap.size w w') := by
  obtain ⟨k, i, f, s0, A, n0, c0, rfl⟩ := hv.form
  have hsz : (bstr t).size ≤ 140737488351232 := by rw [bstr_size]; exact ht
  generalize bstr t = s at *
  have hcv : IntKind.i64.wrap e = e := by rw [IntKind.wrap_i64]; omega
  have hvr := hv
  replace hvr := Lib.hid hvr
  replace hok := Lib.hid hok
  obtain ⟨w1, hw1⟩ : ∃ q, q = w.alloc (.cells #[.int .i64 k, .int .i64 i, .float .f64 f, .string s0, .slice A n0 c0] 31) := ⟨_, rfl⟩
  have hb1 : Below w.heap.size w w1 := by rw [hw1]; exact (Below.refl _ _).alloc (Nat.le_refl _) _
  have hx1 : Blk w1 w.heap.size 31 #[.int .i64 k, .int .i64 i, .float .f64 f, .string s0, .slice A n0 c0] := by rw [hw1]; exact Blk.new w _ _
  obtain ⟨gv, hgv⟩ : ∃ g, w.heap.size = g := ⟨_, rfl⟩
  rw [hgv] at hx1
  replace hgv := Lib.hid hgv
  have hkn := known_true w1
  replace hkn := Lib.hid hkn
  go_enter Tryd.func5, Tryd.ntmps5
  go_upto_region 1 with (fail)
  rw [← hw1]
  try rw [hgv.out]
  clear hw1
  go_wp2_with fail
  refine hkn.out.mono ?_
  clear hkn
  rintro e' w2 ⟨rfl, hb2⟩
  try dsimp only
  have hx2 := hx1.below hb2 hx1.lt
  have lb2 := below_then hb2 hb1
  have hli := light_any hv w2 lb2 lb2.size
  replace hli := Lib.hid hli
  obtain ⟨m0, m1, m2, m3, m4⟩ := hx2.val5
  clear hv hb1 hb2 hx1
  go_wp2_with fail
  refine hli.out.mono ?_
  clear hli m0 m1 m2 m3 m4
  rintro e' w3 ⟨q, rfl, hb3⟩
  try dsimp only
  have hx3 := hx2.below hb3 hx2.lt
  have lb3 := below_then hb3 lb2
  clear hx2 hb3 lb2
  cases q
  · go_wp2_with fail
    go_ret
    exact ⟨rfl, by rw [hgv.out] at lb3; rw [hgv.out]; exact lb3⟩
  by_cases h40 : 40 < s.size
  · have d40 : decide ((40 : Int) < (s.size : Int)) = true := decide_eq_true (by omega)
    have d40' : decide (40 < s.size) = true := decide_eq_true (by omega)
    go_wp2_with fail
    go_ret
    exact ⟨rfl, by rw [hgv.out] at lb3; rw [hgv.out]; exact lb3⟩
  · have d40 : decide ((40 : Int) < (s.size : Int)) = false := decide_eq_false (by omega)
    have d40' : decide (40 < s.size) = false := decide_eq_false (by omega)
    have hs : s.size ≤ 40 := by omega
    obtain ⟨m0, m1, m2, m3, m4⟩ := hx3.val5
    by_cases he0 : e = 0
    · subst e
      replace hvr := hvr.out
      replace hok := hok.out
      have hto := told_mk k i f s0 A n0 c0 0 w3
      unfold v5 at hto
      replace hto := Lib.hid hto
      go_upto_region 5 with (fail)
      go_wp2_with fail
      refine hto.out.mono ?_
      clear hto
      rintro e' w4 ⟨p, q, rfl, B2, hb4, -, -⟩
      try dsimp only
      have hru := run_told B2
      rw [if_pos rfl] at hru
      unfold v5 fv at hru
      unfold fv
      replace hru := Lib.hid hru
      go_wp2_with fail
      refine hru.out.mono ?_
      clear hru
      rintro e' w5 ⟨rfl, hb5⟩
      try dsimp only
      have hb35 := below_then hb5 hb4
      have hx5 := hx3.below hb35 hx3.lt
      have lb5 := below_then hb35 lb3
      clear B2 hb4 hb5 hb35 m0 m1 m2 m3 m4
      have hz_w6 := Blk.new w5 31 #[.int .i64 0, .int .i64 0, .float .f64 0, .string ⟨#[]⟩, .slice none 0 0]
      have hr_w6 := hz_w6.row (#[.int .i64 k, .int .i64 i, .float .f64 f, .string s0, .slice A n0 c0])
      have hc_w6 : Below w5.heap.size w5 ((w5.alloc (.cells #[.int .i64 0, .int .i64 0, .float .f64 0, .string ⟨#[]⟩, .slice none 0 0] 31)).setRow w5.heap.size #[.int .i64 k, .int .i64 i, .float .f64 f, .string s0, .slice A n0 c0]) := ((Below.refl w5.heap.size w5).alloc (Nat.le_refl _) _).trans (((Upd.refl (fun y => y = w5.heap.size) _).setRow (fun _ => rfl) _).below (by simp) (fun k hk e => by omega))
      obtain ⟨w6, h_w6⟩ : ∃ q, q = (w5.alloc (.cells #[.int .i64 0, .int .i64 0, .float .f64 0, .string ⟨#[]⟩, .slice none 0 0] 31)).setRow w5.heap.size #[.int .i64 k, .int .i64 i, .float .f64 f, .string s0, .slice A n0 c0] := ⟨_, rfl⟩
      rw [← h_w6] at hr_w6 hc_w6
      replace h_w6 := Lib.hid h_w6
      have lb_w6 := below_then hc_w6 lb5
      have hx6 := hx5.below hc_w6 hx5.lt
      go_upto_region 6 with (refine store_row_gen rfl 31 _ _ rfl w5.heap.size #[.int .i64 k, .int .i64 i, .float .f64 f, .string s0, .slice A n0 c0] rfl rfl 31 _ hz_w6 (by kernel_rfl) rfl (by simp [Value.oneCell']) (fun wI hwI => ?_); rw [hwI, ← h_w6.out]; clear hwI hz_w6)
      try dsimp only [Act.put]
      obtain ⟨g6, hg_g6⟩ : ∃ y, w5.heap.size = y := ⟨_, rfl⟩
      rw [hg_g6] at hr_w6 ⊢
      clear h_w6 hg_g6
      have hs6 := lb_w6.size
      clear hc_w6 lb5 hx5
      have hS0 : Below w6.heap.size w6 w6.drew := (Below.refl _ _).drew
      refine wp_region_lex (fun W => Below w6.heap.size w6 W) [8, 10, 20] [9, 11, 12, 22] [0, 1, 2, 3, 4, 5, 6, 7, 8, 10, 9, 11, 12, 13, 14, 15, 16, 17, 18, 19, 20, 21, 22, 23, 24, 25] (by kernel_rfl) rfl (by kernel_rfl) (by kernel_rfl) (fun _ _ d _ _ h => by cases d <;> exact h) ?_
      repeat (first | (refine lexG_take _ ?_ rfl rfl rfl rfl (fun _ => ?_) ?_; rotate_left; (focus (go_simp; with_reducible rfl)); try simp only [Act.put, List.setIfInBounds_toArray, List.set_cons_zero, List.set_cons_succ]) | (refine lexG_held _ ?_ rfl rfl rfl rfl (by assumption) (fun _ hSw => ?_) ?_; rotate_left; (focus (have h1 := (hr_w6.below hSw hr_w6.lt).val5; have h2 := (hx6.below hSw hx6.lt).val5; clear hSw; go_simp; with_reducible rfl)); try simp only [Act.put, List.setIfInBounds_toArray, List.set_cons_zero, List.set_cons_succ]) | (refine lexG_skip _ rfl rfl (by assumption) ?_; try simp only [Act.put, List.setIfInBounds_toArray, List.set_cons_zero, List.set_cons_succ]))
      refine lexG_now _ rfl rfl rfl (fun K0 hK => ?_)
      go_wp2_with fail
      refine (ref_clean_s hvr w6.drew (short_of_ok hok) lb_w6.drew hs6).mono ?_
      rintro e' w7 ⟨cs7, rfl, hv7, hb7⟩
      obtain ⟨k7, i7, f7, s7, A7, n7, c7, rfl⟩ := hv7.reads.form
      try dsimp only
      have hb67 := below_then hb7 hS0
      refine hK _ _ _ (fun _ h => h) hb67 ?_
      clear hK K0
      try simp only [Act.put, List.setIfInBounds_toArray, List.set_cons_zero, List.set_cons_succ]
      repeat (first | (refine lexG_take _ ?_ rfl rfl rfl rfl (fun _ => ?_) ?_; rotate_left; (focus (go_simp; with_reducible rfl)); try simp only [Act.put, List.setIfInBounds_toArray, List.set_cons_zero, List.set_cons_succ]) | (refine lexG_held _ ?_ rfl rfl rfl rfl (by assumption) (fun _ hSw => ?_) ?_; rotate_left; (focus (have h1 := (hr_w6.below hSw hr_w6.lt).val5; have h2 := (hx6.below hSw hx6.lt).val5; clear hSw; go_simp; with_reducible rfl)); try simp only [Act.put, List.setIfInBounds_toArray, List.set_cons_zero, List.set_cons_succ]) | (refine lexG_skip _ rfl rfl (by assumption) ?_; try simp only [Act.put, List.setIfInBounds_toArray, List.set_cons_zero, List.set_cons_succ]))
      refine lexG_now _ rfl rfl rfl (fun K0 hK => ?_)
      go_wp2_with fail
      refine (ref_clean_s hvr w7 (short_of_ok hok) (below_then hb67 lb_w6) (Nat.le_trans hs6 hb67.size)).mono ?_
      rintro e' w8 ⟨cs8, rfl, hv8, hb8⟩
      obtain ⟨k8, i8, f8, s8, A8, n8, c8, rfl⟩ := hv8.reads.form
      try dsimp only
      have hb68 := below_then hb8 hb67
      refine hK _ _ _ (fun _ h => h) hb68 ?_
      clear hK K0
      try simp only [Act.put, List.setIfInBounds_toArray, List.set_cons_zero, List.set_cons_succ]
      repeat (first | (refine lexG_take _ ?_ rfl rfl rfl rfl (fun _ => ?_) ?_; rotate_left; (focus (go_simp; with_reducible rfl)); try simp only [Act.put, List.setIfInBounds_toArray, List.set_cons_zero, List.set_cons_succ]) | (refine lexG_held _ ?_ rfl rfl rfl rfl (by assumption) (fun _ hSw => ?_) ?_; rotate_left; (focus (have h1 := (hr_w6.below hSw hr_w6.lt).val5; have h2 := (hx6.below hSw hx6.lt).val5; clear hSw; go_simp; with_reducible rfl)); try simp only [Act.put, List.setIfInBounds_toArray, List.set_cons_zero, List.set_cons_succ]) | (refine lexG_skip _ rfl rfl (by assumption) ?_; try simp only [Act.put, List.setIfInBounds_toArray, List.set_cons_zero, List.set_cons_succ]))
      refine lexG_now _ rfl rfl rfl (fun K0 hK => ?_)
      go_wp2_with fail
      refine (same_true (hv7.upd (Upd.of_below_size (S := fun _ => False) hb8) (fun _ _ h => h)).reads _ w8 hv8.reads (Below.refl _ _) (Nat.le_refl _)).mono ?_
      rintro e' w9 ⟨rfl, hb9⟩
      try dsimp only
      have hb69 := below_then hb9 hb68
      refine hK _ _ _ (fun _ h => h) hb69 ?_
      clear hK K0
      try simp only [Act.put, List.setIfInBounds_toArray, List.set_cons_zero, List.set_cons_succ]
      repeat (first | (refine lexG_take _ ?_ rfl rfl rfl rfl (fun _ => ?_) ?_; rotate_left; (focus (go_simp; with_reducible rfl)); try simp only [Act.put, List.setIfInBounds_toArray, List.set_cons_zero, List.set_cons_succ]) | (refine lexG_held _ ?_ rfl rfl rfl rfl (by assumption) (fun _ hSw => ?_) ?_; rotate_left; (focus (have h1 := (hr_w6.below hSw hr_w6.lt).val5; have h2 := (hx6.below hSw hx6.lt).val5; clear hSw; go_simp; with_reducible rfl)); try simp only [Act.put, List.setIfInBounds_toArray, List.set_cons_zero, List.set_cons_succ]) | (refine lexG_skip _ rfl rfl (by assumption) ?_; try simp only [Act.put, List.setIfInBounds_toArray, List.set_cons_zero, List.set_cons_succ]))
      refine lexG_nil ?_
      replace lb_w6 := below_then hb69 lb_w6
      clear hb7 hv7 hb67 hb8 hv8 hb68 hb9 hb69 hr_w6 hx6 hS0 hs6
      have hri := rises_walk how s n w9
      replace hri := Lib.hid hri
      replace lb_w6 := Lib.hid lb_w6
      go_upto_region 8 with (fail)
      go_wp2_with fail
      refine hri.out.mono ?_
      clear hri
      rintro e' v7 ⟨p', q', r', rfl, B3, hb7, -, -, -⟩
      try dsimp only
      have hrr := run_rises B3 hh hs
      unfold fv at hrr ⊢
      replace hrr := Lib.hid hrr
      go_wp2_with fail
      refine hrr.out.mono ?_
      clear hrr
      rintro e' v8 ⟨rfl, hb8⟩
      unfold z5
      try dsimp only
      have lb8 := below_then hb8 (below_then hb7 lb_w6.out)
      clear hb7 hb8 lb_w6 B3
      have hz_v9 := Blk.new v8 31 #[.int .i64 0, .int .i64 0, .float .f64 0, .string ⟨#[]⟩, .slice none 0 0]
      have hr_v9 := hz_v9.row (#[.int .i64 0, .int .i64 0, .float .f64 0, .string ⟨#[]⟩, .slice none 0 0])
      have hc_v9 : Below v8.heap.size v8 ((v8.alloc (.cells #[.int .i64 0, .int .i64 0, .float .f64 0, .string ⟨#[]⟩, .slice none 0 0] 31)).setRow v8.heap.size #[.int .i64 0, .int .i64 0, .float .f64 0, .string ⟨#[]⟩, .slice none 0 0]) := ((Below.refl v8.heap.size v8).alloc (Nat.le_refl _) _).trans (((Upd.refl (fun y => y = v8.heap.size) _).setRow (fun _ => rfl) _).below (by simp) (fun k hk e => by omega))
      obtain ⟨v9, h_v9⟩ : ∃ q, q = (v8.alloc (.cells #[.int .i64 0, .int .i64 0, .float .f64 0, .string ⟨#[]⟩, .slice none 0 0] 31)).setRow v8.heap.size #[.int .i64 0, .int .i64 0, .float .f64 0, .string ⟨#[]⟩, .slice none 0 0] := ⟨_, rfl⟩
      rw [← h_v9] at hr_v9 hc_v9
      replace h_v9 := Lib.hid h_v9
      have lb_v9 := below_then hc_v9 lb8
      go_upto_region 9 with (refine store_row_gen rfl 31 _ _ rfl v8.heap.size #[.int .i64 0, .int .i64 0, .float .f64 0, .string ⟨#[]⟩, .slice none 0 0] rfl rfl 31 _ hz_v9 (by kernel_rfl) rfl (by simp [Value.oneCell']) (fun wI hwI => ?_); rw [hwI, ← h_v9.out]; clear hwI hz_v9)
      try dsimp only [Act.put]
      obtain ⟨g9, hg_g9⟩ : ∃ y, v8.heap.size = y := ⟨_, rfl⟩
      rw [hg_g9] at hr_v9 ⊢
      clear h_v9 hg_g9
      have hrn := run_nil v9
      replace hrn := Lib.hid hrn
      go_wp2_with fail
      refine hrn.out.mono ?_
      clear hrn
      rintro e' v10 ⟨rfl, hb10⟩
      unfold z5
      try dsimp only
      have hx10 := hr_v9.below hb10 hr_v9.lt
      have lb10 := below_then hb10 lb_v9
      clear hb10 lb_v9 hr_v9 hc_v9 lb8
      have hz_v11 := Blk.new v10 31 #[.int .i64 0, .int .i64 0, .float .f64 0, .string ⟨#[]⟩, .slice none 0 0]
      have hr_v11 := hz_v11.row (#[.int .i64 0, .int .i64 0, .float .f64 0, .string ⟨#[]⟩, .slice none 0 0])
      have hc_v11 : Below v10.heap.size v10 ((v10.alloc (.cells #[.int .i64 0, .int .i64 0, .float .f64 0, .string ⟨#[]⟩, .slice none 0 0] 31)).setRow v10.heap.size #[.int .i64 0, .int .i64 0, .float .f64 0, .string ⟨#[]⟩, .slice none 0 0]) := ((Below.refl v10.heap.size v10).alloc (Nat.le_refl _) _).trans (((Upd.refl (fun y => y = v10.heap.size) _).setRow (fun _ => rfl) _).below (by simp) (fun k hk e => by omega))
      obtain ⟨v11, h_v11⟩ : ∃ q, q = (v10.alloc (.cells #[.int .i64 0, .int .i64 0, .float .f64 0, .string ⟨#[]⟩, .slice none 0 0] 31)).setRow v10.heap.size #[.int .i64 0, .int .i64 0, .float .f64 0, .string ⟨#[]⟩, .slice none 0 0] := ⟨_, rfl⟩
      rw [← h_v11] at hr_v11 hc_v11
      replace h_v11 := Lib.hid h_v11
      have lb_v11 := below_then hc_v11 lb10
      have hx11 := hx10.below hc_v11 hx10.lt
      go_upto_region 10 with (refine store_row_gen rfl 31 _ _ rfl v10.heap.size #[.int .i64 0, .int .i64 0, .float .f64 0, .string ⟨#[]⟩, .slice none 0 0] rfl rfl 31 _ hz_v11 (by kernel_rfl) rfl (by simp [Value.oneCell']) (fun wI hwI => ?_); rw [hwI, ← h_v11.out]; clear hwI hz_v11)
      try dsimp only [Act.put]
      obtain ⟨g11, hg_g11⟩ : ∃ y, v10.heap.size = y := ⟨_, rfl⟩
      rw [hg_g11] at hr_v11 ⊢
      clear h_v11 hg_g11
      obtain ⟨a0, a1, a2, a3, a4⟩ := hx11.val5
      have hsm := same_zero v11
      replace hsm := Lib.hid hsm
      clear lb10 hc_v11 hx10
      go_wp2_with fail
      refine hsm.out.mono ?_
      clear hsm
      rintro e' v12 ⟨rfl, hb12⟩
      try dsimp only
      obtain ⟨b0, b1, b2, b3, b4⟩ := (hr_v11.below hb12 hr_v11.lt).val5
      clear a0 a1 a2 a3 a4
      have hsm := same_zero v12
      replace hsm := Lib.hid hsm
      go_wp2_with fail
      refine hsm.out.mono ?_
      clear hsm
      rintro e' v13 ⟨rfl, hb13⟩
      try dsimp only
      have lb13 := below_then hb13 (below_then hb12 lb_v11)
      clear b0 b1 b2 b3 b4 hb12 hb13
      go_wp2_with fail
      go_ret
      exact ⟨rfl, lb13⟩
    · have hne1 : (e == 0) = false := by rw [beq_eq_false_iff_ne]; omega
      have hne2 : decide (e = 0) = false := decide_eq_false (by omega)
      have hne3 : decide (e ≠ 0) = true := decide_eq_true (by omega)
      have hne4 : (e != 0) = true := by rw [bne_iff_ne]; omega
      have hne5 : e ≠ 0 := he0
      have hto := told_mk k i f s0 A n0 c0 e w3
      unfold v5 at hto
      replace hto := Lib.hid hto
      go_upto_region 5 with (fail)
      go_wp2_with fail
      refine hto.out.mono ?_
      clear hto
      rintro e' w4 ⟨p, q, rfl, B2, hb4, -, -⟩
      try dsimp only
      have hru := run_told B2
      rw [if_neg he0] at hru
      unfold z5 fv at hru
      unfold fv
      replace hru := Lib.hid hru
      go_wp2_with fail
      refine hru.out.mono ?_
      clear hru
      rintro e' w5 ⟨rfl, hb5⟩
      try dsimp only
      have hb35 := below_then hb5 hb4
      have hx5 := hx3.below hb35 hx3.lt
      have lb5 := below_then hb35 lb3
      clear B2 hb4 hb5 hb35 m0 m1 m2 m3 m4
      have hz_w6 := Blk.new w5 31 #[.int .i64 0, .int .i64 0, .float .f64 0, .string ⟨#[]⟩, .slice none 0 0]
      have hr_w6 := hz_w6.row (#[.int .i64 0, .int .i64 0, .float .f64 0, .string ⟨#[]⟩, .slice none 0 0])
      have hc_w6 : Below w5.heap.size w5 ((w5.alloc (.cells #[.int .i64 0, .int .i64 0, .float .f64 0, .string ⟨#[]⟩, .slice none 0 0] 31)).setRow w5.heap.size #[.int .i64 0, .int .i64 0, .float .f64 0, .string ⟨#[]⟩, .slice none 0 0]) := ((Below.refl w5.heap.size w5).alloc (Nat.le_refl _) _).trans (((Upd.refl (fun y => y = w5.heap.size) _).setRow (fun _ => rfl) _).below (by simp) (fun k hk e => by omega))
      obtain ⟨w6, h_w6⟩ : ∃ q, q = (w5.alloc (.cells #[.int .i64 0, .int .i64 0, .float .f64 0, .string ⟨#[]⟩, .slice none 0 0] 31)).setRow w5.heap.size #[.int .i64 0, .int .i64 0, .float .f64 0, .string ⟨#[]⟩, .slice none 0 0] := ⟨_, rfl⟩
      rw [← h_w6] at hr_w6 hc_w6
      replace h_w6 := Lib.hid h_w6
      have lb_w6 := below_then hc_w6 lb5
      have hx6 := hx5.below hc_w6 hx5.lt
      go_upto_region 6 with (refine store_row_gen rfl 31 _ _ rfl w5.heap.size #[.int .i64 0, .int .i64 0, .float .f64 0, .string ⟨#[]⟩, .slice none 0 0] rfl rfl 31 _ hz_w6 (by kernel_rfl) rfl (by simp [Value.oneCell']) (fun wI hwI => ?_); rw [hwI, ← h_w6.out]; clear hwI hz_w6)
      try dsimp only [Act.put]
      obtain ⟨g6, hg_g6⟩ : ∃ y, w5.heap.size = y := ⟨_, rfl⟩
      rw [hg_g6] at hr_w6 ⊢
      clear h_w6 hg_g6
      have hs6 := lb_w6.size
      clear hc_w6 lb5 hx5
      have hS0 : Below w6.heap.size w6 w6.drew := (Below.refl _ _).drew
      refine wp_region_lex (fun W => Below w6.heap.size w6 W) [8, 10, 20] [9, 11, 12, 22] [0, 1, 2, 3, 4, 5, 6, 7, 8, 10, 9, 11, 12, 13, 14, 15, 16, 17, 18, 19, 20, 21, 22, 23, 24, 25] (by kernel_rfl) rfl (by kernel_rfl) (by kernel_rfl) (fun _ _ d _ _ h => by cases d <;> exact h) ?_
      repeat (first | (refine lexG_take _ ?_ rfl rfl rfl rfl (fun _ => ?_) ?_; rotate_left; (focus (go_simp; with_reducible rfl)); try simp only [Act.put, List.setIfInBounds_toArray, List.set_cons_zero, List.set_cons_succ]) | (refine lexG_held _ ?_ rfl rfl rfl rfl (by assumption) (fun _ hSw => ?_) ?_; rotate_left; (focus (have h1 := (hr_w6.below hSw hr_w6.lt).val5; have h2 := (hx6.below hSw hx6.lt).val5; clear hSw; go_simp; with_reducible rfl)); try simp only [Act.put, List.setIfInBounds_toArray, List.set_cons_zero, List.set_cons_succ]) | (refine lexG_skip _ rfl rfl (by assumption) ?_; try simp only [Act.put, List.setIfInBounds_toArray, List.set_cons_zero, List.set_cons_succ]))
      refine lexG_now _ rfl rfl rfl (fun K0 hK => ?_)
      go_wp2_with fail
      refine (same_zero _).mono ?_
      rintro e' w9 ⟨rfl, hb9⟩
      try dsimp only
      have hb69 := below_then hb9 hS0
      refine hK _ _ _ (fun _ h => h) hb69 ?_
      clear hK K0
      try simp only [Act.put, List.setIfInBounds_toArray, List.set_cons_zero, List.set_cons_succ]
      repeat (first | (refine lexG_take _ ?_ rfl rfl rfl rfl (fun _ => ?_) ?_; rotate_left; (focus (go_simp; with_reducible rfl)); try simp only [Act.put, List.setIfInBounds_toArray, List.set_cons_zero, List.set_cons_succ]) | (refine lexG_held _ ?_ rfl rfl rfl rfl (by assumption) (fun _ hSw => ?_) ?_; rotate_left; (focus (have h1 := (hr_w6.below hSw hr_w6.lt).val5; have h2 := (hx6.below hSw hx6.lt).val5; clear hSw; go_simp; with_reducible rfl)); try simp only [Act.put, List.setIfInBounds_toArray, List.set_cons_zero, List.set_cons_succ]) | (refine lexG_skip _ rfl rfl (by assumption) ?_; try simp only [Act.put, List.setIfInBounds_toArray, List.set_cons_zero, List.set_cons_succ]))
      refine lexG_nil ?_
      replace lb_w6 := below_then hb69 lb_w6
      clear hb9 hb69 hr_w6 hx6 hS0 hs6
      have hri := rises_walk how s n w9
      replace hri := Lib.hid hri
      replace lb_w6 := Lib.hid lb_w6
      go_upto_region 8 with (fail)
      go_wp2_with fail
      refine hri.out.mono ?_
      clear hri
      rintro e' v7 ⟨p', q', r', rfl, B3, hb7, -, -, -⟩
      try dsimp only
      have hrr := run_rises B3 hh hs
      unfold fv at hrr ⊢
      replace hrr := Lib.hid hrr
      go_wp2_with fail
      refine hrr.out.mono ?_
      clear hrr
      rintro e' v8 ⟨rfl, hb8⟩
      unfold z5
      try dsimp only
      have lb8 := below_then hb8 (below_then hb7 lb_w6.out)
      clear hb7 hb8 lb_w6 B3
      have hz_v9 := Blk.new v8 31 #[.int .i64 0, .int .i64 0, .float .f64 0, .string ⟨#[]⟩, .slice none 0 0]
      have hr_v9 := hz_v9.row (#[.int .i64 0, .int .i64 0, .float .f64 0, .string ⟨#[]⟩, .slice none 0 0])
      have hc_v9 : Below v8.heap.size v8 ((v8.alloc (.cells #[.int .i64 0, .int .i64 0, .float .f64 0, .string ⟨#[]⟩, .slice none 0 0] 31)).setRow v8.heap.size #[.int .i64 0, .int .i64 0, .float .f64 0, .string ⟨#[]⟩, .slice none 0 0]) := ((Below.refl v8.heap.size v8).alloc (Nat.le_refl _) _).trans (((Upd.refl (fun y => y = v8.heap.size) _).setRow (fun _ => rfl) _).below (by simp) (fun k hk e => by omega))
      obtain ⟨v9, h_v9⟩ : ∃ q, q = (v8.alloc (.cells #[.int .i64 0, .int .i64 0, .float .f64 0, .string ⟨#[]⟩, .slice none 0 0] 31)).setRow v8.heap.size #[.int .i64 0, .int .i64 0, .float .f64 0, .string ⟨#[]⟩, .slice none 0 0] := ⟨_, rfl⟩
      rw [← h_v9] at hr_v9 hc_v9
      replace h_v9 := Lib.hid h_v9
      have lb_v9 := below_then hc_v9 lb8
      go_upto_region 9 with (refine store_row_gen rfl 31 _ _ rfl v8.heap.size #[.int .i64 0, .int .i64 0, .float .f64 0, .string ⟨#[]⟩, .slice none 0 0] rfl rfl 31 _ hz_v9 (by kernel_rfl) rfl (by simp [Value.oneCell']) (fun wI hwI => ?_); rw [hwI, ← h_v9.out]; clear hwI hz_v9)
      try dsimp only [Act.put]
      obtain ⟨g9, hg_g9⟩ : ∃ y, v8.heap.size = y := ⟨_, rfl⟩
      rw [hg_g9] at hr_v9 ⊢
      clear h_v9 hg_g9
      have hrn := run_nil v9
      replace hrn := Lib.hid hrn
      go_wp2_with fail
      refine hrn.out.mono ?_
      clear hrn
      rintro e' v10 ⟨rfl, hb10⟩
      unfold z5
      try dsimp only
      have hx10 := hr_v9.below hb10 hr_v9.lt
      have lb10 := below_then hb10 lb_v9
      clear hb10 lb_v9 hr_v9 hc_v9 lb8
      have hz_v11 := Blk.new v10 31 #[.int .i64 0, .int .i64 0, .float .f64 0, .string ⟨#[]⟩, .slice none 0 0]
      have hr_v11 := hz_v11.row (#[.int .i64 0, .int .i64 0, .float .f64 0, .string ⟨#[]⟩, .slice none 0 0])
      have hc_v11 : Below v10.heap.size v10 ((v10.alloc (.cells #[.int .i64 0, .int .i64 0, .float .f64 0, .string ⟨#[]⟩, .slice none 0 0] 31)).setRow v10.heap.size #[.int .i64 0, .int .i64 0, .float .f64 0, .string ⟨#[]⟩, .slice none 0 0]) := ((Below.refl v10.heap.size v10).alloc (Nat.le_refl _) _).trans (((Upd.refl (fun y => y = v10.heap.size) _).setRow (fun _ => rfl) _).below (by simp) (fun k hk e => by omega))
      obtain ⟨v11, h_v11⟩ : ∃ q, q = (v10.alloc (.cells #[.int .i64 0, .int .i64 0, .float .f64 0, .string ⟨#[]⟩, .slice none 0 0] 31)).setRow v10.heap.size #[.int .i64 0, .int .i64 0, .float .f64 0, .string ⟨#[]⟩, .slice none 0 0] := ⟨_, rfl⟩
      rw [← h_v11] at hr_v11 hc_v11
      replace h_v11 := Lib.hid h_v11
      have lb_v11 := below_then hc_v11 lb10
      have hx11 := hx10.below hc_v11 hx10.lt
      go_upto_region 10 with (refine store_row_gen rfl 31 _ _ rfl v10.heap.size #[.int .i64 0, .int .i64 0, .float .f64 0, .string ⟨#[]⟩, .slice none 0 0] rfl rfl 31 _ hz_v11 (by kernel_rfl) rfl (by simp [Value.oneCell']) (fun wI hwI => ?_); rw [hwI, ← h_v11.out]; clear hwI hz_v11)
      try dsimp only [Act.put]
      obtain ⟨g11, hg_g11⟩ : ∃ y, v10.heap.size = y := ⟨_, rfl⟩
      rw [hg_g11] at hr_v11 ⊢
      clear h_v11 hg_g11
      obtain ⟨a0, a1, a2, a3, a4⟩ := hx11.val5
      have hsm := same_zero v11
      replace hsm := Lib.hid hsm
      clear lb10 hc_v11 hx10
      go_wp2_with fail
      refine hsm.out.mono ?_
      clear hsm
      rintro e' v12 ⟨rfl, hb12⟩
      try dsimp only
      obtain ⟨b0, b1, b2, b3, b4⟩ := (hr_v11.below hb12 hr_v11.lt).val5
      clear a0 a1 a2 a3 a4
      have hsm := same_zero v12
      replace hsm := Lib.hid hsm
      go_wp2_with fail
      refine hsm.out.mono ?_
      clear hsm
      rintro e' v13 ⟨rfl, hb13⟩
      try dsimp only
      have lb13 := below_then hb13 (below_then hb12 lb_v11)
      clear b0 b1 b2 b3 b4 hb12 hb13
      go_wp2_with fail
      go_ret
      exact ⟨rfl, lb13⟩
theorem u8_of {x : Int} (h : (Lit.int .u8 x).wf = true) : ∃ n : Nat, x = (n : Int) ∧ n ≤ 255 := by
  simp [Lit.wf, IntKind.min, IntKind.max, IntKind.signed, IntKind.bits] at h
  exact ⟨x.toNat, by omega, by omega⟩
theorem u16_of {x : Int} (h : (Lit.int .u16 x).wf = true) : 0 ≤ x ∧ x ≤ 65535 := by
  simp [Lit.wf, IntKind.min, IntKind.max, IntKind.signed, IntKind.bits] at h
  omega
theorem guardRuns_int {x : Val} {ca : Array Value} (e h : Int) (t : List UInt8) (n : Int) (w : World) (hv : VReads w w.heap.size x ca) (hok : OkV x) (we : (Lit.int .u16 e).wf = true) (wh : (Lit.int .u8 h).wf = true) (ht : t.length ≤ 140737488351232) : Calls Tryd.prog 5 #[.agg ca, .int .u16 e, .int .u8 h, .string (bstr t), .int .i64 n] w (fun e w' => e = .returned (.bool true) ∧ Below w.heap.size w w') := by
  obtain ⟨how, rfl, hh⟩ := u8_of wh
  exact guardRuns_walk e how t n w hv hok (u16_of we) hh ht
end Go.Proofs.YtffpkencgbiafaaDoor
