/- WireBack's walk. -/
import Derived.Test.YtafogjonicdbmaaPvEnc
import Derived.Test.YtafogjonicdbmaaOpenVal
namespace Go.Proofs.Ytafogjonicdbmaa
open Go.RowKit

theorem sizeV_pos (v : Val) : 0 < sizeV v := by
  cases v with
  | mk k i f s l => unfold sizeV; repeat' split
                    all_goals omega

set_option maxHeartbeats 6400000 in
set_option maxRecDepth 100000 in
theorem wireBack_walk (D E : Option Addr) (cd ce : Nat) (b more : List UInt8) (v : Val) (cs : Array Value) (w : World) (hv : VReads w w.heap.size v cs) (hok : OkV v)
    (h : Reads w w.heap.size 1 D b.length (bys b)) (hc : b.length ≤ cd) (h2 : Reads w w.heap.size 1 E more.length (bys more)) (hl : b.length ≤ 140737488351232) (hl2 : more.length ≤ 140737488351232) :
    Calls Try.prog 3 #[.slice D b.length cd, .agg cs, .slice E more.length ce] w (SaysTrue w) := by
  obtain ⟨i0, hi, hz0, hz1, hz2⟩ := info_parts info_u8
  have hsf := fun a k x m w => run_store_float (P := Try.prog) a k x m w
  obtain ⟨k, i, f, s, A, n, c, hform⟩ := hv.form
  have hS := SV.alloc w (Below.refl _ _) k i f s A n c
  have hb0 := (Below.refl w.heap.size w).alloc (Nat.le_refl _) (.cells #[.int .i64 k, .int .i64 i, .float .f64 f, .string s, .slice A n c] 26)
  subst hform
  obtain ⟨B, hB⟩ : ∃ B, w.heap.size = B := ⟨_, rfl⟩
  rw [hB] at hv h h2
  replace hB := Lib.hid hB
  obtain ⟨N, hN⟩ : ∃ N, b.length = N := ⟨_, rfl⟩
  obtain ⟨M, hM⟩ : ∃ M, more.length = M := ⟨_, rfl⟩
  have hb' := h
  have hm' := h2
  rw [hN] at hb' hl hc ⊢
  rw [hM] at hm' hl2 ⊢
  replace hN := Lib.hid hN
  replace hM := Lib.hid hM
  replace hS := Lib.hid hS
  replace hb0 := Lib.hid hb0
  replace h := Lib.hid h
  replace h2 := Lib.hid h2
  replace hok := Lib.hid hok
  go_enter Try.func3, Try.ntmps3
  go_wp2_with fail
  refine (known_true _).mono ?_
  rintro e w1 ⟨rfl, hb1'⟩
  dsimp only
  have hb1 := below_then hb1' hb0.out
  have hS1 := hS.out.below hb1'
  clear hb1'
  obtain ⟨e0, e1, e2, e3, e4, e5, e6⟩ := id hS1
  go_wp2_with fail
  refine (light_any hv w1 (by rw [← hB.out]; exact hb1) (by rw [← hB.out]; exact hb1.size)).mono ?_
  rintro e w2 ⟨q, rfl, hb2'⟩
  dsimp only
  have hb2 := below_then hb2' hb1
  have hS2 := hS1.below hb2'
  clear e0 e1 e2 e3 e4 e5 e6 hS1 hb2' hb1
  obtain ⟨e0, e1, e2, e3, e4, e5, e6⟩ := id hS2
  cases q
  · go_wp2_with fail
    go_ret
    exact ⟨rfl, hb2⟩
  by_cases h100 : 100 < N
  · go_wp2_with fail
    go_ret
    exact ⟨rfl, hb2⟩
  by_cases h101 : 100 < M
  · go_wp2_with fail
    go_ret
    exact ⟨rfl, hb2⟩
  have hB2 : B ≤ w2.heap.size := by rw [← hB.out]; exact hb2.size
  have hbB : Below B w w2 := by rw [← hB.out]; exact hb2
  have hr2 := h.out.below hbB
  by_cases hck : checkV v = 0
  · have hput := wire_put_ok (c := cd) hv hok.out hck hbB hB2 hr2 hB2 (by rw [hN.out]; omega)
    obtain ⟨r, hr⟩ : ∃ r, b ++ encV v = r := ⟨_, rfl⟩
    rw [hr, hN.out] at hput
    obtain ⟨hst, hg8, hz⟩ := checkV_zero hck
    have hrl : r.length = N + sizeV v := by rw [← hr, List.length_append, encV_len, hN.out]
    replace hr := Lib.hid hr
    replace hrl := Lib.hid hrl
    go_wp2_with fail
    refine hput.mono ?_
    clear hput
    rintro e w3 ⟨A3, c3, rfl, ho3, hb3', hg3⟩
    dsimp only
    have hb3 := below_then hb3' hb2
    have hS3 := hS2.below hb3'
    have hB3 : B ≤ w3.heap.size := Nat.le_trans hB2 hb3'.size
    have hbB3 : Below B w w3 := by rw [← hB.out]; exact hb3
    have hr3 := h.out.below hbB3
    have hbge : ∀ g, bOf A3 = some g → w2.heap.size ≤ g := hg3
    clear e0 e1 e2 e3 e4 e5 e6 hS2
    have hrefput := fun w4 (hb4 : Below w3.heap.size w3 w4) => ref_put_ok (row := none) (c := b.length) hv hok.out hck (hbB3.trans (hb4.mono hB3)) (Nat.le_trans hB3 hb4.size) (Grows.full (hr3.below (hb4.mono hB3)) (Nat.le_trans hB3 hb4.size) (Nat.le_refl _)) (by simp) (by rw [hN.out]; omega)
    rw [hr.out, hN.out] at hrefput
    replace hrefput := Lib.hid hrefput
    have hS4 : w3.drew.cell? ⟨w.heap.size, 0, none⟩ = some (.int .i64 k) ∧ w3.drew.cell? ⟨w.heap.size, 1, none⟩ = some (.int .i64 i) ∧ w3.drew.cell? ⟨w.heap.size, 2, none⟩ = some (.float .f64 f) ∧ w3.drew.cell? ⟨w.heap.size, 3, none⟩ = some (.string s) ∧ w3.drew.cell? ⟨w.heap.size, 4, none⟩ = some (.slice A n c) ∧ Below w.heap.size w w3.drew ∧ w.heap.size < w3.drew.heap.size := hS3.drew
    go_wp2_with fail
    refine wp_region_lex (fun W => W.cell? ⟨w.heap.size, 0, none⟩ = some (.int .i64 k) ∧ W.cell? ⟨w.heap.size, 1, none⟩ = some (.int .i64 i) ∧ W.cell? ⟨w.heap.size, 2, none⟩ = some (.float .f64 f) ∧ W.cell? ⟨w.heap.size, 3, none⟩ = some (.string s) ∧ W.cell? ⟨w.heap.size, 4, none⟩ = some (.slice A n c) ∧ Below w.heap.size w W ∧ w.heap.size < W.heap.size) [6] [7] [0, 1, 2, 3, 4, 5, 6, 7, 8, 9, 10, 11, 12] (by kernel_rfl) rfl (by kernel_rfl) (by kernel_rfl) (fun _ _ d _ _ h => by cases d <;> exact h) ?_
    repeat (first | (refine lexG_take _ ?_ rfl rfl rfl rfl (fun _ => ?_) ?_; rotate_left; (focus (go_simp; with_reducible rfl)); try simp only [Act.put, List.setIfInBounds_toArray, List.set_cons_zero, List.set_cons_succ]) | (refine lexG_held _ ?_ rfl rfl rfl rfl (by assumption) (fun _ hSw => ?_) ?_; rotate_left; (focus ((try dsimp only at hSw); go_simp; with_reducible rfl)); try simp only [Act.put, List.setIfInBounds_toArray, List.set_cons_zero, List.set_cons_succ]) | (refine lexG_skip _ rfl rfl (by assumption) ?_; try simp only [Act.put, List.setIfInBounds_toArray, List.set_cons_zero, List.set_cons_succ]))
    refine lexG_now _ rfl rfl rfl (fun K hK => ?_)
    go_wp2_with fail
    refine (hrefput.out w3.drew ((Below.refl _ _).drew)).mono ?_
    clear hrefput
    rintro e w5 ⟨A5, c5, rfl, ho5, hu5, hf5⟩
    dsimp only
    have hb5' : Below w3.heap.size w3 w5 := below_of_drew (hu5.below (Nat.le_refl _) (fun k hk e => by cases e))
    have hS5 := hS3.below hb5'
    refine hK _ _ _ (fun _ h => h) hS5 ?_
    clear hK K hS4
    try simp only [Act.put, List.setIfInBounds_toArray, List.set_cons_zero, List.set_cons_succ]
    repeat (first | (refine lexG_take _ ?_ rfl rfl rfl rfl (fun _ => ?_) ?_; rotate_left; (focus (go_simp; with_reducible rfl)); try simp only [Act.put, List.setIfInBounds_toArray, List.set_cons_zero, List.set_cons_succ]) | (refine lexG_held _ ?_ rfl rfl rfl rfl (by assumption) (fun _ hSw => ?_) ?_; rotate_left; (focus ((try dsimp only at hSw); go_simp; with_reducible rfl)); try simp only [Act.put, List.setIfInBounds_toArray, List.set_cons_zero, List.set_cons_succ]) | (refine lexG_skip _ rfl rfl (by assumption) ?_; try simp only [Act.put, List.setIfInBounds_toArray, List.set_cons_zero, List.set_cons_succ]))
    refine lexG_nil ?_
    have ho3' := ho3.below hb5' (Nat.le_refl _)
    have hb5 := below_then hb5' hb3
    have hcv1 := conv_bytes (c := c3) ho3'.reads_
    have hcv2 := conv_bytes (c := c5) ho5.reads_
    have hb5s := hb5'.size
    clear ho5 hu5 hf5 hb3' hbB3 hr3 ho3 hS3
    have hvp := sizeV_pos v
    have hrl := hrl.out
    obtain ⟨ad3, hA3, -, -⟩ := ho3'.reads_.2 (by omega)
    subst hA3
    have hc3 := ho3'.le_cap
    have hne3 : ¬ c3 = N := by omega
    have hrN : N ≤ r.length := by omega
    have hcut := ho3'.reads_.cut (k := N) (cap := c3) hrN hc3
    rw [if_neg hne3, Nat.mul_one, bys_drop, Option.map_some] at hcut
    have hdrop : r.drop N = encV v := by rw [← hr.out, ← hN.out, List.drop_left]
    rw [hdrop] at hcut
    have hel := encV_len v
    have hrl2 : r.length - N = (encV v).length := by omega
    rw [hrl2] at hcut
    have hmS := (h2.out.below (show Below B w w5 by rw [← hB.out]; exact hb5)).more (Nat.le_trans hB3 hb5s)
    have hbB5 : Below B w w5 := by rw [← hB.out]; exact hb5
    obtain ⟨x, hx⟩ : ∃ x, encV v = x := ⟨_, rfl⟩
    rw [hx] at hcut hrl2 hel
    obtain ⟨L, hL⟩ : ∃ L, r.length = L := ⟨_, rfl⟩
    have hxl : x.length = L - N := by omega
    rw [hL] at ho3' hc3 hrN hcv1 hcv2 hrl ⊢
    obtain ⟨y, hy⟩ : ∃ y, x ++ more = y := ⟨_, rfl⟩
    have hpv : pv 8 y = some (cleanV v, sizeV v) := by rw [← hy, ← hx]; exact pv_enc v 8 more hok.out hst hg8
    have hyb : bys x ++ bys more = bys y := by rw [← hy, bys_append]
    have hyl : x.length + more.length = y.length := by rw [← hy, List.length_append]
    clear hy
    replace hyb := Lib.hid hyb
    replace hyl := Lib.hid hyl
    replace hx := Lib.hid hx
    replace hL := Lib.hid hL
    replace hxl := Lib.hid hxl
    replace hel := Lib.hid hel
    replace hrl2 := Lib.hid hrl2
    replace hpv := Lib.hid hpv
    replace hdrop := Lib.hid hdrop
    rw [hxl.out] at hcut
    have hLle : L ≤ 4200 := by omega
    have hLn : N < L := by omega
    replace hrl := Lib.hid hrl
    clear hrN
    go_wp2_with (at_builtin; go_must (refine wpList_append_mine rfl _ _ 22 22 rfl 5 i0 (.int .u8 0) 1 1 Try.underlying22 hi hz0 hz1 hz2 rfl rfl (Own.none_ (w := w5) (t := 5) (size := 1)) rfl (Src.ofReads Try.underlying22 _ hcut (bys_one _)) ?b1 ?b2 ?grow))
    case b1 => unfold maxLen; omega
    case b2 => omega
    case grow =>
      intro A6 c6 w6 ho6 hg6 hat6
      have hb6 : Below w5.heap.size w5 w6 := (Below.refl _ w5).grown hg6 (Nat.le_refl _) (fun k hk => by simp [bOf] at hk)
      have hm6 := (hmS.below hb6).more hb6.size
      rw [hM.out] at hm6
      have hxm := hyl.out
      rw [hxl.out, hM.out] at hxm
      replace hxm := Lib.hid hxm
      have hb6w := below_then hb6 hb5
      have hb6s := hb6.size
      have hat6' : ∀ g, bOf A6 = some g → w5.heap.size ≤ g := by
        intro g hg
        rcases hat6 with e | e
        · rw [e] at hg; simp [bOf] at hg
        · rw [e] at hg; cases hg; exact Nat.le_refl _
      clear hg6 hat6 hcut hmS ho3' hcv1 hcv2
      go_wp2_with (at_builtin; go_must (refine wpList_append_mine rfl _ _ 22 22 rfl 5 i0 (.int .u8 0) 1 1 Try.underlying22 hi hz0 hz1 hz2 rfl rfl ho6 rfl (Src.ofReads Try.underlying22 _ hm6 (bys_one _)) ?b1 ?b2 ?grow))
      case b1 => unfold maxLen; omega
      case b2 => omega
      case grow =>
        intro A7 c7 w7 ho7 hg7 hat7
        have hb7 : Below w.heap.size w w7 := hb6w.grown hg7 hb6w.size (fun k hk => Nat.le_trans hb5.size (hat6' k hk))
        rw [hyb.out, hxm.out] at ho7
        rw [hxm.out]
        have hb7' : Below w5.heap.size w5 w7 := hb6.grown hg7 hb6.size (fun k hk => hat6' k hk)
        have hb7s := hb7'.size
        clear hg7 hat7 hat6' ho6 hb6w hm6 hb6
        have hA7 := fun h => ho7.none_cap h
        have hc7 := ho7.le_cap
        have hrd := wire_read_all ho7.reads_ hA7 hc7 (by rw [← hxm.out]; omega) _ hpv.out (fun v' m' e => by cases e; exact hz)
        obtain ⟨Z, hZ⟩ : ∃ Z, sizeV v = Z := ⟨_, rfl⟩
        rw [hZ] at hrd
        go_wp2_with fail
        refine hrd.mono ?_
        clear hrd
        rintro e w8 ⟨cs7, rfl, hv8, hb8'⟩
        dsimp only
        obtain ⟨k7, i7, f7, s7, A9, n7, c9, hform⟩ := hv8.reads.form
        subst hform
        have hb8 := below_then hb8' hb7
        have hbox := Blk.new w8 26 #[.int .i64 k7, .int .i64 i7, .float .f64 f7, .string s7, .slice A9 n7 c9]
        have hS9 := ((hS5.below hb7').below hb8').below ((Below.refl _ w8).alloc (Nat.le_refl _) (.cells #[.int .i64 k7, .int .i64 i7, .float .f64 f7, .string s7, .slice A9 n7 c9] 26))
        have hv9 := hv8.upd ((Upd.refl (fun _ => False) w8).alloc (.cells #[.int .i64 k7, .int .i64 i7, .float .f64 f7, .string s7, .slice A9 n7 c9] 26)) (fun _ _ h => h)
        have hcmp : ((Z : Int) == (L : Int) - (N : Int)) = true := by rw [beq_iff_eq]; have := hrl.out; omega
        have hZw : IntKind.i64.wrap (sizeV v : Int) = (Z : Int) := by rw [hZ]; exact w64_id _ (by omega) (by omega)
        have hZZ : ((Z : Int) == (Z : Int)) = true := by simp
        replace hZw := Lib.hid hZw
        clear hv8 hb8' hb7' hb7 ho7 hA7 hc7 hS5
        go_wp2_with fail
        clear hcmp
        have hcmp : ((Z : Int) == (L : Int) - (N : Int)) = true := by rw [beq_iff_eq]; have := hrl.out; omega
        have hwsub : IntKind.i64.wrap ((L : Int) - (N : Int)) = (L : Int) - (N : Int) := w64_id _ (by omega) (by omega)
        have hlt8 : B ≤ w8.heap.size := by rw [← hB.out]; exact hb8.size
        generalize hw9 : w8.alloc (.cells #[.int .i64 k7, .int .i64 i7, .float .f64 f7, .string s7, .slice A9 n7 c9] 26) = w9 at *
        have hw9s : w9.heap.size = w8.heap.size + 1 := by rw [← hw9]; simp
        replace hw9 := Lib.hid hw9
        have hbw9 : Below B w w9 := by rw [← hB.out]; exact hS9.2.2.2.2.2.1
        have hS10 : (w9.drew.cell? ⟨w.heap.size, 0, none⟩ = some (.int .i64 k) ∧ w9.drew.cell? ⟨w.heap.size, 1, none⟩ = some (.int .i64 i) ∧ w9.drew.cell? ⟨w.heap.size, 2, none⟩ = some (.float .f64 f) ∧ w9.drew.cell? ⟨w.heap.size, 3, none⟩ = some (.string s) ∧ w9.drew.cell? ⟨w.heap.size, 4, none⟩ = some (.slice A n c)) ∧ (w9.drew.cell? ⟨w8.heap.size, 0, none⟩ = some (.int .i64 k7) ∧ w9.drew.cell? ⟨w8.heap.size, 1, none⟩ = some (.int .i64 i7) ∧ w9.drew.cell? ⟨w8.heap.size, 2, none⟩ = some (.float .f64 f7) ∧ w9.drew.cell? ⟨w8.heap.size, 3, none⟩ = some (.string s7) ∧ w9.drew.cell? ⟨w8.heap.size, 4, none⟩ = some (.slice A9 n7 c9)) ∧ Below w9.heap.size w9 w9.drew := ⟨⟨hS9.1, hS9.2.1, hS9.2.2.1, hS9.2.2.2.1, hS9.2.2.2.2.1⟩, ⟨hbox.cell 0, hbox.cell 1, hbox.cell 2, hbox.cell 3, hbox.cell 4⟩, (Below.refl _ _).drew⟩
        refine wp_region_lex (fun W => (W.cell? ⟨w.heap.size, 0, none⟩ = some (.int .i64 k) ∧ W.cell? ⟨w.heap.size, 1, none⟩ = some (.int .i64 i) ∧ W.cell? ⟨w.heap.size, 2, none⟩ = some (.float .f64 f) ∧ W.cell? ⟨w.heap.size, 3, none⟩ = some (.string s) ∧ W.cell? ⟨w.heap.size, 4, none⟩ = some (.slice A n c)) ∧ (W.cell? ⟨w8.heap.size, 0, none⟩ = some (.int .i64 k7) ∧ W.cell? ⟨w8.heap.size, 1, none⟩ = some (.int .i64 i7) ∧ W.cell? ⟨w8.heap.size, 2, none⟩ = some (.float .f64 f7) ∧ W.cell? ⟨w8.heap.size, 3, none⟩ = some (.string s7) ∧ W.cell? ⟨w8.heap.size, 4, none⟩ = some (.slice A9 n7 c9)) ∧ Below w9.heap.size w9 W) [13, 18, 19] [14, 20, 21] [0, 1, 2, 3, 4, 5, 6, 7, 8, 9, 10, 11, 12, 13, 14, 15, 16, 17, 18, 19, 20, 21, 22, 23] (by kernel_rfl) rfl (by kernel_rfl) (by kernel_rfl) (fun _ _ d _ _ h => by cases d <;> exact h) ?_
        repeat (first | (refine lexG_take _ ?_ rfl rfl rfl rfl (fun _ => ?_) ?_; rotate_left; (focus (go_simp; with_reducible rfl)); try simp only [Act.put, List.setIfInBounds_toArray, List.set_cons_zero, List.set_cons_succ]) | (refine lexG_held _ ?_ rfl rfl rfl rfl (by assumption) (fun _ hSw => ?_) ?_; rotate_left; (focus ((try dsimp only at hSw); go_simp; with_reducible rfl)); try simp only [Act.put, List.setIfInBounds_toArray, List.set_cons_zero, List.set_cons_succ]) | (refine lexG_skip _ rfl rfl (by assumption) ?_; try simp only [Act.put, List.setIfInBounds_toArray, List.set_cons_zero, List.set_cons_succ]))
        refine lexG_now _ rfl rfl rfl (fun K hK => ?_)
        go_wp2_with fail
        refine (ref_size hv w9.drew hbw9.drew (by show B ≤ w9.heap.size; omega)).mono ?_
        rintro e w10 ⟨rfl, hb10⟩
        rw [hZw.out]
        dsimp only
        obtain ⟨⟨e0, e1, e2, e3, e4⟩, ⟨g0, g1, g2, g3, g4⟩, hb910⟩ := hS10
        have hb10' := below_then hb10 hb910
        have hS11 : (w10.cell? ⟨w.heap.size, 0, none⟩ = some (.int .i64 k) ∧ w10.cell? ⟨w.heap.size, 1, none⟩ = some (.int .i64 i) ∧ w10.cell? ⟨w.heap.size, 2, none⟩ = some (.float .f64 f) ∧ w10.cell? ⟨w.heap.size, 3, none⟩ = some (.string s) ∧ w10.cell? ⟨w.heap.size, 4, none⟩ = some (.slice A n c)) ∧ (w10.cell? ⟨w8.heap.size, 0, none⟩ = some (.int .i64 k7) ∧ w10.cell? ⟨w8.heap.size, 1, none⟩ = some (.int .i64 i7) ∧ w10.cell? ⟨w8.heap.size, 2, none⟩ = some (.float .f64 f7) ∧ w10.cell? ⟨w8.heap.size, 3, none⟩ = some (.string s7) ∧ w10.cell? ⟨w8.heap.size, 4, none⟩ = some (.slice A9 n7 c9)) ∧ Below w9.heap.size w9 w10 := ⟨⟨cell_keep hb10 e0, cell_keep hb10 e1, cell_keep hb10 e2, cell_keep hb10 e3, cell_keep hb10 e4⟩, ⟨cell_keep hb10 g0, cell_keep hb10 g1, cell_keep hb10 g2, cell_keep hb10 g3, cell_keep hb10 g4⟩, hb10'⟩
        refine hK _ _ _ (fun _ h => h) hS11 ?_
        clear hK K e0 e1 e2 e3 e4 g0 g1 g2 g3 g4 hb910 hb10
        try simp only [Act.put, List.setIfInBounds_toArray, List.set_cons_zero, List.set_cons_succ]
        repeat (first | (refine lexG_take _ ?_ rfl rfl rfl rfl (fun _ => ?_) ?_; rotate_left; (focus (go_simp; with_reducible rfl)); try simp only [Act.put, List.setIfInBounds_toArray, List.set_cons_zero, List.set_cons_succ]) | (refine lexG_held _ ?_ rfl rfl rfl rfl (by assumption) (fun _ hSw => ?_) ?_; rotate_left; (focus ((try dsimp only at hSw); go_simp; with_reducible rfl)); try simp only [Act.put, List.setIfInBounds_toArray, List.set_cons_zero, List.set_cons_succ]) | (refine lexG_skip _ rfl rfl (by assumption) ?_; try simp only [Act.put, List.setIfInBounds_toArray, List.set_cons_zero, List.set_cons_succ]))
        refine lexG_now _ rfl rfl rfl (fun K hK => ?_)
        go_wp2_with fail
        have hbw10 : Below B w w10 := hbw9.trans (hb10'.mono (by omega))
        refine (ref_clean hv 8 w10 hg8 hbw10 (by have := hb10'.size; omega)).mono ?_
        rintro e w11 ⟨cs11, rfl, hv11, hb11⟩
        dsimp only
        obtain ⟨⟨e0, e1, e2, e3, e4⟩, ⟨g0, g1, g2, g3, g4⟩, hb910⟩ := hS11
        have hb11' := below_then hb11 hb910
        refine hK _ _ _ (fun _ h => h) ⟨⟨cell_keep hb11 e0, cell_keep hb11 e1, cell_keep hb11 e2, cell_keep hb11 e3, cell_keep hb11 e4⟩, ⟨cell_keep hb11 g0, cell_keep hb11 g1, cell_keep hb11 g2, cell_keep hb11 g3, cell_keep hb11 g4⟩, hb11'⟩ ?_
        clear hK K
        try simp only [Act.put, List.setIfInBounds_toArray, List.set_cons_zero, List.set_cons_succ]
        repeat (first | (refine lexG_take _ ?_ rfl rfl rfl rfl (fun _ => ?_) ?_; rotate_left; (focus (go_simp; with_reducible rfl)); try simp only [Act.put, List.setIfInBounds_toArray, List.set_cons_zero, List.set_cons_succ]) | (refine lexG_held _ ?_ rfl rfl rfl rfl (by assumption) (fun _ hSw => ?_) ?_; rotate_left; (focus ((try dsimp only at hSw); go_simp; with_reducible rfl)); try simp only [Act.put, List.setIfInBounds_toArray, List.set_cons_zero, List.set_cons_succ]) | (refine lexG_skip _ rfl rfl (by assumption) ?_; try simp only [Act.put, List.setIfInBounds_toArray, List.set_cons_zero, List.set_cons_succ]))
        refine lexG_now _ rfl rfl rfl (fun K hK => ?_)
        go_wp2_with fail
        have hva := (hv9.upd (Upd.of_below_size (S := fun _ => False) hb11') (fun _ _ h => h)).reads
        refine (same_true hva cs11 w11 hv11.reads (Below.refl _ _) (Nat.le_refl _)).mono ?_
        rintro e w12 ⟨rfl, hb12⟩
        dsimp only
        have hb12' := below_then hb12 hb11'
        refine hK _ _ _ (fun _ h => h) ⟨⟨cell_keep hb12 (cell_keep hb11 e0), cell_keep hb12 (cell_keep hb11 e1), cell_keep hb12 (cell_keep hb11 e2), cell_keep hb12 (cell_keep hb11 e3), cell_keep hb12 (cell_keep hb11 e4)⟩, ⟨cell_keep hb12 (cell_keep hb11 g0), cell_keep hb12 (cell_keep hb11 g1), cell_keep hb12 (cell_keep hb11 g2), cell_keep hb12 (cell_keep hb11 g3), cell_keep hb12 (cell_keep hb11 g4)⟩, hb12'⟩ ?_
        clear hK K
        try simp only [Act.put, List.setIfInBounds_toArray, List.set_cons_zero, List.set_cons_succ]
        repeat (first | (refine lexG_take _ ?_ rfl rfl rfl rfl (fun _ => ?_) ?_; rotate_left; (focus (go_simp; with_reducible rfl)); try simp only [Act.put, List.setIfInBounds_toArray, List.set_cons_zero, List.set_cons_succ]) | (refine lexG_held _ ?_ rfl rfl rfl rfl (by assumption) (fun _ hSw => ?_) ?_; rotate_left; (focus ((try dsimp only at hSw); go_simp; with_reducible rfl)); try simp only [Act.put, List.setIfInBounds_toArray, List.set_cons_zero, List.set_cons_succ]) | (refine lexG_skip _ rfl rfl (by assumption) ?_; try simp only [Act.put, List.setIfInBounds_toArray, List.set_cons_zero, List.set_cons_succ]))
        refine lexG_nil ?_
        have hfin := below_then hb12' hS9.2.2.2.2.2.1
        go_wp2_with fail
        go_ret
        exact ⟨rfl, hfin⟩
  · have hput := wire_put_no (A := D) (m := N) (c := cd) hv hck hbB hB2
    have hrefput := fun w4 (hb4 : Below w2.heap.size w2 w4) => ref_put_no (A := D) (m := N) (c := N) hv hck (hbB.trans (hb4.mono hB2)) (Nat.le_trans hB2 hb4.size)
    have hne : ((checkV v : Int) != 0) = true := by rw [bne_iff_ne]; omega
    have heq : ((checkV v : Int) != (checkV v : Int)) = false := by simp
    generalize checkV v = x at *
    have hcv1 := fun w5 => conv_bytes (w := w5) (B := 0) (n := 0) (c := 0) (A := none) (bs := []) Reads.none_
    replace hrefput := Lib.hid hrefput
    clear hck
    go_wp2_with fail
    refine hput.mono ?_
    clear hput
    rintro e w3 ⟨rfl, hb3'⟩
    dsimp only
    have hS3 := hS2.below hb3'
    have hS4 : w3.drew.cell? ⟨w.heap.size, 0, none⟩ = some (.int .i64 k) ∧ w3.drew.cell? ⟨w.heap.size, 1, none⟩ = some (.int .i64 i) ∧ w3.drew.cell? ⟨w.heap.size, 2, none⟩ = some (.float .f64 f) ∧ w3.drew.cell? ⟨w.heap.size, 3, none⟩ = some (.string s) ∧ w3.drew.cell? ⟨w.heap.size, 4, none⟩ = some (.slice A n c) ∧ Below w.heap.size w w3.drew ∧ w.heap.size < w3.drew.heap.size := hS3.drew
    clear e0 e1 e2 e3 e4 e5 e6
    go_wp2_with fail
    refine wp_region_lex (fun W => W.cell? ⟨w.heap.size, 0, none⟩ = some (.int .i64 k) ∧ W.cell? ⟨w.heap.size, 1, none⟩ = some (.int .i64 i) ∧ W.cell? ⟨w.heap.size, 2, none⟩ = some (.float .f64 f) ∧ W.cell? ⟨w.heap.size, 3, none⟩ = some (.string s) ∧ W.cell? ⟨w.heap.size, 4, none⟩ = some (.slice A n c) ∧ Below w.heap.size w W ∧ w.heap.size < W.heap.size) [6] [7] [0, 1, 2, 3, 4, 5, 6, 7, 8, 9, 10, 11, 12] (by kernel_rfl) rfl (by kernel_rfl) (by kernel_rfl) (fun _ _ d _ _ h => by cases d <;> exact h) ?_
    repeat (first | (refine lexG_take _ ?_ rfl rfl rfl rfl (fun _ => ?_) ?_; rotate_left; (focus (go_simp; with_reducible rfl)); try simp only [Act.put, List.setIfInBounds_toArray, List.set_cons_zero, List.set_cons_succ]) | (refine lexG_held _ ?_ rfl rfl rfl rfl (by assumption) (fun _ hSw => ?_) ?_; rotate_left; (focus ((try dsimp only at hSw); go_simp; with_reducible rfl)); try simp only [Act.put, List.setIfInBounds_toArray, List.set_cons_zero, List.set_cons_succ]) | (refine lexG_skip _ rfl rfl (by assumption) ?_; try simp only [Act.put, List.setIfInBounds_toArray, List.set_cons_zero, List.set_cons_succ]))
    refine lexG_now _ rfl rfl rfl (fun K hK => ?_)
    go_wp2_with fail
    refine (hrefput.out w3.drew hb3'.drew).mono ?_
    clear hrefput
    rintro e w5 ⟨rfl, hb5'⟩
    dsimp only
    have hS5 := hS3.below (below_of_drew hb5')
    refine hK _ _ _ (fun _ h => h) hS5 ?_
    clear hK K hS4
    try simp only [Act.put, List.setIfInBounds_toArray, List.set_cons_zero, List.set_cons_succ]
    repeat (first | (refine lexG_take _ ?_ rfl rfl rfl rfl (fun _ => ?_) ?_; rotate_left; (focus (go_simp; with_reducible rfl)); try simp only [Act.put, List.setIfInBounds_toArray, List.set_cons_zero, List.set_cons_succ]) | (refine lexG_held _ ?_ rfl rfl rfl rfl (by assumption) (fun _ hSw => ?_) ?_; rotate_left; (focus ((try dsimp only at hSw); go_simp; with_reducible rfl)); try simp only [Act.put, List.setIfInBounds_toArray, List.set_cons_zero, List.set_cons_succ]) | (refine lexG_skip _ rfl rfl (by assumption) ?_; try simp only [Act.put, List.setIfInBounds_toArray, List.set_cons_zero, List.set_cons_succ]))
    refine lexG_nil ?_
    have hfin := hS5.2.2.2.2.2.1
    go_wp2_with fail
    go_ret
    exact ⟨rfl, hfin⟩
end Go.Proofs.Ytafogjonicdbmaa
