/- CallBack's walk. -/
import Derived.Test.YtblakaddanoilaaOpCl
import Derived.Test.YtblakaddanoilaaOpenOp
namespace Go.Proofs.Ytblakaddanoilaa
open Go.RowKit
set_option maxRecDepth 100000

set_option maxHeartbeats 12800000 in
theorem callBack_walk (D E A : Option Addr) (cd ce K cc c s n : Nat) (g m b more : List UInt8) (gg mm : ByteArray) (l : List Val) (w : World) (ho : OpReads w w.heap.size ⟨c, s, n, g, m, l⟩ #[.int .u32 (c : Int), .int .u32 (s : Int), .int .u16 (n : Int), .string gg, .string mm, .slice A K cc])
    (h : Reads w w.heap.size 1 D b.length (bys b)) (hcd : b.length ≤ cd) (h2 : Reads w w.heap.size 1 E more.length (bys more)) (hl : b.length ≤ 140737488351232) (hl2 : more.length ≤ 140737488351232) :
    Calls Try.prog 7 #[.slice D b.length cd, .agg #[.int .u32 (c : Int), .int .u32 (s : Int), .int .u16 (n : Int), .string gg, .string mm, .slice A K cc], .slice E more.length ce] w (Says w (.bool true)) := by
  obtain ⟨i0, hi, hz0, hz1, hz2⟩ := info_parts info_u8
  obtain ⟨hpg, hpm, hpK⟩ := op_parts ho
  have hok : (∀ v ∈ l, OkV v) ∧ c < 4294967296 ∧ s < 4294967296 ∧ n < 65536 := by
    obtain ⟨_, _, _, _, -, -, -, -, -, h1, h2, h3, h4⟩ := ho
    exact ⟨h1, h2, h3, h4⟩
  have hS := Blk.new w 29 #[.int .u32 (c : Int), .int .u32 (s : Int), .int .u16 (n : Int), .string gg, .string mm, .slice A K cc]
  have hb0 := (Below.refl w.heap.size w).alloc (Nat.le_refl _) (.cells #[.int .u32 (c : Int), .int .u32 (s : Int), .int .u16 (n : Int), .string gg, .string mm, .slice A K cc] 29)
  obtain ⟨B, hB⟩ : ∃ B, w.heap.size = B := ⟨_, rfl⟩
  rw [hB] at ho h h2
  replace hB := Lib.hid hB
  obtain ⟨N, hN⟩ : ∃ N, b.length = N := ⟨_, rfl⟩
  obtain ⟨M, hM⟩ : ∃ M, more.length = M := ⟨_, rfl⟩
  rw [hN] at hl hcd ⊢
  rw [hM] at hl2 ⊢
  have hb' := h
  rw [hN] at hb'
  replace hN := Lib.hid hN
  replace hM := Lib.hid hM
  replace hS := Lib.hid hS
  replace hb0 := Lib.hid hb0
  replace h := Lib.hid h
  replace h2 := Lib.hid h2
  replace ho := Lib.hid ho
  replace hok := Lib.hid hok
  replace hpg := Lib.hid hpg
  replace hpm := Lib.hid hpm
  replace hpK := Lib.hid hpK
  go_enter Try.func7, Try.ntmps7
  go_wp2_with fail
  refine (known_true _).mono ?_
  rintro e w1 ⟨rfl, hb1'⟩
  dsimp only
  have hb1 := below_then hb1' hb0.out
  have hS1 := hS.out.below hb1' hS.out.lt
  clear hb1'
  obtain ⟨e0, e1, e2, e3, e4, e5⟩ := hS1.op6
  go_wp2_with fail
  refine (light_op ho.out w1 (by rw [← hB.out]; exact hb1) (by rw [← hB.out]; exact hb1.size)).mono ?_
  rintro e w2 ⟨q, rfl, hq, hb2'⟩
  dsimp only
  have hb2 := below_then hb2' hb1
  have hS2 := hS1.below hb2' hS1.lt
  clear e0 e1 e2 e3 e4 e5 hS1 hb2' hb1
  obtain ⟨e0, e1, e2, e3, e4, e5⟩ := hS2.op6
  cases q
  · go_wp2_with fail
    go_ret
    exact ⟨rfl, hb2⟩
  obtain ⟨hlg, hlm, hll⟩ := hq rfl
  dsimp only at hlg hlm hll
  clear hq
  by_cases h100 : 100 < N
  · go_wp2_with fail
    go_ret
    exact ⟨rfl, hb2⟩
  by_cases h101 : 100 < M
  · go_wp2_with fail
    go_ret
    exact ⟨rfl, hb2⟩
  have hB2 : B ≤ w2.heap.size := by rw [← hB.out]; exact hb2.size
  have hbB : Below B w w2 := by rw [← hB.out]; exact hb2
  have hr2 := (h.out.below hbB).more hB2
  have hput := call_put (ca := cd) ((ho.out.below hbB).up hB2) (Nat.le_refl _) hr2 (by rw [hN.out]; omega) (by dsimp only; omega) (by dsimp only; omega)
  have hrefput := fun w4 (hb4 : Below w2.heap.size w2 w4) => ref_put_op ((ho.out.below (hbB.trans (hb4.mono hB2))).up (Nat.le_trans hB2 hb4.size)) (Nat.le_refl _) ((h.out.below (hbB.trans (hb4.mono hB2))).more (Nat.le_trans hB2 hb4.size)) (by rw [hN.out]; omega) (by dsimp only; omega) (by dsimp only; omega)
  rw [hN.out] at hput hrefput
  by_cases hck : errO ⟨c, s, n, g, m, l⟩ = 0
  · obtain ⟨r, hr⟩ : ∃ r, b ++ bytesO ⟨c, s, n, g, m, l⟩ = r := ⟨_, rfl⟩
    obtain ⟨z1, z2, z3, z4⟩ := errO_zero hck
    have hee := encL_le l z4
    have hbe := bytesO_len ⟨c, s, n, g, m, l⟩
    dsimp only at z1 z2 z3 hbe
    have hput := hput.mono (fun e w' h => h.1 hck)
    have hrefput := fun w4 hb4 => (hrefput w4 hb4).mono (fun e w' h => h.1 hck)
    unfold PutOk at hput hrefput
    rw [hr] at hput hrefput
    have hrl : r.length = N + (bytesO ⟨c, s, n, g, m, l⟩).length := by rw [← hr, List.length_append, hN.out]
    have hrd0 := rdOp_enc ⟨c, s, n, g, m, l⟩ more hok.out.1 hok.out.2.1 hok.out.2.2.1 hok.out.2.2.2 hck
    dsimp only at hrd0
    have hdrop : r.drop N = bytesO ⟨c, s, n, g, m, l⟩ := by rw [← hr, ← hN.out, List.drop_left]
    obtain ⟨x, hx⟩ : ∃ x, bytesO ⟨c, s, n, g, m, l⟩ = x := ⟨_, rfl⟩
    rw [hx] at hrl hrd0 hdrop hbe
    obtain ⟨L, hL⟩ : ∃ L, r.length = L := ⟨_, rfl⟩
    rw [hL] at hrl
    obtain ⟨Z, hZ⟩ : ∃ Z, x.length = Z := ⟨_, rfl⟩
    rw [hZ] at hrl hbe hrd0
    have hrN : N ≤ L := by omega
    have hZ1 : 0 < Z := by omega
    have hZ2 : Z ≤ 66000 := by omega
    have hLn : N < L := by omega
    clear hbe hee z1 z2 z3 z4
    replace hr := Lib.hid hr
    replace hx := Lib.hid hx
    replace hrd0 := Lib.hid hrd0
    replace hdrop := Lib.hid hdrop
    replace hrefput := Lib.hid hrefput
    replace hck := Lib.hid hck
    replace hL := Lib.hid hL
    replace hZ := Lib.hid hZ
    replace hrl := Lib.hid hrl
    rw [hL.out] at hput
    go_wp2_with fail
    refine hput.mono ?_
    clear hput
    rintro e w3 ⟨A3, c3, rfl, ho3, hb3', hg3⟩
    dsimp only
    have hb3 := below_then hb3' hb2
    have hbf3 := hS2.below hb3' hS2.lt
    have hR3' := ho3.reads_
    clear e0 e1 e2 e3 e4 e5 hS2 hg3
    have hrp := hrefput.out w3.drew hb3'.drew
    rw [hL.out] at hrp
    replace hrp := Lib.hid hrp
    clear hrefput
    have hS4 : Below w3.heap.size w3 w3.drew := (Below.refl _ _).drew
    go_wp2_with fail
    refine wp_region_lex (fun W => Below w3.heap.size w3 W) [6] [7] [0, 1, 2, 3, 4, 5, 6, 7, 8, 9, 10, 11, 12] (by kernel_rfl) rfl (by kernel_rfl) (by kernel_rfl) (fun _ _ d _ _ h => by cases d <;> exact h) ?_
    repeat (first | (refine lexG_take _ ?_ rfl rfl rfl rfl (fun _ => ?_) ?_; rotate_left; (focus (go_simp; with_reducible rfl)); try simp only [Act.put, List.setIfInBounds_toArray, List.set_cons_zero, List.set_cons_succ]) | (refine lexG_held _ ?_ rfl rfl rfl rfl (by assumption) (fun _ hSw => ?_) ?_; rotate_left; (focus (have h1 := (hbf3.below hSw hbf3.lt).op6; clear hSw; go_simp; with_reducible rfl)); try simp only [Act.put, List.setIfInBounds_toArray, List.set_cons_zero, List.set_cons_succ]) | (refine lexG_skip _ rfl rfl (by assumption) ?_; try simp only [Act.put, List.setIfInBounds_toArray, List.set_cons_zero, List.set_cons_succ]))
    refine lexG_now _ rfl rfl rfl (fun K0 hK => ?_)
    go_wp2_with fail
    refine hrp.out.mono ?_
    clear hrp
    rintro e w5 ⟨A5, c5, rfl, ho5, hb5d, hg5⟩
    dsimp only
    have hb5' : Below w3.heap.size w3 w5 := below_of_drew hb5d
    refine hK _ _ _ (fun _ h => h) hb5' ?_
    clear hK K0 hS4
    try simp only [Act.put, List.setIfInBounds_toArray, List.set_cons_zero, List.set_cons_succ]
    repeat (first | (refine lexG_take _ ?_ rfl rfl rfl rfl (fun _ => ?_) ?_; rotate_left; (focus (go_simp; with_reducible rfl)); try simp only [Act.put, List.setIfInBounds_toArray, List.set_cons_zero, List.set_cons_succ]) | (refine lexG_held _ ?_ rfl rfl rfl rfl (by assumption) (fun _ hSw => ?_) ?_; rotate_left; (focus (have h1 := (hbf3.below hSw hbf3.lt).op6; clear hSw; go_simp; with_reducible rfl)); try simp only [Act.put, List.setIfInBounds_toArray, List.set_cons_zero, List.set_cons_succ]) | (refine lexG_skip _ rfl rfl (by assumption) ?_; try simp only [Act.put, List.setIfInBounds_toArray, List.set_cons_zero, List.set_cons_succ]))
    refine lexG_nil ?_
    have hb5 := below_then hb5' hb3
    have hb5s := hb5'.size
    have ho3' := ho3.below hb5' (Nat.le_refl _)
    have hR3 := ho3'.reads_
    have hR5 := ho5.reads_
    have hbf := hbf3.below hb5' hbf3.lt
    have hbB5 : Below B w w5 := by rw [← hB.out]; exact hb5
    have hB5 : B ≤ w5.heap.size := by rw [← hB.out]; exact hb5.size
    have hO5 := (ho.out.below hbB5).up hB5
    have hcl := fun (W : World) (hb : Below w5.heap.size w5 W) => clean_prog (hO5.below hb) hb.size
    have hcr := fun (W : World) (hb : Below w5.heap.size w5 W) => clean_ref (hO5.below hb) hb.size
    replace hcl := Lib.hid hcl
    replace hcr := Lib.hid hcr
    have hS5 : Below w5.heap.size w5 w5.drew := (Below.refl _ _).drew
    clear ho5 hg5 hb5d hb5' ho3 hb3' hbf3 hR3' hb3 hb2 hbB hr2 hB2 hO5
    go_wp2_with fail
    refine wp_region_lex (fun W => Below w5.heap.size w5 W) [5, 7, 11, 13] [12, 14, 15] [0, 1, 2, 3, 4, 5, 6, 7, 8, 9, 10, 11, 13, 12, 14, 15, 16, 17] (by kernel_rfl) rfl (by kernel_rfl) (by kernel_rfl) (fun _ _ d _ _ h => by cases d <;> exact h) ?_
    repeat (first | (refine lexG_take _ ?_ rfl rfl rfl rfl (fun _ => ?_) ?_; rotate_left; (focus (go_simp; with_reducible rfl)); try simp only [Act.put, List.setIfInBounds_toArray, List.set_cons_zero, List.set_cons_succ]) | (refine lexG_held _ ?_ rfl rfl rfl rfl (by assumption) (fun _ hSw => ?_) ?_; rotate_left; (focus (have h1 := (hbf.below hSw hbf.lt).op6; have hcv1 := conv_bytes (c := c3) (hR3.below hSw); have hcv2 := conv_bytes (c := c5) (hR5.below hSw); clear hSw; go_simp; with_reducible rfl)); try simp only [Act.put, List.setIfInBounds_toArray, List.set_cons_zero, List.set_cons_succ]) | (refine lexG_skip _ rfl rfl (by assumption) ?_; try simp only [Act.put, List.setIfInBounds_toArray, List.set_cons_zero, List.set_cons_succ]))
    refine lexG_now _ rfl rfl rfl (fun K0 hK => ?_)
    go_wp2_with fail
    refine (hcl.out _ hS5).mono ?_
    rintro e wa ⟨Aa, ca, rfl, hOa, hba⟩
    dsimp only
    have hSa := below_then hba hS5
    refine hK _ _ _ (fun _ h => h) hSa ?_
    clear hK K0
    try simp only [Act.put, List.setIfInBounds_toArray, List.set_cons_zero, List.set_cons_succ]
    repeat (first | (refine lexG_take _ ?_ rfl rfl rfl rfl (fun _ => ?_) ?_; rotate_left; (focus (go_simp; with_reducible rfl)); try simp only [Act.put, List.setIfInBounds_toArray, List.set_cons_zero, List.set_cons_succ]) | (refine lexG_held _ ?_ rfl rfl rfl rfl (by assumption) (fun _ hSw => ?_) ?_; rotate_left; (focus (have h1 := (hbf.below hSw hbf.lt).op6; have hcv1 := conv_bytes (c := c3) (hR3.below hSw); have hcv2 := conv_bytes (c := c5) (hR5.below hSw); clear hSw; go_simp; with_reducible rfl)); try simp only [Act.put, List.setIfInBounds_toArray, List.set_cons_zero, List.set_cons_succ]) | (refine lexG_skip _ rfl rfl (by assumption) ?_; try simp only [Act.put, List.setIfInBounds_toArray, List.set_cons_zero, List.set_cons_succ]))
    refine lexG_now _ rfl rfl rfl (fun K0 hK => ?_)
    go_wp2_with fail
    refine (hcr.out _ hSa).mono ?_
    rintro e wb ⟨Ab, cb, rfl, hOb, hbb⟩
    dsimp only
    have hSb := below_then hbb hSa
    refine hK _ _ _ (fun _ h => h) hSb ?_
    clear hK K0
    try simp only [Act.put, List.setIfInBounds_toArray, List.set_cons_zero, List.set_cons_succ]
    repeat (first | (refine lexG_take _ ?_ rfl rfl rfl rfl (fun _ => ?_) ?_; rotate_left; (focus (go_simp; with_reducible rfl)); try simp only [Act.put, List.setIfInBounds_toArray, List.set_cons_zero, List.set_cons_succ]) | (refine lexG_held _ ?_ rfl rfl rfl rfl (by assumption) (fun _ hSw => ?_) ?_; rotate_left; (focus (have h1 := (hbf.below hSw hbf.lt).op6; have hcv1 := conv_bytes (c := c3) (hR3.below hSw); have hcv2 := conv_bytes (c := c5) (hR5.below hSw); clear hSw; go_simp; with_reducible rfl)); try simp only [Act.put, List.setIfInBounds_toArray, List.set_cons_zero, List.set_cons_succ]) | (refine lexG_skip _ rfl rfl (by assumption) ?_; try simp only [Act.put, List.setIfInBounds_toArray, List.set_cons_zero, List.set_cons_succ]))
    refine lexG_now _ rfl rfl rfl (fun K0 hK => ?_)
    go_wp2_with fail
    refine (op_same ((hOa.below hbb).up hbb.size) hOb _ (Below.refl _ _) (Nat.le_refl _)).mono ?_
    rintro e w6 ⟨rfl, hb6'⟩
    dsimp only
    have hS6 := below_then hb6' hSb
    refine hK _ _ _ (fun _ h => h) hS6 ?_
    clear hK K0 hOa hOb hba hbb hb6' hSa hSb
    try simp only [Act.put, List.setIfInBounds_toArray, List.set_cons_zero, List.set_cons_succ]
    repeat (first | (refine lexG_take _ ?_ rfl rfl rfl rfl (fun _ => ?_) ?_; rotate_left; (focus (go_simp; with_reducible rfl)); try simp only [Act.put, List.setIfInBounds_toArray, List.set_cons_zero, List.set_cons_succ]) | (refine lexG_held _ ?_ rfl rfl rfl rfl (by assumption) (fun _ hSw => ?_) ?_; rotate_left; (focus (have h1 := (hbf.below hSw hbf.lt).op6; have hcv1 := conv_bytes (c := c3) (hR3.below hSw); have hcv2 := conv_bytes (c := c5) (hR5.below hSw); clear hSw; go_simp; with_reducible rfl)); try simp only [Act.put, List.setIfInBounds_toArray, List.set_cons_zero, List.set_cons_succ]) | (refine lexG_skip _ rfl rfl (by assumption) ?_; try simp only [Act.put, List.setIfInBounds_toArray, List.set_cons_zero, List.set_cons_succ]))
    refine lexG_nil ?_
    clear hcl hcr hS5
    have hb65 := below_then hS6 hb5
    have hc3 := ho3'.le_cap
    have hR3 := ho3'.reads_.below hS6
    have hbf := hbf.below hS6 hbf.lt
    obtain ⟨ad3, hA3, -, -⟩ := hR3.2 (by omega)
    subst hA3
    have hne3 : ¬ c3 = N := by omega
    have hcut := hR3.cut (k := N) (cap := c3) hrN hc3
    rw [if_neg hne3, Nat.mul_one, bys_drop, Option.map_some, hdrop.out] at hcut
    have hcutl : L - N = x.length := by have := hrl.out; have := hZ.out; omega
    rw [hcutl] at hcut
    have hB6 : B ≤ w6.heap.size := by rw [← hB.out]; exact hb65.size
    have hbB6 : Below B w w6 := by rw [← hB.out]; exact hb65
    have hmS := (h2.out.below hbB6).more hB6
    obtain ⟨y, hy⟩ : ∃ y, x ++ more = y := ⟨_, rfl⟩
    have hrd := hrd0.out
    rw [hy] at hrd
    have hyb : bys x ++ bys more = bys y := by rw [← hy, bys_append]
    have hyl : x.length + more.length = y.length := by rw [← hy, List.length_append]
    have hxl := hZ.out
    clear hy
    replace hyb := Lib.hid hyb
    replace hyl := Lib.hid hyl
    replace hxl := Lib.hid hxl
    replace hrd := Lib.hid hrd
    replace hcutl := Lib.hid hcutl
    rw [hxl.out] at hcut
    have hcut5 := hcut.more hS6.size
    clear hR5 hR3 hcut
    have hLZ : (Z : Int) = (L : Int) - (N : Int) := by have := hrl.out; omega
    have hNL : L - N = Z := by have := hrl.out; omega
    replace hLZ := Lib.hid hLZ
    go_wp2_with (at_builtin; go_must (refine wpList_append_mine rfl _ _ 22 22 rfl 5 i0 (.int .u8 0) 1 1 Try.underlying22 hi hz0 hz1 hz2 rfl rfl (Own.none_ (w := w6) (t := 5) (size := 1)) rfl (Src.ofReads Try.underlying22 _ hcut5 (bys_one _)) ?b1 ?b2 ?grow))
    case b1 => unfold maxLen; omega
    case b2 => omega
    case grow =>
      intro A6 c6 w7 ho6 hg6 hat6
      have hb7 : Below w6.heap.size w6 w7 := (Below.refl _ w6).grown hg6 (Nat.le_refl _) (fun k hk => by simp [bOf] at hk)
      have hm6 := (hmS.below hb7).more hb7.size
      rw [hM.out] at hm6
      have hxm := hyl.out
      rw [hxl.out, hM.out] at hxm
      replace hxm := Lib.hid hxm
      have hat6' : ∀ g, bOf A6 = some g → w6.heap.size ≤ g := by
        intro g hg
        rcases hat6 with e | e
        · rw [e] at hg; simp [bOf] at hg
        · rw [e] at hg; cases hg; exact Nat.le_refl _
      clear hg6 hat6 hcut5 hmS
      go_wp2_with (at_builtin; go_must (refine wpList_append_mine rfl _ _ 22 22 rfl 5 i0 (.int .u8 0) 1 1 Try.underlying22 hi hz0 hz1 hz2 rfl rfl ho6 rfl (Src.ofReads Try.underlying22 _ hm6 (bys_one _)) ?b1 ?b2 ?grow))
      case b1 => unfold maxLen; omega
      case b2 => omega
      case grow =>
        intro A7 c7 w8 ho7 hg7 hat7
        have hb8 : Below w6.heap.size w6 w8 := hb7.grown hg7 hb7.size (fun k hk => hat6' k hk)
        rw [hyb.out, hxm.out] at ho7
        rw [hxm.out]
        clear hg7 hat7 hat6' ho6 hm6 hb7
        have hA7 := fun h => ho7.none_cap h
        have hc7 := ho7.le_cap
        have hrdd := call_read ho7.reads_ hA7 hc7 (by rw [← hxm.out]; omega) _ hrd.out
        go_wp2_with fail
        refine hrdd.mono ?_
        clear hrdd
        rintro e w9 ⟨A9, c9, xs9, css9, rfl, R9, hb9'⟩
        have hO9 := opread_reads (L := K) R9 (by dsimp only; rw [List.length_map]; exact hpK.out.symm) (by have := hpK.out; omega) (fun v hv => by
          simp only [List.mem_map] at hv
          obtain ⟨u, hu, rfl⟩ := hv
          exact clean_okv (hok.out.1 u hu)) hok.out.2.1 hok.out.2.2.1 hok.out.2.2.2
        dsimp only at hO9 ⊢
        rw [← hpg.out, ← hpm.out] at hO9 ⊢
        rw [show (l.map cleanV).length = K by rw [List.length_map]; exact hpK.out.symm]
        have hb69 := below_then hb9' hb8
        have hb9 := below_then hb69 hb65
        have hbf9' := hbf.below hb69 hbf.lt
        have hbx9 := Blk.new w9 29 #[.int .u32 (c : Int), .int .u32 (s : Int), .int .u16 (n : Int), .string gg, .string mm, .slice A9 K c9]
        have hb910 : Below w9.heap.size w9 (w9.alloc (.cells #[.int .u32 (c : Int), .int .u32 (s : Int), .int .u16 (n : Int), .string gg, .string mm, .slice A9 K c9] 29)) := (Below.refl _ w9).alloc (Nat.le_refl _) _
        have hbf9 := hbf9'.below hb910 hbf9'.lt
        have hO10 := (hO9.below hb910).up hb910.size
        have hb10 := below_then hb910 hb9
        have hB10 : B ≤ w9.heap.size := by rw [← hB.out]; exact hb9.size
        have hbB10 : Below B w (w9.alloc (.cells #[.int .u32 (c : Int), .int .u32 (s : Int), .int .u16 (n : Int), .string gg, .string mm, .slice A9 K c9] 29)) := by rw [← hB.out]; exact hb10
        have hOo := (ho.out.below hbB10).up (show B ≤ (w9.alloc (.cells #[.int .u32 (c : Int), .int .u32 (s : Int), .int .u16 (n : Int), .string gg, .string mm, .slice A9 K c9] 29)).heap.size by rw [World.size_alloc]; omega)
        have hcmp : ((Z : Int) == (L : Int) - (N : Int)) = true := by rw [beq_iff_eq]; exact hLZ.out
        have hwsub : IntKind.i64.wrap ((L : Int) - (N : Int)) = (L : Int) - (N : Int) := w64_id _ (by omega) (by omega)
        obtain ⟨w10, hw10⟩ : ∃ w10, w9.alloc (.cells #[.int .u32 (c : Int), .int .u32 (s : Int), .int .u16 (n : Int), .string gg, .string mm, .slice A9 K c9] 29) = w10 := ⟨_, rfl⟩
        have hcr := fun (W : World) (hb : Below w10.heap.size w10 W) => clean_ref ((hw10 ▸ hOo).below hb) hb.size
        rw [hw10] at hbf9 hbx9 hO10 hb10
        replace hcr := Lib.hid hcr
        clear hO9 R9 hb9' hb8 ho7 hA7 hc7 hb69 hb9 hbf9' hb910 hbB10 hOo hbf
        have hS9 : Below w10.heap.size w10 w10.drew := (Below.refl _ _).drew
        go_wp2_with fail
        clear hcmp
        have hcmp : ((Z : Int) == (L : Int) - (N : Int)) = true := by rw [beq_iff_eq]; exact hLZ.out
        refine wp_region_lex (fun W => Below w10.heap.size w10 W) [12, 13] [14, 15] [0, 1, 2, 3, 4, 5, 6, 7, 8, 9, 10, 11, 12, 13, 14, 15, 16, 17] (by kernel_rfl) rfl (by kernel_rfl) (by kernel_rfl) (fun _ _ d _ _ h => by cases d <;> exact h) ?_
        repeat (first | (refine lexG_take _ ?_ rfl rfl rfl rfl (fun _ => ?_) ?_; rotate_left; (focus (go_simp; with_reducible rfl)); try simp only [Act.put, List.setIfInBounds_toArray, List.set_cons_zero, List.set_cons_succ]) | (refine lexG_held _ ?_ rfl rfl rfl rfl (by assumption) (fun _ hSw => ?_) ?_; rotate_left; (focus (have h1 := (hbf9.below hSw hbf9.lt).op6; have h2 := (hbx9.below hSw hbx9.lt).op6; clear hSw; go_simp; with_reducible rfl)); try simp only [Act.put, List.setIfInBounds_toArray, List.set_cons_zero, List.set_cons_succ]) | (refine lexG_skip _ rfl rfl (by assumption) ?_; try simp only [Act.put, List.setIfInBounds_toArray, List.set_cons_zero, List.set_cons_succ]))
        refine lexG_now _ rfl rfl rfl (fun K0 hK => ?_)
        go_wp2_with fail
        refine (hcr.out _ hS9).mono ?_
        rintro e wb ⟨Ab, cb, rfl, hOb, hbb⟩
        dsimp only
        have hSb := below_then hbb hS9
        refine hK _ _ _ (fun _ h => h) hSb ?_
        clear hK K0
        try simp only [Act.put, List.setIfInBounds_toArray, List.set_cons_zero, List.set_cons_succ]
        repeat (first | (refine lexG_take _ ?_ rfl rfl rfl rfl (fun _ => ?_) ?_; rotate_left; (focus (go_simp; with_reducible rfl)); try simp only [Act.put, List.setIfInBounds_toArray, List.set_cons_zero, List.set_cons_succ]) | (refine lexG_held _ ?_ rfl rfl rfl rfl (by assumption) (fun _ hSw => ?_) ?_; rotate_left; (focus (have h1 := (hbf9.below hSw hbf9.lt).op6; have h2 := (hbx9.below hSw hbx9.lt).op6; clear hSw; go_simp; with_reducible rfl)); try simp only [Act.put, List.setIfInBounds_toArray, List.set_cons_zero, List.set_cons_succ]) | (refine lexG_skip _ rfl rfl (by assumption) ?_; try simp only [Act.put, List.setIfInBounds_toArray, List.set_cons_zero, List.set_cons_succ]))
        refine lexG_now _ rfl rfl rfl (fun K0 hK => ?_)
        go_wp2_with fail
        refine (op_same ((hO10.below hSb).up hSb.size) hOb _ (Below.refl _ _) (Nat.le_refl _)).mono ?_
        rintro e w11 ⟨rfl, hb11⟩
        dsimp only
        have hS11 := below_then hb11 hSb
        refine hK _ _ _ (fun _ h => h) hS11 ?_
        clear hK K0
        try simp only [Act.put, List.setIfInBounds_toArray, List.set_cons_zero, List.set_cons_succ]
        repeat (first | (refine lexG_take _ ?_ rfl rfl rfl rfl (fun _ => ?_) ?_; rotate_left; (focus (go_simp; with_reducible rfl)); try simp only [Act.put, List.setIfInBounds_toArray, List.set_cons_zero, List.set_cons_succ]) | (refine lexG_held _ ?_ rfl rfl rfl rfl (by assumption) (fun _ hSw => ?_) ?_; rotate_left; (focus (have h1 := (hbf9.below hSw hbf9.lt).op6; have h2 := (hbx9.below hSw hbx9.lt).op6; clear hSw; go_simp; with_reducible rfl)); try simp only [Act.put, List.setIfInBounds_toArray, List.set_cons_zero, List.set_cons_succ]) | (refine lexG_skip _ rfl rfl (by assumption) ?_; try simp only [Act.put, List.setIfInBounds_toArray, List.set_cons_zero, List.set_cons_succ]))
        refine lexG_nil ?_
        have hfin := below_then hS11 hb10
        go_wp2_with fail
        go_ret
        exact ⟨rfl, hfin⟩
  · have hne : ((errO ⟨c, s, n, g, m, l⟩ : Int) != 0) = true := by rw [bne_iff_ne]; omega
    have heq : ((errO ⟨c, s, n, g, m, l⟩ : Int) != (errO ⟨c, s, n, g, m, l⟩ : Int)) = false := by simp
    have hput := hput.mono (fun e w' h => h.2 hck)
    have hrefput := fun w4 hb4 => (hrefput w4 hb4).mono (fun e w' h => h.2 hck)
    unfold PutNo at hput hrefput
    generalize errO ⟨c, s, n, g, m, l⟩ = xx at *
    have hcv1 := fun w5 => conv_bytes (w := w5) (B := 0) (n := 0) (c := 0) (A := none) (bs := []) Reads.none_
    replace hrefput := Lib.hid hrefput
    go_wp2_with fail
    refine hput.mono ?_
    clear hput
    rintro e w3 ⟨rfl, hb3'⟩
    dsimp only
    have hb3 := below_then hb3' hb2
    have hbf3 := hS2.below hb3' hS2.lt
    clear e0 e1 e2 e3 e4 e5 hS2
    have hrp := hrefput.out w3.drew hb3'.drew
    replace hrp := Lib.hid hrp
    clear hrefput
    have hS4 : Below w3.heap.size w3 w3.drew := (Below.refl _ _).drew
    go_wp2_with fail
    refine wp_region_lex (fun W => Below w3.heap.size w3 W) [6] [7] [0, 1, 2, 3, 4, 5, 6, 7, 8, 9, 10, 11, 12] (by kernel_rfl) rfl (by kernel_rfl) (by kernel_rfl) (fun _ _ d _ _ h => by cases d <;> exact h) ?_
    repeat (first | (refine lexG_take _ ?_ rfl rfl rfl rfl (fun _ => ?_) ?_; rotate_left; (focus (go_simp; with_reducible rfl)); try simp only [Act.put, List.setIfInBounds_toArray, List.set_cons_zero, List.set_cons_succ]) | (refine lexG_held _ ?_ rfl rfl rfl rfl (by assumption) (fun _ hSw => ?_) ?_; rotate_left; (focus (have h1 := (hbf3.below hSw hbf3.lt).op6; clear hSw; go_simp; with_reducible rfl)); try simp only [Act.put, List.setIfInBounds_toArray, List.set_cons_zero, List.set_cons_succ]) | (refine lexG_skip _ rfl rfl (by assumption) ?_; try simp only [Act.put, List.setIfInBounds_toArray, List.set_cons_zero, List.set_cons_succ]))
    refine lexG_now _ rfl rfl rfl (fun K0 hK => ?_)
    go_wp2_with fail
    refine hrp.out.mono ?_
    clear hrp
    rintro e w5 ⟨rfl, hb5d⟩
    dsimp only
    have hb5' : Below w3.heap.size w3 w5 := below_of_drew hb5d
    refine hK _ _ _ (fun _ h => h) hb5' ?_
    clear hK K0 hS4
    try simp only [Act.put, List.setIfInBounds_toArray, List.set_cons_zero, List.set_cons_succ]
    repeat (first | (refine lexG_take _ ?_ rfl rfl rfl rfl (fun _ => ?_) ?_; rotate_left; (focus (go_simp; with_reducible rfl)); try simp only [Act.put, List.setIfInBounds_toArray, List.set_cons_zero, List.set_cons_succ]) | (refine lexG_held _ ?_ rfl rfl rfl rfl (by assumption) (fun _ hSw => ?_) ?_; rotate_left; (focus (have h1 := (hbf3.below hSw hbf3.lt).op6; clear hSw; go_simp; with_reducible rfl)); try simp only [Act.put, List.setIfInBounds_toArray, List.set_cons_zero, List.set_cons_succ]) | (refine lexG_skip _ rfl rfl (by assumption) ?_; try simp only [Act.put, List.setIfInBounds_toArray, List.set_cons_zero, List.set_cons_succ]))
    refine lexG_nil ?_
    have hb5 := below_then hb5' hb3
    have hbf := hbf3.below hb5' hbf3.lt
    have hbB5 : Below B w w5 := by rw [← hB.out]; exact hb5
    have hB5 : B ≤ w5.heap.size := by rw [← hB.out]; exact hb5.size
    have hO5 := (ho.out.below hbB5).up hB5
    have hcl := fun (W : World) (hb : Below w5.heap.size w5 W) => clean_prog (hO5.below hb) hb.size
    have hcr := fun (W : World) (hb : Below w5.heap.size w5 W) => clean_ref (hO5.below hb) hb.size
    replace hcl := Lib.hid hcl
    replace hcr := Lib.hid hcr
    have hS5 : Below w5.heap.size w5 w5.drew := (Below.refl _ _).drew
    clear hb5d hb5' hb3' hbf3 hb3 hb2 hbB hr2 hB2 hO5
    go_wp2_with fail
    refine wp_region_lex (fun W => Below w5.heap.size w5 W) [5, 7, 11, 13] [12, 14, 15] [0, 1, 2, 3, 4, 5, 6, 7, 8, 9, 10, 11, 13, 12, 14, 15, 16, 17] (by kernel_rfl) rfl (by kernel_rfl) (by kernel_rfl) (fun _ _ d _ _ h => by cases d <;> exact h) ?_
    repeat (first | (refine lexG_take _ ?_ rfl rfl rfl rfl (fun _ => ?_) ?_; rotate_left; (focus (go_simp; with_reducible rfl)); try simp only [Act.put, List.setIfInBounds_toArray, List.set_cons_zero, List.set_cons_succ]) | (refine lexG_held _ ?_ rfl rfl rfl rfl (by assumption) (fun _ hSw => ?_) ?_; rotate_left; (focus (have h1 := (hbf.below hSw hbf.lt).op6; clear hSw; go_simp; with_reducible rfl)); try simp only [Act.put, List.setIfInBounds_toArray, List.set_cons_zero, List.set_cons_succ]) | (refine lexG_skip _ rfl rfl (by assumption) ?_; try simp only [Act.put, List.setIfInBounds_toArray, List.set_cons_zero, List.set_cons_succ]))
    refine lexG_now _ rfl rfl rfl (fun K0 hK => ?_)
    go_wp2_with fail
    refine (hcl.out _ hS5).mono ?_
    rintro e wa ⟨Aa, ca, rfl, hOa, hba⟩
    dsimp only
    have hSa := below_then hba hS5
    refine hK _ _ _ (fun _ h => h) hSa ?_
    clear hK K0
    try simp only [Act.put, List.setIfInBounds_toArray, List.set_cons_zero, List.set_cons_succ]
    repeat (first | (refine lexG_take _ ?_ rfl rfl rfl rfl (fun _ => ?_) ?_; rotate_left; (focus (go_simp; with_reducible rfl)); try simp only [Act.put, List.setIfInBounds_toArray, List.set_cons_zero, List.set_cons_succ]) | (refine lexG_held _ ?_ rfl rfl rfl rfl (by assumption) (fun _ hSw => ?_) ?_; rotate_left; (focus (have h1 := (hbf.below hSw hbf.lt).op6; clear hSw; go_simp; with_reducible rfl)); try simp only [Act.put, List.setIfInBounds_toArray, List.set_cons_zero, List.set_cons_succ]) | (refine lexG_skip _ rfl rfl (by assumption) ?_; try simp only [Act.put, List.setIfInBounds_toArray, List.set_cons_zero, List.set_cons_succ]))
    refine lexG_now _ rfl rfl rfl (fun K0 hK => ?_)
    go_wp2_with fail
    refine (hcr.out _ hSa).mono ?_
    rintro e wb ⟨Ab, cb, rfl, hOb, hbb⟩
    dsimp only
    have hSb := below_then hbb hSa
    refine hK _ _ _ (fun _ h => h) hSb ?_
    clear hK K0
    try simp only [Act.put, List.setIfInBounds_toArray, List.set_cons_zero, List.set_cons_succ]
    repeat (first | (refine lexG_take _ ?_ rfl rfl rfl rfl (fun _ => ?_) ?_; rotate_left; (focus (go_simp; with_reducible rfl)); try simp only [Act.put, List.setIfInBounds_toArray, List.set_cons_zero, List.set_cons_succ]) | (refine lexG_held _ ?_ rfl rfl rfl rfl (by assumption) (fun _ hSw => ?_) ?_; rotate_left; (focus (have h1 := (hbf.below hSw hbf.lt).op6; clear hSw; go_simp; with_reducible rfl)); try simp only [Act.put, List.setIfInBounds_toArray, List.set_cons_zero, List.set_cons_succ]) | (refine lexG_skip _ rfl rfl (by assumption) ?_; try simp only [Act.put, List.setIfInBounds_toArray, List.set_cons_zero, List.set_cons_succ]))
    refine lexG_now _ rfl rfl rfl (fun K0 hK => ?_)
    go_wp2_with fail
    refine (op_same ((hOa.below hbb).up hbb.size) hOb _ (Below.refl _ _) (Nat.le_refl _)).mono ?_
    rintro e w6 ⟨rfl, hb6'⟩
    dsimp only
    have hS6 := below_then hb6' hSb
    refine hK _ _ _ (fun _ h => h) hS6 ?_
    clear hK K0 hOa hOb hba hbb hb6' hSa hSb
    try simp only [Act.put, List.setIfInBounds_toArray, List.set_cons_zero, List.set_cons_succ]
    repeat (first | (refine lexG_take _ ?_ rfl rfl rfl rfl (fun _ => ?_) ?_; rotate_left; (focus (go_simp; with_reducible rfl)); try simp only [Act.put, List.setIfInBounds_toArray, List.set_cons_zero, List.set_cons_succ]) | (refine lexG_held _ ?_ rfl rfl rfl rfl (by assumption) (fun _ hSw => ?_) ?_; rotate_left; (focus (have h1 := (hbf.below hSw hbf.lt).op6; clear hSw; go_simp; with_reducible rfl)); try simp only [Act.put, List.setIfInBounds_toArray, List.set_cons_zero, List.set_cons_succ]) | (refine lexG_skip _ rfl rfl (by assumption) ?_; try simp only [Act.put, List.setIfInBounds_toArray, List.set_cons_zero, List.set_cons_succ]))
    refine lexG_nil ?_
    have hfin := below_then hS6 hb5
    go_wp2_with fail
    go_ret
    exact ⟨rfl, hfin⟩
end Go.Proofs.Ytblakaddanoilaa
