/- RefReads: the walk. -/
import Derived.Test.YtdnoafjaheofcaaDoorRf19
set_option linter.unusedSimpArgs false
set_option linter.unusedVariables false
namespace Go.Proofs.YtdnoafjaheofcaaDoor
open Go.RowKit Go.Sort Go.Lib
set_option maxRecDepth 100000

theorem rdRef_len (b : List UInt8) : (rdRef b).2 = true → (rdRef b).1.2.2.length ≤ 7 := by
  unfold rdRef
  split
  · split
    · split
      · intro h
        exact (right_yes h).2.2.2.1
      · intro h
        first | cases h | exact Nat.zero_le _
    · intro h
      first | cases h | exact Nat.zero_le _
  · intro h
    first | cases h | exact Nat.zero_le _
theorem rdR_len (b : List UInt8) : (rdR b).2.2.length ≤ 7 := by
  unfold rdR
  split
  · exact rdRef_len b (by assumption)
  · exact Nat.zero_le _
set_option maxHeartbeats 12800000 in
theorem refReads_walk (bs : List UInt8) (B : Option Addr) (d : Nat) (s l : List UInt8) (vm : Nat) (mask : Int) (a xv : Nat) (w : World) (hL : LaidW w)
    (hB : Reads w w.heap.size 1 B bs.length (bys bs)) (hd : bs.length ≤ d) (hbl : bs.length ≤ 140737488351232) (hsl : s.length ≤ 140737488351232) (hll : l.length ≤ 140737488351232)
    (hvm : vm < 4294967296) (hm0 : 0 ≤ mask) (hm1 : mask ≤ 65535) (ha : a ≤ 65535) (hxv : xv ≤ 255) :
    Calls Tryd.prog 4 #[.slice B bs.length d, .string (bstr s), .string (bstr l), .int .u32 (vm : Int), .int .u16 mask, .int .u16 (a : Int), .int .u8 (xv : Int)] w (BoolRes w true) := by
  have hls : (bstr l).size = l.length := bstr_size l
  have hss : (bstr s).size = s.length := bstr_size s
  replace hls := Lib.hid hls
  replace hss := Lib.hid hss
  replace hL := Lib.hid hL
  go_enter Tryd.func4, Tryd.ntmps4
  go_wp2_with fail
  refine (known_true w hL.out).mono ?_
  rintro e w2 ⟨rfl, hb2⟩
  dsimp only
  have hB2 := (hB.below hb2).more hb2.size
  clear hB
  by_cases h1 : 200 < bs.length
  · go_wp2_with fail
    go_ret
    exact ⟨rfl, hb2⟩
  by_cases h2 : 100 < s.length
  · go_wp2_with fail
    go_ret
    exact ⟨rfl, hb2⟩
  by_cases h4 : 100 < l.length
  · go_wp2_with fail
    go_ret
    exact ⟨rfl, hb2⟩
  have d1 : decide ((200 : Int) < (bs.length : Int)) = false := decide_eq_false (by omega)
  have d2 : decide ((100 : Int) < (s.length : Int)) = false := decide_eq_false (by omega)
  have d4 : decide ((100 : Int) < (l.length : Int)) = false := decide_eq_false (by omega)
  go_wp2_with fail
  refine (made_walk l (by omega) vm mask hm0 hm1 w2).mono ?_
  rintro e w3 ⟨gm, nm, Am, cm, rfl, hrm, hom, hb3, hgm⟩
  dsimp only
  clear d1 d2 d4
  have hB3 := (hB2.below hb3).more hb3.size
  have hb03 := below_then hb3 hb2
  have hy4 := RefAt.new (T := 26) (g := gm) (v := vm) (c := cm) hom.reads_
  have hb4 := below_alloc w3 (.cells #[.string (bstr gm), .int .u32 (vm : Int), .slice Am nm.length cm] 26)
  have hB4 := (hB3.below hb4).more hb4.size
  have hb04 := below_then hb4 hb03
  obtain ⟨y, ey⟩ : ∃ y, w3.heap.size = y := ⟨_, rfl⟩
  rw [ey] at hy4
  replace ey := Lib.hid ey
  clear hB2 hb2 hB3 hb03 hb3 hb4 hom hgm
  obtain ⟨lm1, lm2, lm3, lm4, -⟩ := right_yes hrm
  replace hrm := Lib.hid hrm
  go_upto_region 6 with (fail)
  try rw [ey.out]
  generalize w3.alloc (.cells #[.string (bstr gm), .int .u32 (vm : Int), .slice Am nm.length cm] 26) = w4 at *
  clear ey
  have k0 := hy4.blk.cell 0
  have k1 := hy4.blk.cell 1
  have k2 := hy4.blk.cell 2
  go_wp2_with fail
  refine of_walk.mono ?_
  clear k0 k1 k2
  rintro e w5 ⟨rfl, hb5⟩
  dsimp only
  have hy5 := hy4.below hb5
  have hB5 := (hB4.below hb5).more hb5.size
  have hb05 := below_then hb5 hb04
  clear hy4 hB4 hb5 hb04
  obtain ⟨F, hF⟩ : ∃ F, framed (payR gm vm nm) = F := ⟨_, rfl⟩
  have hFl : F.length = 15 + gm.length + nm.length := by rw [← hF, framed_len, payR_len]; omega
  have hput : Calls Tryd.prog 8 #[.slice none 0 0, .agg #[.string (bstr gm), .int .u32 (vm : Int), .slice Am nm.length cm]] w5 (WrapOk w5 F .i64) := by
    have h := ref_put_yes (C := none) (bs := []) (c := cm) (r := F) hy5.row Reads.none_ (by simp) hvm hrm.out (by rw [hF]; rfl)
    exact h
  replace hput := Lib.hid hput
  clear hF
  go_wp2_with fail
  refine hput.out.mono ?_
  clear hput
  rintro e w6 ⟨B6, c6, rfl, ho6, hb6, hg6⟩
  dsimp only
  have hy6 := hy5.below hb6
  have hB6 := (hB5.below hb6).more hb6.size
  have hb06 := below_then hb6 hb05
  obtain ⟨M, hM⟩ : ∃ M, F.length = M := ⟨_, rfl⟩
  have hcle := ho6.le_cap
  have hcmx := ho6.cap_le
  obtain ⟨gb, cur, rfl, hblk, hcur, hset⟩ := ho6.open_ (by omega)
  have hgw : w5.heap.size ≤ gb := hg6 gb rfl
  obtain ⟨j, hj', hjj⟩ : ∃ j : Nat, (a : Int) % (M : Int) = (j : Int) ∧ j < M := by
    have h1 := Int.emod_nonneg (a : Int) (show (M : Int) ≠ 0 by omega)
    have h2 := Int.emod_lt_of_pos (a : Int) (show (0 : Int) < (M : Int) by omega)
    exact ⟨((a : Int) % (M : Int)).toNat, by omega, by omega⟩
  have hcell := hblk.cell j
  rw [hcur j (by omega)] at hcell
  simp only [bys, byv, List.getElem?_map, List.getElem?_eq_getElem (show j < F.length by omega), Option.map_some] at hcell
  have hfz := hblk.frozen j
  obtain ⟨b', hbv⟩ := byte_xor (F[j]'(by omega)) xv (by omega) (by omega)
  have ho7 := hset j (byv b') (by omega)
  rw [bys_set] at ho7
  have hdl : (F.set j b').length = M := by simp [hM]
  obtain ⟨E, hE⟩ : ∃ E, F.set j b' = E := ⟨_, rfl⟩
  rw [hE] at ho7 hdl
  have hy7 : RefAt (w6.setCell ⟨gb, j, none⟩ (byv b')) y 26 gm vm nm Am cm := hy5.below (hb6.setCell hgw _)
  have hb7 : RowKit.Below w.heap.size w (w6.setCell ⟨gb, j, none⟩ (byv b')) := hb06.setCell (by have := hb05.size; show w.heap.size ≤ gb; omega) _
  have hB7 : Reads (w6.setCell ⟨gb, j, none⟩ (byv b')) (w6.setCell ⟨gb, j, none⟩ (byv b')).heap.size 1 B bs.length (bys bs) := (hB5.below (hb6.setCell hgw _)).more (hb6.setCell (p := ⟨gb, j, none⟩) hgw (byv b')).size
  have hr7 := ho7.reads_
  rw [hM, ← hdl] at hr7
  rw [hM] at hcle
  clear hset hcur hblk ho7 ho6 hB6 hy6 hb06 hg6 hb6 hy5 hB5 hb05
  replace hdl := Lib.hid hdl
  replace hr7 := Lib.hid hr7
  rw [hM]
  replace hM := Lib.hid hM
  clear hE
  go_upto_region 8 with (fail)
  change Code.wp _ _ _ _ (w6.setCell ⟨gb, j, none⟩ (byv b'))
  generalize w6.setCell ⟨gb, j, none⟩ (byv b') = w7 at *
  have hrE := hr7.out
  rw [hdl.out] at hrE
  have hb8 := below_alloc w7 (.cells #[.slice B bs.length d, .slice (some ⟨gb, 0, none⟩) M c6] 22)
  have hq8 := Blk.new w7 22 #[.slice B bs.length d, .slice (some ⟨gb, 0, none⟩) M c6]
  have hy8 := hy7.below hb8
  have hB8 := (hB7.below hb8).more hb8.size
  have hE8 := (hrE.below hb8).more hb8.size
  have hb08 := below_then hb8 hb7
  obtain ⟨q, eq⟩ : ∃ q, w7.heap.size = q := ⟨_, rfl⟩
  rw [eq] at hq8
  replace eq := Lib.hid eq
  clear hb8 hy7 hB7 hb7 hr7 hcell hfz hrE hbv
  go_upto_region 9 with (fail)
  try rw [eq.out]
  change Code.wp _ _ _ _ (w7.alloc (.cells #[.slice B bs.length d, .slice (some ⟨gb, 0, none⟩) M c6] 22))
  generalize w7.alloc (.cells #[.slice B bs.length d, .slice (some ⟨gb, 0, none⟩) M c6] 22) = w8 at *
  clear eq
  have hMl : M ≤ 100 := by have := hM.out; omega
  go_wp2_with fail
  go_loopw [69] (fun i wr => ∃ k : Nat, k ≤ 2 ∧ i = .int .i64 (k : Int) ∧ RowKit.Below w8.heap.size w8 wr) (fun i _ => 2 - (RowKit.intOf i).toNat)
  case atStart => exact ⟨0, by omega, rfl, RowKit.Below.refl _ _⟩
  case round =>
    rename_i hrel
    obtain ⟨k, hk, rfl, hbr⟩ := hrel
    by_cases hlt : k < 2
    · have hqr := hq8.below hbr hq8.lt
      have hel : ∃ (b : List UInt8) (A : Option Addr) (n c : Nat), wr.cell? ⟨q, k, none⟩ = some (.slice A n c) ∧ b.length = n ∧ Reads wr wr.heap.size 1 A n (bys b) ∧ n ≤ c ∧ n ≤ 1000 := by
        rcases (show k = 0 ∨ k = 1 by omega) with rfl | rfl
        · exact ⟨bs, B, _, d, hqr.cell 0, rfl, (hB8.below hbr).more hbr.size, hd, by omega⟩
        · exact ⟨E, _, M, c6, hqr.cell 1, hdl.out, (hE8.below hbr).more hbr.size, hcle, by omega⟩
      obtain ⟨b, A, n, c, e0, hbn, hrow, hnc, hn1⟩ := hel
      have hkw : IntKind.i64.wrap ((k : Int) + 1) = (k : Int) + 1 := by rw [IntKind.wrap_i64]; omega
      have hd0 : decide ((k : Int) < 2) = true := decide_eq_true (by omega)
      clear hqr
      go_upto_region 11 with (fail)
      clear e0
      subst hbn
      have hrd := read_walk (c := c) hrow hnc (by omega)
      have hrd2 := fun W (hW : RowKit.Below wr.heap.size wr W) => ref_read_ref (w := W) (c := c) ((hrow.below hW).more hW.size) hnc (by omega)
      obtain ⟨R, hR⟩ : ∃ R, rdR b = R := ⟨_, rfl⟩
      obtain ⟨Z, hZ⟩ : ∃ Z, rdE b = Z := ⟨_, rfl⟩
      rw [hR, hZ] at hrd hrd2
      obtain ⟨g, v, ns⟩ := R
      have hnsl : ns.length ≤ 140737488351232 := by
        have h := rdR_len b
        rw [hR] at h
        have h' : ns.length ≤ 7 := h
        omega
      replace hrd := Lib.hid hrd
      replace hrd2 := Lib.hid hrd2
      clear hR hZ
      have hZZ : (Z != Z) = false := by simp
      go_wp2_with fail
      refine hrd.out.mono ?_
      clear hrd
      rintro e w9 ⟨A9, c9, rfl, ho9, hb9, -⟩
      dsimp only at ho9 ⊢
      have hz9 := RefAt.new (T := 26) (g := g) (v := v) (c := c9) ho9.reads_
      have hb9' := below_then (below_alloc w9 (.cells #[.string (bstr g), .int .u32 (v : Int), .slice A9 ns.length c9] 26)) hb9
      obtain ⟨z, ez⟩ : ∃ z, w9.heap.size = z := ⟨_, rfl⟩
      rw [ez] at hz9
      replace ez := Lib.hid ez
      clear hb9 ho9
      go_upto_region 12 with (fail)
      try rw [ez.out]
      generalize w9.alloc (.cells #[.string (bstr g), .int .u32 (v : Int), .slice A9 ns.length c9] 26) = w10 at *
      clear ez
      go_wp2_with fail
      refine (hrd2.out _ hb9').mono ?_
      clear hrd2
      rintro e w11 ⟨A11, c11, rfl, ho11, hb11, -⟩
      dsimp only at ho11 ⊢
      have hz11 := hz9.below hb11
      have hb11' := below_then hb11 hb9'
      have hs12 := RefAt.new (T := 36) (g := g) (v := v) (c := c11) ho11.reads_
      have hb12 := below_alloc w11 (.cells #[.string (bstr g), .int .u32 (v : Int), .slice A11 ns.length c11] 36)
      have hz12 := hz11.below hb12
      have hb12' := below_then hb12 hb11'
      obtain ⟨zz, ez⟩ : ∃ zz, w11.heap.size = zz := ⟨_, rfl⟩
      rw [ez] at hs12
      replace ez := Lib.hid ez
      clear hz9 hb9' ho11 hb11 hz11 hb11' hb12
      go_upto_region 13 with (fail)
      try rw [ez.out]
      generalize w11.alloc (.cells #[.string (bstr g), .int .u32 (v : Int), .slice A11 ns.length c11] 36) = w12 at *
      clear ez
      have k0 := hz12.blk.cell 0
      have k1 := hz12.blk.cell 1
      have k2 := hz12.blk.cell 2
      have m0 := hs12.blk.cell 0
      have m1 := hs12.blk.cell 1
      have m2 := hs12.blk.cell 2
      go_wp2_with fail
      refine (like_true (c := c9) (c' := c11) hz12.row hs12.row hnsl).mono ?_
      clear k0 k1 k2 m0 m1 m2
      rintro e w13 ⟨rfl, hb13⟩
      dsimp only
      have hb13' := below_then hb13 hb12'
      go_wp2_with fail
      go_roundw
      case rel => exact ⟨k + 1, by omega, by go_num, below_then hb13' hbr⟩
      case measure => simp [RowKit.intOf]; omega
    · obtain rfl : k = 2 := by omega
      have hyr := hy8.below hbr
      have hb0r := below_then hbr hb08
      clear hy8 hb08 hbr hq8 hB8 hE8
      have k0 := hyr.blk.cell 0
      have k1 := hyr.blk.cell 1
      have k2 := hyr.blk.cell 2
      go_wp2_with fail
      refine of_walk.mono ?_
      clear k0 k1 k2
      rintro e w16 ⟨rfl, hb16⟩
      dsimp only
      have hy16 := hyr.below hb16
      have hb016 := below_then hb16 hb0r
      obtain ⟨T, hT⟩ : ∃ T, textR gm vm nm = T := ⟨_, rfl⟩
      have hTl := textR_len hrm.out hvm
      rw [hT] at hTl
      have htx : ∀ W, RowKit.Below w16.heap.size w16 W → Calls Tryd.prog 11 #[.agg #[.string (bstr gm), .int .u32 (vm : Int), .slice Am nm.length cm]] W (fun e w' => e = .returned (.string (bstr T)) ∧ RowKit.Below W.heap.size W w') := fun W hW => by
        have h := ref_text_yes (c := cm) ((hy16.row.below hW).more hW.size) hvm hrm.out
        rw [hT] at h
        exact h
      replace htx := Lib.hid htx
      clear hyr hb16 hb0r
      go_wp2_with fail
      refine (htx.out _ (RowKit.Below.refl _ _)).mono ?_
      rintro e w17 ⟨rfl, hb17⟩
      dsimp only
      obtain ⟨w18, cp, hcv, hb18, hs18, hrow⟩ := conv_row T w17
      have hb18' := below_then hb18 hb17
      have hBw := hb17.size
      obtain ⟨C, hC⟩ : ∃ C, w17.heap.size = C := ⟨_, rfl⟩
      rw [hC] at hcv hrow hBw
      obtain ⟨N, hN⟩ : ∃ N, T.length = N := ⟨_, rfl⟩
      rw [hN] at hcv hTl
      replace hrow := Lib.hid hrow
      clear hC hb17 hb18 hs18
      replace hN := Lib.hid hN
      replace hb18' := Lib.hid hb18'
      go_upto_region 17 with (fail)
      clear hcv
      obtain ⟨r, hr, hrN⟩ : ∃ j : Nat, (a : Int) % (N : Int) = (j : Int) ∧ j < N := by
        have h1 := Int.emod_nonneg (a : Int) (show (N : Int) ≠ 0 by omega)
        have h2 := Int.emod_lt_of_pos (a : Int) (show (0 : Int) < (N : Int) by omega)
        exact ⟨((a : Int) % (N : Int)).toNat, by omega, by omega⟩
      obtain ⟨b0, hb0⟩ : ∃ b, T[r]? = some b := ⟨_, List.getElem?_eq_getElem (by have := hN.out; omega)⟩
      have c0 := (hrow.out r b0 hb0).1
      have f0 := (hrow.out r b0 hb0).2
      obtain ⟨t2, ht2⟩ : ∃ t2, T.set r (UInt8.ofNat xv) = t2 := ⟨_, rfl⟩
      have ht2l : t2.length = N := by rw [← ht2, List.length_set]; exact hN.out
      have hst : (convert 22 9 (.slice (some ⟨C, 0, none⟩) N cp)).run Tryd.prog (w18.setCell ⟨C, r, none⟩ (.int .u8 (xv : Int))) = .ok (.string (bstr t2)) (w18.setCell ⟨C, r, none⟩ (.int .u8 (xv : Int))) := by
        have h := run_convert_bytes_back (P := Tryd.prog) (w18.setCell ⟨C, r, none⟩ (.int .u8 (xv : Int))) 22 9 5 ⟨C, 0, none⟩ cp t2 Tryd.underlying22 Tryd.underlying5 Tryd.underlying9 (fun j hj => by
          have hadd : (⟨C, 0, none⟩ : Addr).add j = ⟨C, j, none⟩ := by rw [Lib.add_plain, Nat.zero_add]
          rw [hadd]
          subst ht2
          by_cases hjr : j = r
          · subst hjr
            rw [World.cell?_setCell_same _ _ _ c0, List.getElem_set_self, UInt8.toNat_ofNat']
            have : xv % 2 ^ 8 = xv := by omega
            rw [this]
          · rw [World.cell?_setCell_other _ _ _ _ (by simp <;> omega), List.getElem_set_ne (by omega)]
            rw [List.length_set] at hj
            exact (hrow.out j T[j] (List.getElem?_eq_getElem hj)).1)
        rw [ht2l] at h
        exact h
      have hb19 : RowKit.Below w16.heap.size w16 (w18.setCell ⟨C, r, none⟩ (.int .u8 (xv : Int))) := hb18'.out.setCell (p := ⟨C, r, none⟩) hBw _
      clear ht2
      replace hb19 := Lib.hid hb19
      go_upto_region 18 with (fail)
      generalize w18.setCell ⟨C, r, none⟩ (.int .u8 (xv : Int)) = w19 at *
      clear c0 f0 hr hrow hb18' hb0
      have hb20 := below_then (below_alloc w19 (.cells #[.string (bstr s), .string (bstr t2)] 9)) hb19.out
      have hq20 := Blk.new w19 9 #[.string (bstr s), .string (bstr t2)]
      have hy20 := hy16.below hb20
      have hb020 := below_then hb20 hb016
      obtain ⟨q2, eq2⟩ : ∃ q, w19.heap.size = q := ⟨_, rfl⟩
      rw [eq2] at hq20
      replace eq2 := Lib.hid eq2
      clear hb19 hb016
      go_upto_region 19 with (fail)
      try rw [eq2.out]
      clear eq2 hst
      generalize w19.alloc (.cells #[.string (bstr s), .string (bstr t2)] 9) = w20 at *
      go_wp2_with fail
      go_loopw [110] (fun i wr => ∃ k : Nat, k ≤ 2 ∧ i = .int .i64 (k : Int) ∧ RowKit.Below w20.heap.size w20 wr) (fun i _ => 2 - (RowKit.intOf i).toNat)
      case atStart => exact ⟨0, by omega, rfl, RowKit.Below.refl _ _⟩
      case round =>
        rename_i hrel
        obtain ⟨k, hk, rfl, hbr⟩ := hrel
        by_cases hlt : k < 2
        · have hqr := hq20.below hbr hq20.lt
          have hyr := hy20.below hbr
          have hb0r := below_then hbr hb020
          have hb16r := below_then hbr hb20
          have hel : ∃ (L : List UInt8), wr.cell? ⟨q2, k, none⟩ = some (.string (bstr L)) ∧ L.length ≤ 1000 := by
            rcases (show k = 0 ∨ k = 1 by omega) with rfl | rfl
            · exact ⟨s, hqr.cell 0, by omega⟩
            · exact ⟨t2, hqr.cell 1, by omega⟩
          obtain ⟨L, e0, hLl⟩ := hel
          have hkw : IntKind.i64.wrap ((k : Int) + 1) = (k : Int) + 1 := by rw [IntKind.wrap_i64]; omega
          have hd0 : decide ((k : Int) < 2) = true := decide_eq_true (by omega)
          clear hqr
          go_upto_region 21 with (fail)
          clear e0
          have hpa := parse_walk L (by omega) wr (hL.out.next hb0r)
          replace hpa := Lib.hid hpa
          go_wp2_with fail
          refine hpa.out.mono ?_
          clear hpa
          rintro e w21 ⟨g6, v6, ns6, b6, A6, c6', rfl, hv6, ho6, hb6, -, hgl, hnl, hyes, hno⟩
          dsimp only
          have hz22 := RefAt.new (T := 26) (g := g6) (v := v6) (c := c6') ho6.reads_
          have hb22 := below_then (below_alloc w21 (.cells #[.string (bstr g6), .int .u32 (v6 : Int), .slice A6 ns6.length c6'] 26)) hb6
          obtain ⟨z, ez⟩ : ∃ z, w21.heap.size = z := ⟨_, rfl⟩
          rw [ez] at hz22
          replace ez := Lib.hid ez
          replace hyes := Lib.hid hyes
          replace hno := Lib.hid hno
          clear hb6 ho6
          go_upto_region 22 with (fail)
          try rw [ez.out]
          generalize w21.alloc (.cells #[.string (bstr g6), .int .u32 (v6 : Int), .slice A6 ns6.length c6'] 26) = w22 at *
          clear ez
          have hy22 := hyr.below hb22
          cases b6 with
          | true =>
            obtain ⟨hte, hr6, -⟩ := hyes.out rfl
            have htx6 := text_any (g := g6) (v := v6) (c := c6') hz22.row (by omega) (by omega) hv6 (hL.out.next (below_then hb22 hb0r))
            rw [hte] at htx6
            replace htx6 := Lib.hid htx6
            have k0 := hz22.blk.cell 0
            have k1 := hz22.blk.cell 1
            have k2 := hz22.blk.cell 2
            have tLL : (L != L) = false := by simp
            clear hyes hno hte hr6
            go_wp2_with fail
            refine htx6.out.mono ?_
            clear htx6 k0 k1 k2
            rintro e w23 ⟨rfl, hb23⟩
            dsimp only
            have hb23' := below_then hb23 hb22
            go_wp2_with fail
            go_roundw
            case rel => exact ⟨k + 1, by omega, by go_num, below_then hb23' hbr⟩
            case measure => simp [RowKit.intOf]; omega
          | false =>
            obtain ⟨⟨e1, e2, e3⟩, hne⟩ := hno.out rfl
            subst e1 e2 e3
            have hLT : (L == T) = false := by rw [beq_eq_false_iff_ne]; exact fun h => hne gm vm nm hrm.out hvm (hT.trans h.symm)
            have k0 : w22.cell? ⟨z, 0, none⟩ = some (.string ⟨#[]⟩) := hz22.blk.cell 0
            have k1 : w22.cell? ⟨z, 1, none⟩ = some (.int .u32 0) := hz22.blk.cell 1
            have k2 : w22.cell? ⟨z, 2, none⟩ = some (.slice A6 0 c6') := hz22.blk.cell 2
            have hsm : Calls Tryd.prog 14 #[.agg #[.string ⟨#[]⟩, .int .u32 0, .slice A6 0 c6'], .agg #[.string ⟨#[]⟩, .int .u32 0, .slice none 0 0]] w22 (BoolRes w22 true) := same_true (g := []) (v := 0) (ns := []) (c := c6') (c' := 0) hz22.row Reads.none_ (by simp)
            replace hsm := Lib.hid hsm
            clear hyes hno hne
            go_wp2_with fail
            refine hsm.out.mono ?_
            clear hsm k0 k1 k2
            rintro e w23 ⟨rfl, hb23⟩
            dsimp only
            have hy23 := hy22.below hb23
            have hb23' := below_then hb23 hb22
            have k0 := hy23.blk.cell 0
            have k1 := hy23.blk.cell 1
            have k2 := hy23.blk.cell 2
            go_wp2_with fail
            refine of_walk.mono ?_
            clear k0 k1 k2
            rintro e w24 ⟨rfl, hb24⟩
            dsimp only
            have hb24' := below_then hb24 hb23'
            go_wp2_with fail
            refine (htx.out _ (below_then hb24' hb16r)).mono ?_
            rintro e w25 ⟨rfl, hb25⟩
            dsimp only
            have hb25' := below_then hb25 hb24'
            go_wp2_with fail
            go_roundw
            case rel => exact ⟨k + 1, by omega, by go_num, below_then hb25' hbr⟩
            case measure => simp [RowKit.intOf]; omega
        · obtain rfl : k = 2 := by omega
          go_wp2_with fail
          go_ret
          exact ⟨rfl, below_then hbr hb020⟩
end Go.Proofs.YtdnoafjaheofcaaDoor
