/- RefBack: the walk. -/
import Derived.Test.YtdnoafjaheofcaaDoorRf18
set_option linter.unusedSimpArgs false
set_option linter.unusedVariables false
namespace Go.Proofs.YtdnoafjaheofcaaDoor
open Go.RowKit Go.Sort Go.Lib
set_option maxRecDepth 100000

def six (g : List UInt8) (v : Nat) (A : Option Addr) (n c : Nat) (g' : List UInt8) (v' : Nat) (A' : Option Addr) (n' c' : Nat) : Array Value :=
  #[.string (bstr g), .int .u32 (v : Int), .slice A n c, .string (bstr g'), .int .u32 (v' : Int), .slice A' n' c']

set_option maxHeartbeats 6400000 in
theorem refBack_walk (bs : List UInt8) (B : Option Addr) (d : Nat) (g : List UInt8) (v : Nat) (ns : List Int) (A : Option Addr) (c : Nat) (l : List UInt8) (vm : Nat) (mask : Int) (w : World) (hL : LaidW w)
    (hB : Reads w w.heap.size 1 B bs.length (bys bs)) (hd : bs.length ≤ d) (hA : Reads w w.heap.size 1 A ns.length (ints ns)) (hbl : bs.length ≤ 140737488351232) (hgl : g.length ≤ 140737488351232) (hnl : ns.length ≤ 140737488351232) (hll : l.length ≤ 140737488351232)
    (hv : v < 4294967296) (hvm : vm < 4294967296) (hm0 : 0 ≤ mask) (hm1 : mask ≤ 65535) :
    Calls Tryd.prog 3 #[.slice B bs.length d, .agg #[.string (bstr g), .int .u32 (v : Int), .slice A ns.length c], .string (bstr l), .int .u32 (vm : Int), .int .u16 mask] w (BoolRes w true) := by
  have hx1 := RefAt.new (T := 26) (g := g) (v := v) (c := c) hA
  have hb1 := below_alloc w (.cells #[.string (bstr g), .int .u32 (v : Int), .slice A ns.length c] 26)
  have hB1 := (hB.below hb1).more hb1.size
  have hls : (bstr l).size = l.length := bstr_size l
  have hgs : (bstr g).size = g.length := bstr_size g
  obtain ⟨x, ex⟩ : ∃ x, w.heap.size = x := ⟨_, rfl⟩
  rw [ex] at hx1
  replace ex := Lib.hid ex
  replace hls := Lib.hid hls
  replace hgs := Lib.hid hgs
  replace hL := Lib.hid hL
  go_enter Tryd.func3, Tryd.ntmps3
  go_upto_region 1 with (fail)
  try rw [ex.out]
  generalize w.alloc (.cells #[.string (bstr g), .int .u32 (v : Int), .slice A ns.length c] 26) = w1 at *
  go_wp2_with fail
  refine (known_true w1 (hL.out.next hb1)).mono ?_
  rintro e w2 ⟨rfl, hb2⟩
  dsimp only
  have hx2 := hx1.below hb2
  have hB2 := (hB1.below hb2).more hb2.size
  have hb02 := below_then hb2 hb1
  clear hx1 hB1 hb1 hb2 hB hA
  have k0 := hx2.blk.cell 0
  have k2 := hx2.blk.cell 2
  by_cases h1 : 100 < bs.length
  · go_wp2_with fail
    go_ret
    exact ⟨rfl, hb02⟩
  by_cases h2 : 100 < g.length
  · go_wp2_with fail
    go_ret
    exact ⟨rfl, hb02⟩
  by_cases h3 : 20 < ns.length
  · go_wp2_with fail
    go_ret
    exact ⟨rfl, hb02⟩
  by_cases h4 : 100 < l.length
  · go_wp2_with fail
    go_ret
    exact ⟨rfl, hb02⟩
  have d1 : decide ((100 : Int) < (bs.length : Int)) = false := decide_eq_false (by omega)
  have d2 : decide ((100 : Int) < (g.length : Int)) = false := decide_eq_false (by omega)
  have d3 : decide ((20 : Int) < (ns.length : Int)) = false := decide_eq_false (by omega)
  have d4 : decide ((100 : Int) < (l.length : Int)) = false := decide_eq_false (by omega)
  go_wp2_with fail
  refine (made_walk l (by omega) vm mask hm0 hm1 w2).mono ?_
  rintro e w3 ⟨gm, nm, Am, cm, rfl, hrm, hom, hb3, hgm⟩
  dsimp only
  clear d1 d2 d3 d4 k0 k2
  have hx3 := hx2.below hb3
  have hB3 := (hB2.below hb3).more hb3.size
  have hb03 := below_then hb3 hb02
  have hy4 := RefAt.new (T := 26) (g := gm) (v := vm) (c := cm) hom.reads_
  have hb4 := below_alloc w3 (.cells #[.string (bstr gm), .int .u32 (vm : Int), .slice Am nm.length cm] 26)
  have hx4 := hx3.below hb4
  have hB4 := (hB3.below hb4).more hb4.size
  have hb04 := below_then hb4 hb03
  obtain ⟨y, ey⟩ : ∃ y, w3.heap.size = y := ⟨_, rfl⟩
  rw [ey] at hy4
  replace ey := Lib.hid ey
  clear hx2 hB2 hb02 hx3 hB3 hb03 hb3 hb4 hom hgm
  obtain ⟨lm1, lm2, lm3, lm4, -⟩ := right_yes hrm
  replace hrm := Lib.hid hrm
  go_upto_region 6 with (fail)
  try rw [ey.out]
  generalize w3.alloc (.cells #[.string (bstr gm), .int .u32 (vm : Int), .slice Am nm.length cm] 26) = w4 at *
  have hb5 := below_alloc w4 (.cells (six g v A ns.length c gm vm Am nm.length cm) 26)
  have hq5 := Blk.new w4 26 (six g v A ns.length c gm vm Am nm.length cm)
  have hx5 := hx4.below hb5
  have hy5 := hy4.below hb5
  have hB5 := (hB4.below hb5).more hb5.size
  have hb05 := below_then hb5 hb04
  have k0 := hx4.blk.cell 0
  have k1 := hx4.blk.cell 1
  have k2 := hx4.blk.cell 2
  have m0 := hy4.blk.cell 0
  have m1 := hy4.blk.cell 1
  have m2 := hy4.blk.cell 2
  obtain ⟨q, eq⟩ : ∃ q, w4.heap.size = q := ⟨_, rfl⟩
  rw [eq] at hq5
  replace eq := Lib.hid eq
  clear hb5
  go_upto_region 7 with (fail)
  try rw [eq.out]
  clear k0 k1 k2 m0 m1 m2 hx4 hy4 hB4 hb04
  change Code.wp _ _ _ _ (w4.alloc (.cells (six g v A ns.length c gm vm Am nm.length cm) 26))
  generalize w4.alloc (.cells (six g v A ns.length c gm vm Am nm.length cm) 26) = w5 at *
  have hgL : g.length ≤ 100 := by omega
  have hnL : ns.length ≤ 20 := by omega
  clear h2 h3 h4
  go_wp2_with fail
  go_loopw [52] (fun i wr => ∃ k : Nat, k ≤ 2 ∧ i = .int .i64 (k : Int) ∧ RowKit.Below w5.heap.size w5 wr) (fun i _ => 2 - (RowKit.intOf i).toNat)
  case atStart => exact ⟨0, by omega, rfl, RowKit.Below.refl _ _⟩
  case round =>
    rename_i hrel
    obtain ⟨k, hk, rfl, hbr⟩ := hrel
    have hxr := hx5.below hbr
    have hyr := hy5.below hbr
    have hBr := (hB5.below hbr).more hbr.size
    have hb0r := below_then hbr hb05
    have hqr := hq5.below hbr hq5.lt
    by_cases hlt : k < 2
    · have hel : ∃ (G : List UInt8) (V : Nat) (NS : List Int) (AA : Option Addr) (CC : Nat), wr.cell? ⟨q, k * 3, none⟩ = some (.string (bstr G)) ∧ wr.cell? ⟨q, k * 3 + 1, none⟩ = some (.int .u32 (V : Int)) ∧ wr.cell? ⟨q, k * 3 + 2, none⟩ = some (.slice AA NS.length CC) ∧ Reads wr wr.heap.size 1 AA NS.length (ints NS) ∧ V < 4294967296 ∧ G.length ≤ 100 ∧ NS.length ≤ 20 := by
        rcases (show k = 0 ∨ k = 1 by omega) with rfl | rfl
        · exact ⟨g, v, ns, A, c, hqr.cell 0, hqr.cell 1, hqr.cell 2, hxr.row, hv, hgL, hnL⟩
        · exact ⟨gm, vm, nm, Am, cm, hqr.cell 3, hqr.cell 4, hqr.cell 5, hyr.row, hvm, by omega, by omega⟩
      obtain ⟨G, V, NS, AA, CC, e0, e1, e2, hrow, hV, hGl, hNl⟩ := hel
      go_upto_region 9 with (fail)
      /- ROUND -/
      have hz9 := RefAt.new (T := 26) (g := G) (v := V) (c := CC) hrow
      have hb9 := below_alloc wr (.cells #[.string (bstr G), .int .u32 (V : Int), .slice AA NS.length CC] 26)
      have hB9 := (hBr.below hb9).more hb9.size
      have hL9 := hL.out.next (below_then hb9 hb0r)
      have hb59 := below_then hb9 hbr
      obtain ⟨z, ez⟩ : ∃ z, wr.heap.size = z := ⟨_, rfl⟩
      rw [ez] at hz9
      try rw [ez]
      clear ez
      clear e0 e1 e2 hrow hxr hyr hBr hb0r hqr hb9
      generalize wr.alloc (.cells #[.string (bstr G), .int .u32 (V : Int), .slice AA NS.length CC] 26) = w9 at *
      have c0 := hz9.blk.cell 0
      have c1 := hz9.blk.cell 1
      have c2 := hz9.blk.cell 2
      cases hrG : rightB G NS with
      | false =>
        have hput := put_no (n := bs.length) (d := d) (C := B) (c := CC) (v := (V : Int)) hz9.row (by omega) (by omega) hrG
        have hputr := fun W (hW : RowKit.Below w9.heap.size w9 W) => ref_put_no (n := bs.length) (d := bs.length) (C := B) (c := CC) (v := (V : Int)) ((hz9.row.below hW).more hW.size) (by omega) (by omega) hrG
        have htx := fun W (hW : RowKit.Below w9.heap.size w9 W) => text_no (c := CC) (v := (V : Int)) ((hz9.row.below hW).more hW.size) (by omega) (by omega) hrG
        have htxr := fun W (hW : RowKit.Below w9.heap.size w9 W) => ref_text_no (c := CC) (v := (V : Int)) ((hz9.row.below hW).more hW.size) (by omega) (by omega) hrG
        have hcv : ∀ W, (convert 22 9 (.slice none 0 0)).run Tryd.prog W = .ok (.string (bstr [])) W := fun W => conv_bytes (w := W) (B := 0) (bs := []) (n := 0) (c := 0) Reads.none_
        replace hput := Lib.hid hput
        replace hputr := Lib.hid hputr
        replace htx := Lib.hid htx
        replace htxr := Lib.hid htxr
        replace hcv := Lib.hid hcv
        replace hrG := Lib.hid hrG
        go_wp2_with fail
        refine hput.out.mono ?_
        clear hput c0 c1 c2
        rintro e w10 ⟨rfl, hb10⟩
        dsimp only
        have hS10 : Blk w10.drew z 26 #[.string (bstr G), .int .u32 (V : Int), .slice AA NS.length CC] := (hz9.below hb10).blk.drew
        have hbd : RowKit.Below w9.heap.size w9 w10.drew := hb10.drew
        go_wp2_with fail
        refine wp_region_lex (fun W => Blk W z 26 #[.string (bstr G), .int .u32 (V : Int), .slice AA NS.length CC]) [6] [7, 8] [0, 1, 2, 3, 4, 5, 6, 7, 8, 9, 10, 11, 12, 13] (by kernel_rfl) rfl (by kernel_rfl) (by kernel_rfl) (fun _ _ d _ _ h => by cases d <;> exact h) ?_
        generalize w10.drew = v10 at *
        repeat (first | (refine lexG_take _ ?_ rfl rfl rfl rfl (fun _ => ?_) ?_; rotate_left; (focus (go_simp; with_reducible rfl)); try simp only [Act.put, List.setIfInBounds_toArray, List.set_cons_zero, List.set_cons_succ]) | (refine lexG_held _ ?_ rfl rfl rfl rfl (by assumption) (fun _ hSw => ?_) ?_; rotate_left; (focus (have z0 := hSw.cell 0; have z1 := hSw.cell 1; have z2 := hSw.cell 2; clear hSw; go_simp; with_reducible rfl)); try simp only [Act.put, List.setIfInBounds_toArray, List.set_cons_zero, List.set_cons_succ]) | (refine lexG_skip _ rfl rfl (by assumption) ?_; try simp only [Act.put, List.setIfInBounds_toArray, List.set_cons_zero, List.set_cons_succ]))
        refine lexG_now _ rfl rfl rfl (fun K hK => ?_)
        go_wp2_with fail
        refine of_walk.mono ?_
        rintro e w11 ⟨rfl, hb11⟩
        dsimp only
        have hS11 := hS10.below hb11 hS10.lt
        have hbd11 := below_then hb11 hbd
        refine hK _ _ _ (fun _ h => h) hS11 ?_
        clear hK K
        try simp only [Act.put, List.setIfInBounds_toArray, List.set_cons_zero, List.set_cons_succ]
        repeat (refine lexG_take _ ?_ rfl rfl rfl rfl (fun _ => ?_) ?_; rotate_left; (focus (go_simp; with_reducible rfl)); try simp only [Act.put, List.setIfInBounds_toArray, List.set_cons_zero, List.set_cons_succ])
        refine lexG_now _ rfl rfl rfl (fun K hK => ?_)
        go_wp2_with fail
        refine (hputr.out _ hbd11).mono ?_
        rintro e w12 ⟨rfl, hb12⟩
        dsimp only
        have hS12 := hS11.below hb12 hS11.lt
        have hbd12 := below_then hb12 hbd11
        refine hK _ _ _ (fun _ h => h) hS12 ?_
        clear hK K
        try simp only [Act.put, List.setIfInBounds_toArray, List.set_cons_zero, List.set_cons_succ]
        repeat (refine lexG_take _ ?_ rfl rfl rfl rfl (fun _ => ?_) ?_; rotate_left; (focus (go_simp; with_reducible rfl)); try simp only [Act.put, List.setIfInBounds_toArray, List.set_cons_zero, List.set_cons_succ])
        refine lexG_nil ?_
        have hS12d := hS12.drew
        have hbd12d : RowKit.Below w9.heap.size w9 w12.drew := hbd12.drew
        have tne : ((22 : Int) != 22) = false := rfl
        go_wp2_with fail
        refine wp_region_lex (fun W => Blk W z 26 #[.string (bstr G), .int .u32 (V : Int), .slice AA NS.length CC]) [5, 7, 11, 13] [12, 14, 15] [0, 1, 2, 3, 4, 5, 6, 7, 8, 9, 10, 11, 13, 12, 14, 15, 16, 17] (by kernel_rfl) rfl (by kernel_rfl) (by kernel_rfl) (fun _ _ d _ _ h => by cases d <;> exact h) ?_
        generalize w12.drew = v12 at *
        repeat (first | (refine lexG_take _ ?_ rfl rfl rfl rfl (fun _ => ?_) ?_; rotate_left; (focus (go_simp; with_reducible rfl)); try simp only [Act.put, List.setIfInBounds_toArray, List.set_cons_zero, List.set_cons_succ]) | (refine lexG_held _ ?_ rfl rfl rfl rfl (by assumption) (fun _ hSw => ?_) ?_; rotate_left; (focus (have z0 := hSw.cell 0; have z1 := hSw.cell 1; have z2 := hSw.cell 2; have z3 := hcv.out; clear hSw; go_simp; with_reducible rfl)); try simp only [Act.put, List.setIfInBounds_toArray, List.set_cons_zero, List.set_cons_succ]) | (refine lexG_skip _ rfl rfl (by assumption) ?_; try simp only [Act.put, List.setIfInBounds_toArray, List.set_cons_zero, List.set_cons_succ]))
        refine lexG_now _ rfl rfl rfl (fun K hK => ?_)
        go_wp2_with fail
        refine (htx.out _ hbd12d).mono ?_
        rintro e w13 ⟨rfl, hb13⟩
        dsimp only
        have hS13 := hS12d.below hb13 hS12d.lt
        have hbd13 := below_then hb13 hbd12d
        refine hK _ _ _ (fun _ h => h) hS13 ?_
        clear hK K
        try simp only [Act.put, List.setIfInBounds_toArray, List.set_cons_zero, List.set_cons_succ]
        repeat (first | (refine lexG_take _ ?_ rfl rfl rfl rfl (fun _ => ?_) ?_; rotate_left; (focus (go_simp; with_reducible rfl)); try simp only [Act.put, List.setIfInBounds_toArray, List.set_cons_zero, List.set_cons_succ]) | (refine lexG_held _ ?_ rfl rfl rfl rfl (by assumption) (fun _ hSw => ?_) ?_; rotate_left; (focus (have z0 := hSw.cell 0; have z1 := hSw.cell 1; have z2 := hSw.cell 2; have z3 := hcv.out; clear hSw; go_simp; with_reducible rfl)); try simp only [Act.put, List.setIfInBounds_toArray, List.set_cons_zero, List.set_cons_succ]) | (refine lexG_skip _ rfl rfl (by assumption) ?_; try simp only [Act.put, List.setIfInBounds_toArray, List.set_cons_zero, List.set_cons_succ]))
        refine lexG_now _ rfl rfl rfl (fun K hK => ?_)
        go_wp2_with fail
        refine of_walk.mono ?_
        rintro e w14 ⟨rfl, hb14⟩
        dsimp only
        have hS14 := hS13.below hb14 hS13.lt
        have hbd14 := below_then hb14 hbd13
        refine hK _ _ _ (fun _ h => h) hS14 ?_
        clear hK K
        try simp only [Act.put, List.setIfInBounds_toArray, List.set_cons_zero, List.set_cons_succ]
        repeat (first | (refine lexG_take _ ?_ rfl rfl rfl rfl (fun _ => ?_) ?_; rotate_left; (focus (go_simp; with_reducible rfl)); try simp only [Act.put, List.setIfInBounds_toArray, List.set_cons_zero, List.set_cons_succ]) | (refine lexG_held _ ?_ rfl rfl rfl rfl (by assumption) (fun _ hSw => ?_) ?_; rotate_left; (focus (have z0 := hSw.cell 0; have z1 := hSw.cell 1; have z2 := hSw.cell 2; have z3 := hcv.out; clear hSw; go_simp; with_reducible rfl)); try simp only [Act.put, List.setIfInBounds_toArray, List.set_cons_zero, List.set_cons_succ]) | (refine lexG_skip _ rfl rfl (by assumption) ?_; try simp only [Act.put, List.setIfInBounds_toArray, List.set_cons_zero, List.set_cons_succ]))
        refine lexG_now _ rfl rfl rfl (fun K hK => ?_)
        go_wp2_with fail
        refine (htxr.out _ hbd14).mono ?_
        rintro e w15 ⟨rfl, hb15⟩
        dsimp only
        have hS15 := hS14.below hb15 hS14.lt
        have hbd15 := below_then hb15 hbd14
        refine hK _ _ _ (fun _ h => h) hS15 ?_
        clear hK K
        try simp only [Act.put, List.setIfInBounds_toArray, List.set_cons_zero, List.set_cons_succ]
        repeat (first | (refine lexG_take _ ?_ rfl rfl rfl rfl (fun _ => ?_) ?_; rotate_left; (focus (go_simp; with_reducible rfl)); try simp only [Act.put, List.setIfInBounds_toArray, List.set_cons_zero, List.set_cons_succ]) | (refine lexG_held _ ?_ rfl rfl rfl rfl (by assumption) (fun _ hSw => ?_) ?_; rotate_left; (focus (have z0 := hSw.cell 0; have z1 := hSw.cell 1; have z2 := hSw.cell 2; have z3 := hcv.out; clear hSw; go_simp; with_reducible rfl)); try simp only [Act.put, List.setIfInBounds_toArray, List.set_cons_zero, List.set_cons_succ]) | (refine lexG_skip _ rfl rfl (by assumption) ?_; try simp only [Act.put, List.setIfInBounds_toArray, List.set_cons_zero, List.set_cons_succ]))
        refine lexG_nil ?_
        have t22 : ((22 : Int) != 0) = true := rfl
        go_wp2_with fail
        go_roundw
        case rel => exact ⟨k + 1, by omega, by go_num, below_then hbd15 hb59⟩
        case measure => simp [RowKit.intOf]; omega
      | true =>
        have hput := put_yes (d := d) (c := CC) hz9.row hB9 (by omega) hV hrG rfl
        have hputr := fun W (hW : RowKit.Below w9.heap.size w9 W) => ref_put_yes (c := CC) ((hz9.row.below hW).more hW.size) ((hB9.below hW).more hW.size) (by omega) hV hrG rfl
        have htx := fun W (hW : RowKit.Below w9.heap.size w9 W) => text_yes (c := CC) ((hz9.row.below hW).more hW.size) hV hrG (hL9.next hW)
        have htxr := fun W (hW : RowKit.Below w9.heap.size w9 W) => ref_text_yes (c := CC) ((hz9.row.below hW).more hW.size) hV hrG
        have hTl := (textR_len (v := V) hrG hV).1
        have hrdR := rdR_framed hrG hV
        obtain ⟨P, hP⟩ : ∃ P, framed (payR G V NS) = P := ⟨_, rfl⟩
        have hPl : P.length = 15 + G.length + NS.length := by rw [← hP, framed_len, payR_len]; omega
        rw [hP] at hput hrdR
        have hputr2 : ∀ W, RowKit.Below w9.heap.size w9 W → Calls Tryd.prog 8 #[.slice B bs.length bs.length, .agg #[.string (bstr G), .int .u32 (V : Int), .slice AA NS.length CC]] W (WrapOk W (bs ++ P) .i64) := fun W hW => by have := hputr W hW; rw [hP] at this; exact this
        clear hputr
        obtain ⟨F, hF⟩ : ∃ F, bs ++ P = F := ⟨_, rfl⟩
        have hFl : F.length = bs.length + P.length := by rw [← hF, List.length_append]
        have hFd : bys F = bys bs ++ bys P := by rw [← hF, bys_append]
        rw [hF] at hput hputr2
        obtain ⟨T, hT⟩ : ∃ T, textR G V NS = T := ⟨_, rfl⟩
        rw [hT] at hTl
        have htx2 : ∀ W, RowKit.Below w9.heap.size w9 W → Calls Tryd.prog 10 #[.agg #[.string (bstr G), .int .u32 (V : Int), .slice AA NS.length CC]] W (fun e w' => e = .returned (.string (bstr T)) ∧ RowKit.Below W.heap.size W w') := fun W hW => by have := htx W hW; rw [hT] at this; exact this
        have htxr2 : ∀ W, RowKit.Below w9.heap.size w9 W → Calls Tryd.prog 11 #[.agg #[.string (bstr G), .int .u32 (V : Int), .slice AA NS.length CC]] W (fun e w' => e = .returned (.string (bstr T)) ∧ RowKit.Below W.heap.size W w') := fun W hW => by have := htxr W hW; rw [hT] at this; exact this
        clear htx htxr hF
        replace hP := Lib.hid hP
        replace hT := Lib.hid hT
        replace hput := Lib.hid hput
        replace hputr2 := Lib.hid hputr2
        replace htx2 := Lib.hid htx2
        replace htxr2 := Lib.hid htxr2
        replace hrdR := Lib.hid hrdR
        replace hrG := Lib.hid hrG
        replace hPl := Lib.hid hPl
        replace hFl := Lib.hid hFl
        replace hFd := Lib.hid hFd
        go_wp2_with fail
        refine hput.out.mono ?_
        clear hput c0 c1 c2
        rintro e w10 ⟨B8, c8, rfl, ho8, hb10, -⟩
        dsimp only
        have hS10 : Blk w10.drew z 26 #[.string (bstr G), .int .u32 (V : Int), .slice AA NS.length CC] := (hz9.below hb10).blk.drew
        have hbd : RowKit.Below w9.heap.size w9 w10.drew := hb10.drew
        have ho8d := ho8.drew
        go_wp2_with fail
        refine wp_region_lex (fun W => Blk W z 26 #[.string (bstr G), .int .u32 (V : Int), .slice AA NS.length CC]) [6] [7, 8] [0, 1, 2, 3, 4, 5, 6, 7, 8, 9, 10, 11, 12, 13] (by kernel_rfl) rfl (by kernel_rfl) (by kernel_rfl) (fun _ _ d _ _ h => by cases d <;> exact h) ?_
        generalize w10.drew = v10 at *
        repeat (first | (refine lexG_take _ ?_ rfl rfl rfl rfl (fun _ => ?_) ?_; rotate_left; (focus (go_simp; with_reducible rfl)); try simp only [Act.put, List.setIfInBounds_toArray, List.set_cons_zero, List.set_cons_succ]) | (refine lexG_held _ ?_ rfl rfl rfl rfl (by assumption) (fun _ hSw => ?_) ?_; rotate_left; (focus (have z0 := hSw.cell 0; have z1 := hSw.cell 1; have z2 := hSw.cell 2; clear hSw; go_simp; with_reducible rfl)); try simp only [Act.put, List.setIfInBounds_toArray, List.set_cons_zero, List.set_cons_succ]) | (refine lexG_skip _ rfl rfl (by assumption) ?_; try simp only [Act.put, List.setIfInBounds_toArray, List.set_cons_zero, List.set_cons_succ]))
        refine lexG_now _ rfl rfl rfl (fun K hK => ?_)
        go_wp2_with fail
        refine of_walk.mono ?_
        rintro e w11 ⟨rfl, hb11⟩
        dsimp only
        have hS11 := hS10.below hb11 hS10.lt
        have hbd11 := below_then hb11 hbd
        have ho8e := ho8d.below hb11 (Nat.le_refl _)
        refine hK _ _ _ (fun _ h => h) hS11 ?_
        clear hK K
        try simp only [Act.put, List.setIfInBounds_toArray, List.set_cons_zero, List.set_cons_succ]
        repeat (refine lexG_take _ ?_ rfl rfl rfl rfl (fun _ => ?_) ?_; rotate_left; (focus (go_simp; with_reducible rfl)); try simp only [Act.put, List.setIfInBounds_toArray, List.set_cons_zero, List.set_cons_succ])
        refine lexG_now _ rfl rfl rfl (fun K hK => ?_)
        go_wp2_with fail
        refine (hputr2.out _ hbd11).mono ?_
        rintro e w12 ⟨BC, cC, rfl, hoC, hb12, -⟩
        dsimp only
        have hS12 := hS11.below hb12 hS11.lt
        have hbd12 := below_then hb12 hbd11
        have ho8f := ho8e.below hb12 (Nat.le_refl _)
        refine hK _ _ _ (fun _ h => h) hS12 ?_
        clear hK K
        try simp only [Act.put, List.setIfInBounds_toArray, List.set_cons_zero, List.set_cons_succ]
        repeat (refine lexG_take _ ?_ rfl rfl rfl rfl (fun _ => ?_) ?_; rotate_left; (focus (go_simp; with_reducible rfl)); try simp only [Act.put, List.setIfInBounds_toArray, List.set_cons_zero, List.set_cons_succ])
        refine lexG_nil ?_
        have hz12 : RefAt w12.drew z 26 G V NS AA CC := (hz9.below hbd12).drew
        have hbd12d : RowKit.Below w9.heap.size w9 w12.drew := hbd12.drew
        have hr8 := ho8f.drew.reads_
        have hrC := hoC.drew.reads_
        have ho8g := ho8f.drew
        have tne : ((0 : Int) != 0) = false := rfl
        have tFF : (F != F) = false := by simp
        clear ho8 ho8d ho8e ho8f hoC hS10 hS11 hS12 hb10 hb11 hb12 hbd hbd11 hbd12
        go_wp2_with fail
        refine wp_region_lex (fun W => RowKit.Below w12.drew.heap.size w12.drew W) [5, 7, 11, 13] [12, 14, 15] [0, 1, 2, 3, 4, 5, 6, 7, 8, 9, 10, 11, 13, 12, 14, 15, 16, 17] (by kernel_rfl) rfl (by kernel_rfl) (by kernel_rfl) (fun _ _ d _ _ h => by cases d <;> exact h) ?_
        generalize w12.drew = v12 at *
        have hSk := RowKit.Below.refl v12.heap.size v12
        repeat (first | (refine lexG_take _ ?_ rfl rfl rfl rfl (fun _ => ?_) ?_; rotate_left; (focus (go_simp; with_reducible rfl)); try simp only [Act.put, List.setIfInBounds_toArray, List.set_cons_zero, List.set_cons_succ]) | (refine lexG_held _ ?_ rfl rfl rfl rfl (by assumption) (fun _ hSw => ?_) ?_; rotate_left; (focus (have z0 := (hz12.below hSw).blk.cell 0; have z1 := (hz12.below hSw).blk.cell 1; have z2 := (hz12.below hSw).blk.cell 2; have z3 := conv_bytes (c := c8) (hr8.below hSw); have z4 := conv_bytes (c := cC) (hrC.below hSw); clear hSw; go_simp; with_reducible rfl)); try simp only [Act.put, List.setIfInBounds_toArray, List.set_cons_zero, List.set_cons_succ]) | (refine lexG_skip _ rfl rfl (by assumption) ?_; try simp only [Act.put, List.setIfInBounds_toArray, List.set_cons_zero, List.set_cons_succ]))
        refine lexG_now _ rfl rfl rfl (fun K hK => ?_)
        go_wp2_with fail
        refine (htx2.out _ hbd12d).mono ?_
        rintro e w13 ⟨rfl, hb13⟩
        dsimp only
        have hS13 : RowKit.Below v12.heap.size v12 w13 := hb13
        refine hK _ _ _ (fun _ h => h) hS13 ?_
        clear hK K hSk
        try simp only [Act.put, List.setIfInBounds_toArray, List.set_cons_zero, List.set_cons_succ]
        repeat (first | (refine lexG_take _ ?_ rfl rfl rfl rfl (fun _ => ?_) ?_; rotate_left; (focus (go_simp; with_reducible rfl)); try simp only [Act.put, List.setIfInBounds_toArray, List.set_cons_zero, List.set_cons_succ]) | (refine lexG_held _ ?_ rfl rfl rfl rfl (by assumption) (fun _ hSw => ?_) ?_; rotate_left; (focus (have z0 := (hz12.below hSw).blk.cell 0; have z1 := (hz12.below hSw).blk.cell 1; have z2 := (hz12.below hSw).blk.cell 2; have z3 := conv_bytes (c := c8) (hr8.below hSw); have z4 := conv_bytes (c := cC) (hrC.below hSw); clear hSw; go_simp; with_reducible rfl)); try simp only [Act.put, List.setIfInBounds_toArray, List.set_cons_zero, List.set_cons_succ]) | (refine lexG_skip _ rfl rfl (by assumption) ?_; try simp only [Act.put, List.setIfInBounds_toArray, List.set_cons_zero, List.set_cons_succ]))
        refine lexG_now _ rfl rfl rfl (fun K hK => ?_)
        go_wp2_with fail
        refine of_walk.mono ?_
        rintro e w14 ⟨rfl, hb14⟩
        dsimp only
        have hS14 : RowKit.Below v12.heap.size v12 w14 := below_then hb14 hS13
        refine hK _ _ _ (fun _ h => h) hS14 ?_
        clear hK K hb13
        try simp only [Act.put, List.setIfInBounds_toArray, List.set_cons_zero, List.set_cons_succ]
        repeat (first | (refine lexG_take _ ?_ rfl rfl rfl rfl (fun _ => ?_) ?_; rotate_left; (focus (go_simp; with_reducible rfl)); try simp only [Act.put, List.setIfInBounds_toArray, List.set_cons_zero, List.set_cons_succ]) | (refine lexG_held _ ?_ rfl rfl rfl rfl (by assumption) (fun _ hSw => ?_) ?_; rotate_left; (focus (have z0 := (hz12.below hSw).blk.cell 0; have z1 := (hz12.below hSw).blk.cell 1; have z2 := (hz12.below hSw).blk.cell 2; have z3 := conv_bytes (c := c8) (hr8.below hSw); have z4 := conv_bytes (c := cC) (hrC.below hSw); clear hSw; go_simp; with_reducible rfl)); try simp only [Act.put, List.setIfInBounds_toArray, List.set_cons_zero, List.set_cons_succ]) | (refine lexG_skip _ rfl rfl (by assumption) ?_; try simp only [Act.put, List.setIfInBounds_toArray, List.set_cons_zero, List.set_cons_succ]))
        refine lexG_now _ rfl rfl rfl (fun K hK => ?_)
        go_wp2_with fail
        refine (htxr2.out _ (below_then hS14 hbd12d)).mono ?_
        rintro e w15 ⟨rfl, hb15⟩
        dsimp only
        have hS15 : RowKit.Below v12.heap.size v12 w15 := below_then hb15 hS14
        refine hK _ _ _ (fun _ h => h) hS15 ?_
        clear hK K hS13 hb14
        try simp only [Act.put, List.setIfInBounds_toArray, List.set_cons_zero, List.set_cons_succ]
        repeat (first | (refine lexG_take _ ?_ rfl rfl rfl rfl (fun _ => ?_) ?_; rotate_left; (focus (go_simp; with_reducible rfl)); try simp only [Act.put, List.setIfInBounds_toArray, List.set_cons_zero, List.set_cons_succ]) | (refine lexG_held _ ?_ rfl rfl rfl rfl (by assumption) (fun _ hSw => ?_) ?_; rotate_left; (focus (have z0 := (hz12.below hSw).blk.cell 0; have z1 := (hz12.below hSw).blk.cell 1; have z2 := (hz12.below hSw).blk.cell 2; have z3 := conv_bytes (c := c8) (hr8.below hSw); have z4 := conv_bytes (c := cC) (hrC.below hSw); clear hSw; go_simp; with_reducible rfl)); try simp only [Act.put, List.setIfInBounds_toArray, List.set_cons_zero, List.set_cons_succ]) | (refine lexG_skip _ rfl rfl (by assumption) ?_; try simp only [Act.put, List.setIfInBounds_toArray, List.set_cons_zero, List.set_cons_succ]))
        refine lexG_nil ?_
        have hz15 := hz12.below hS15
        have hbd15 := below_then hS15 hbd12d
        have ho15 := ho8g.below hS15 (Nat.le_refl _)
        have tTT : (T != T) = false := by simp
        clear hr8 hrC ho8g hS15 hS14 hb15 hbd12d hz12
        have hcap := ho15.le_cap
        obtain ⟨qq, hB8⟩ : ∃ qq, B8 = some ⟨qq, 0, none⟩ := by
          rcases ho15.2 with ⟨_, h0, _⟩ | ⟨qq, cur, e, _⟩
          · have := hFl.out; have := hPl.out; omega
          · exact ⟨qq, e⟩
        subst hB8
        have hcut := ho15.reads_.cut (k := bs.length) (cap := c8) (by have := hFl.out; omega) hcap
        rw [if_neg (by have := hFl.out; have := hPl.out; omega), Option.map_some, Nat.mul_one, add_row, hFd.out, show bs.length = (bys bs).length from (bys_len bs).symm, List.drop_left, bys_len, show F.length - bs.length = P.length from by have := hFl.out; omega] at hcut
        have hsub : F.length - bs.length = P.length := by have := hFl.out; omega
        have hlt8 : bs.length < c8 := by have := hFl.out; have := hPl.out; omega
        have hle8 : bs.length ≤ F.length := by have := hFl.out; omega
        have hPc : P.length ≤ c8 - bs.length := by omega
        have hPb : P.length ≤ 1000 := by have := hPl.out; omega
        replace hsub := Lib.hid hsub
        have hrd := read_walk hcut hPc (by omega)
        rw [hrdR.out.1, hrdR.out.2] at hrd
        replace hrd := Lib.hid hrd
        go_wp2_with fail
        rw [hsub.out]
        refine hrd.out.mono ?_
        clear hrd hcut hlt8 hle8 hPc hcap ho15
        rintro e w16 ⟨A16, c16, rfl, ho16, hb16, -⟩
        dsimp only at ho16 ⊢
        have hz16 := hz15.below hb16
        have hbd16 := below_then hb16 hbd15
        have hs17 := RefAt.new (T := 26) (g := G) (v := V) (c := c16) ho16.reads_
        have hb17 := below_alloc w16 (.cells #[.string (bstr G), .int .u32 (V : Int), .slice A16 NS.length c16] 26)
        have hz17 := hz16.below hb17
        have hbd17 := below_then hb17 hbd16
        obtain ⟨s, es⟩ : ∃ s, w16.heap.size = s := ⟨_, rfl⟩
        rw [es] at hs17
        replace es := Lib.hid es
        clear hz15 hz16 hbd15 hbd16 hb16 hb17 ho16
        go_upto_region 15 with (fail)
        try rw [es.out]
        generalize w16.alloc (.cells #[.string (bstr G), .int .u32 (V : Int), .slice A16 NS.length c16] 26) = w17 at *
        have c0 := hz17.blk.cell 0
        have c1 := hz17.blk.cell 1
        have c2 := hz17.blk.cell 2
        go_wp2_with fail
        refine (htx2.out _ hbd17).mono ?_
        clear c0 c1 c2
        rintro e w18 ⟨rfl, hb18⟩
        dsimp only
        have hz18 := hz17.below hb18
        have hs18 := hs17.below hb18
        have hbd18 := below_then hb18 hbd17
        clear hz17 hs17 hbd17 hb18
        have hpa := parse_walk T (by omega) w18 (hL9.next hbd18)
        replace hpa := Lib.hid hpa
        go_wp2_with fail
        refine hpa.out.mono ?_
        clear hpa
        rintro e w19 ⟨g6, v6, ns6, b6, A6, c6, rfl, hv6, ho6, hb6, -, -, -, hyes, hno⟩
        dsimp only
        have hb6t : b6 = true := by
          cases b6 with
          | true => rfl
          | false => exact absurd hT.out ((hno rfl).2 G V NS hrG.out hV)
        subst hb6t
        obtain ⟨-, -, hsame⟩ := hyes rfl
        obtain ⟨e1, e2, e3⟩ := hsame G V NS hrG.out hV hT.out
        obtain rfl : G = g6 := e1.symm
        obtain rfl : V = v6 := e2.symm
        obtain rfl : NS = ns6 := e3.symm
        clear e1 e2 e3 hyes hno hsame
        have hy20 := RefAt.new (T := 26) (g := G) (v := V) (c := c6) ho6.reads_
        have hb20 := below_then (below_alloc w19 (.cells #[.string (bstr G), .int .u32 (V : Int), .slice A6 NS.length c6] 26)) hb6
        have hz20 := hz18.below hb20
        have hs20 := hs18.below hb20
        have hbd20 := below_then hb20 hbd18
        obtain ⟨yy, ez⟩ : ∃ yy, w19.heap.size = yy := ⟨_, rfl⟩
        rw [ez] at hy20
        replace ez := Lib.hid ez
        clear hz18 hs18 hbd18 hb20 hb6 ho6
        go_upto_region 16 with (fail)
        try rw [ez.out]
        generalize w19.alloc (.cells #[.string (bstr G), .int .u32 (V : Int), .slice A6 NS.length c6] 26) = w20 at *
        have c0 := hz20.blk.cell 0
        have c1 := hz20.blk.cell 1
        have c2 := hz20.blk.cell 2
        have d'0 := hs20.blk.cell 0
        have d'1 := hs20.blk.cell 1
        have d'2 := hs20.blk.cell 2
        go_wp2_with fail
        refine (same_true (c := c16) (c' := CC) hs20.row hz20.row (by omega)).mono ?_
        clear c0 c1 c2 d'0 d'1 d'2
        rintro e w21 ⟨rfl, hb21⟩
        dsimp only
        have hz21 := hz20.below hb21
        have hy21 := hy20.below hb21
        have hbd21 := below_then hb21 hbd20
        clear hz20 hs20 hy20 hbd20
        have c0 := hz21.blk.cell 0
        have c1 := hz21.blk.cell 1
        have c2 := hz21.blk.cell 2
        have d'0 := hy21.blk.cell 0
        have d'1 := hy21.blk.cell 1
        have d'2 := hy21.blk.cell 2
        go_wp2_with fail
        refine (same_true (c := c6) (c' := CC) hy21.row hz21.row (by omega)).mono ?_
        clear c0 c1 c2 d'0 d'1 d'2
        rintro e w22 ⟨rfl, hb22⟩
        dsimp only
        have hbd22 := below_then hb22 hbd21
        go_wp2_with fail
        go_roundw
        case rel => exact ⟨k + 1, by omega, by go_num, below_then hbd22 hb59⟩
        case measure => simp [RowKit.intOf]; omega
    · obtain rfl : k = 2 := by omega
      have hx6 := hxr.drew
      have hy6 := hyr.drew
      have hb06 : RowKit.Below w.heap.size w wr.drew := hb0r.drew
      have eD : ∀ D : Bool, (D == D) = true := by simp
      have hn2 := fun W => newer_walk (g := gm) (g' := gm) (v := (vm : Int)) (v' := (vm : Int)) (A := Am) (A' := Am) (n := nm.length) (n' := nm.length) (c := cm) (c' := cm) (w := W)
      simp only [beq_self_eq_true, Bool.true_and, Int.lt_irrefl, decide_false] at hn2
      replace hn2 := Lib.hid hn2
      clear hqr hBr hxr hyr hbr hx5 hy5 hB5 hb05 hq5 hb0r
      by_cases hgg : g = gm
      · by_cases hvv : vm < v
        · have hD := (decide_eq_true hvv : decide (vm < v) = true)
          have hD2 : decide ((vm : Int) < (v : Int)) = true := by simp only [Int.ofNat_lt]; exact hD
          have e1 : (g == gm) = true := by simp [hgg]
          have hn1 := fun W => newer_walk (g := g) (g' := gm) (v := (v : Int)) (v' := (vm : Int)) (A := A) (A' := Am) (n := ns.length) (n' := nm.length) (c := c) (c' := cm) (w := W)
          simp only [e1, Bool.true_and, Bool.false_and, hD2] at hn1
          replace hn1 := Lib.hid hn1
          clear hgg
          go_wp2_with fail
          refine wp_region_lex (fun W => RowKit.Below wr.drew.heap.size wr.drew W) [0, 1, 4, 6, 10, 12, 17, 18] [2, 19] [0, 1, 3, 4, 5, 6, 7, 2, 8, 9, 10, 11, 12, 13, 14, 15, 16, 17, 18, 19, 20, 21, 22] (by kernel_rfl) rfl (by kernel_rfl) (by kernel_rfl) (fun _ _ d _ _ h => by cases d <;> exact h) ?_
          generalize wr.drew = v6 at *
          have hSk := RowKit.Below.refl v6.heap.size v6
          repeat (first | (refine lexG_take _ ?_ rfl rfl rfl rfl (fun _ => ?_) ?_; rotate_left; (focus (go_simp; with_reducible rfl)); try simp only [Act.put, List.setIfInBounds_toArray, List.set_cons_zero, List.set_cons_succ]) | (refine lexG_held _ ?_ rfl rfl rfl rfl (by assumption) (fun _ hSw => ?_) ?_; rotate_left; (focus (have z0 := (hx6.below hSw).blk.cell 0; have z1 := (hx6.below hSw).blk.cell 1; have z2 := (hx6.below hSw).blk.cell 2; have q0 := (hy6.below hSw).blk.cell 0; have q1 := (hy6.below hSw).blk.cell 1; have q2 := (hy6.below hSw).blk.cell 2; clear hSw; go_simp; with_reducible rfl)); try simp only [Act.put, List.setIfInBounds_toArray, List.set_cons_zero, List.set_cons_succ]) | (refine lexG_skip _ rfl rfl (by assumption) ?_; try simp only [Act.put, List.setIfInBounds_toArray, List.set_cons_zero, List.set_cons_succ]))
          refine lexG_now _ rfl rfl rfl (fun K hK => ?_)
          go_wp2_with fail
          refine (hn1.out _).mono ?_
          rintro e w7 ⟨rfl, hb7⟩
          dsimp only
          have hS7 : RowKit.Below v6.heap.size v6 w7 := hb7
          refine hK _ _ _ (fun _ h => h) hS7 ?_
          clear hK K hSk
          try simp only [Act.put, List.setIfInBounds_toArray, List.set_cons_zero, List.set_cons_succ]
          repeat (first | (refine lexG_take _ ?_ rfl rfl rfl rfl (fun _ => ?_) ?_; rotate_left; (focus (go_simp; with_reducible rfl)); try simp only [Act.put, List.setIfInBounds_toArray, List.set_cons_zero, List.set_cons_succ]) | (refine lexG_held _ ?_ rfl rfl rfl rfl (by assumption) (fun _ hSw => ?_) ?_; rotate_left; (focus (have z0 := (hx6.below hSw).blk.cell 0; have z1 := (hx6.below hSw).blk.cell 1; have z2 := (hx6.below hSw).blk.cell 2; have q0 := (hy6.below hSw).blk.cell 0; have q1 := (hy6.below hSw).blk.cell 1; have q2 := (hy6.below hSw).blk.cell 2; clear hSw; go_simp; with_reducible rfl)); try simp only [Act.put, List.setIfInBounds_toArray, List.set_cons_zero, List.set_cons_succ]) | (refine lexG_skip _ rfl rfl (by assumption) ?_; try simp only [Act.put, List.setIfInBounds_toArray, List.set_cons_zero, List.set_cons_succ]))
          refine lexG_now _ rfl rfl rfl (fun K hK => ?_)
          go_wp2_with fail
          refine (hn2.out _).mono ?_
          rintro e w8 ⟨rfl, hb8⟩
          dsimp only
          have hS8 : RowKit.Below v6.heap.size v6 w8 := below_then hb8 hS7
          refine hK _ _ _ (fun _ h => h) hS8 ?_
          clear hK K
          try simp only [Act.put, List.setIfInBounds_toArray, List.set_cons_zero, List.set_cons_succ]
          repeat (first | (refine lexG_take _ ?_ rfl rfl rfl rfl (fun _ => ?_) ?_; rotate_left; (focus (go_simp; with_reducible rfl)); try simp only [Act.put, List.setIfInBounds_toArray, List.set_cons_zero, List.set_cons_succ]) | (refine lexG_held _ ?_ rfl rfl rfl rfl (by assumption) (fun _ hSw => ?_) ?_; rotate_left; (focus (have z0 := (hx6.below hSw).blk.cell 0; have z1 := (hx6.below hSw).blk.cell 1; have z2 := (hx6.below hSw).blk.cell 2; have q0 := (hy6.below hSw).blk.cell 0; have q1 := (hy6.below hSw).blk.cell 1; have q2 := (hy6.below hSw).blk.cell 2; clear hSw; go_simp; with_reducible rfl)); try simp only [Act.put, List.setIfInBounds_toArray, List.set_cons_zero, List.set_cons_succ]) | (refine lexG_skip _ rfl rfl (by assumption) ?_; try simp only [Act.put, List.setIfInBounds_toArray, List.set_cons_zero, List.set_cons_succ]))
          refine lexG_nil ?_
          go_wp2_with fail
          go_ret
          exact ⟨rfl, below_then hS8 hb06⟩
        · have hD := (decide_eq_false hvv : decide (vm < v) = false)
          have hD2 : decide ((vm : Int) < (v : Int)) = false := by simp only [Int.ofNat_lt]; exact hD
          have e1 : (g == gm) = true := by simp [hgg]
          have hn1 := fun W => newer_walk (g := g) (g' := gm) (v := (v : Int)) (v' := (vm : Int)) (A := A) (A' := Am) (n := ns.length) (n' := nm.length) (c := c) (c' := cm) (w := W)
          simp only [e1, Bool.true_and, Bool.false_and, hD2] at hn1
          replace hn1 := Lib.hid hn1
          clear hgg
          go_wp2_with fail
          refine wp_region_lex (fun W => RowKit.Below wr.drew.heap.size wr.drew W) [0, 1, 4, 6, 10, 12, 17, 18] [2, 19] [0, 1, 3, 4, 5, 6, 7, 2, 8, 9, 10, 11, 12, 13, 14, 15, 16, 17, 18, 19, 20, 21, 22] (by kernel_rfl) rfl (by kernel_rfl) (by kernel_rfl) (fun _ _ d _ _ h => by cases d <;> exact h) ?_
          generalize wr.drew = v6 at *
          have hSk := RowKit.Below.refl v6.heap.size v6
          repeat (first | (refine lexG_take _ ?_ rfl rfl rfl rfl (fun _ => ?_) ?_; rotate_left; (focus (go_simp; with_reducible rfl)); try simp only [Act.put, List.setIfInBounds_toArray, List.set_cons_zero, List.set_cons_succ]) | (refine lexG_held _ ?_ rfl rfl rfl rfl (by assumption) (fun _ hSw => ?_) ?_; rotate_left; (focus (have z0 := (hx6.below hSw).blk.cell 0; have z1 := (hx6.below hSw).blk.cell 1; have z2 := (hx6.below hSw).blk.cell 2; have q0 := (hy6.below hSw).blk.cell 0; have q1 := (hy6.below hSw).blk.cell 1; have q2 := (hy6.below hSw).blk.cell 2; clear hSw; go_simp; with_reducible rfl)); try simp only [Act.put, List.setIfInBounds_toArray, List.set_cons_zero, List.set_cons_succ]) | (refine lexG_skip _ rfl rfl (by assumption) ?_; try simp only [Act.put, List.setIfInBounds_toArray, List.set_cons_zero, List.set_cons_succ]))
          refine lexG_now _ rfl rfl rfl (fun K hK => ?_)
          go_wp2_with fail
          refine (hn1.out _).mono ?_
          rintro e w7 ⟨rfl, hb7⟩
          dsimp only
          have hS7 : RowKit.Below v6.heap.size v6 w7 := hb7
          refine hK _ _ _ (fun _ h => h) hS7 ?_
          clear hK K hSk
          try simp only [Act.put, List.setIfInBounds_toArray, List.set_cons_zero, List.set_cons_succ]
          repeat (first | (refine lexG_take _ ?_ rfl rfl rfl rfl (fun _ => ?_) ?_; rotate_left; (focus (go_simp; with_reducible rfl)); try simp only [Act.put, List.setIfInBounds_toArray, List.set_cons_zero, List.set_cons_succ]) | (refine lexG_held _ ?_ rfl rfl rfl rfl (by assumption) (fun _ hSw => ?_) ?_; rotate_left; (focus (have z0 := (hx6.below hSw).blk.cell 0; have z1 := (hx6.below hSw).blk.cell 1; have z2 := (hx6.below hSw).blk.cell 2; have q0 := (hy6.below hSw).blk.cell 0; have q1 := (hy6.below hSw).blk.cell 1; have q2 := (hy6.below hSw).blk.cell 2; clear hSw; go_simp; with_reducible rfl)); try simp only [Act.put, List.setIfInBounds_toArray, List.set_cons_zero, List.set_cons_succ]) | (refine lexG_skip _ rfl rfl (by assumption) ?_; try simp only [Act.put, List.setIfInBounds_toArray, List.set_cons_zero, List.set_cons_succ]))
          refine lexG_now _ rfl rfl rfl (fun K hK => ?_)
          go_wp2_with fail
          refine (hn2.out _).mono ?_
          rintro e w8 ⟨rfl, hb8⟩
          dsimp only
          have hS8 : RowKit.Below v6.heap.size v6 w8 := below_then hb8 hS7
          refine hK _ _ _ (fun _ h => h) hS8 ?_
          clear hK K
          try simp only [Act.put, List.setIfInBounds_toArray, List.set_cons_zero, List.set_cons_succ]
          repeat (first | (refine lexG_take _ ?_ rfl rfl rfl rfl (fun _ => ?_) ?_; rotate_left; (focus (go_simp; with_reducible rfl)); try simp only [Act.put, List.setIfInBounds_toArray, List.set_cons_zero, List.set_cons_succ]) | (refine lexG_held _ ?_ rfl rfl rfl rfl (by assumption) (fun _ hSw => ?_) ?_; rotate_left; (focus (have z0 := (hx6.below hSw).blk.cell 0; have z1 := (hx6.below hSw).blk.cell 1; have z2 := (hx6.below hSw).blk.cell 2; have q0 := (hy6.below hSw).blk.cell 0; have q1 := (hy6.below hSw).blk.cell 1; have q2 := (hy6.below hSw).blk.cell 2; clear hSw; go_simp; with_reducible rfl)); try simp only [Act.put, List.setIfInBounds_toArray, List.set_cons_zero, List.set_cons_succ]) | (refine lexG_skip _ rfl rfl (by assumption) ?_; try simp only [Act.put, List.setIfInBounds_toArray, List.set_cons_zero, List.set_cons_succ]))
          refine lexG_nil ?_
          go_wp2_with fail
          go_ret
          exact ⟨rfl, below_then hS8 hb06⟩
      · have e1 : (g == gm) = false := by simp [hgg]
        have hn1 := fun W => newer_walk (g := g) (g' := gm) (v := (v : Int)) (v' := (vm : Int)) (A := A) (A' := Am) (n := ns.length) (n' := nm.length) (c := c) (c' := cm) (w := W)
        simp only [e1, Bool.true_and, Bool.false_and] at hn1
        replace hn1 := Lib.hid hn1
        clear hgg
        go_wp2_with fail
        refine wp_region_lex (fun W => RowKit.Below wr.drew.heap.size wr.drew W) [0, 1, 4, 6, 10, 12, 17, 18] [2, 19] [0, 1, 3, 4, 5, 6, 7, 2, 8, 9, 10, 11, 12, 13, 14, 15, 16, 17, 18, 19, 20, 21, 22] (by kernel_rfl) rfl (by kernel_rfl) (by kernel_rfl) (fun _ _ d _ _ h => by cases d <;> exact h) ?_
        generalize wr.drew = v6 at *
        have hSk := RowKit.Below.refl v6.heap.size v6
        repeat (first | (refine lexG_take _ ?_ rfl rfl rfl rfl (fun _ => ?_) ?_; rotate_left; (focus (go_simp; with_reducible rfl)); try simp only [Act.put, List.setIfInBounds_toArray, List.set_cons_zero, List.set_cons_succ]) | (refine lexG_held _ ?_ rfl rfl rfl rfl (by assumption) (fun _ hSw => ?_) ?_; rotate_left; (focus (have z0 := (hx6.below hSw).blk.cell 0; have z1 := (hx6.below hSw).blk.cell 1; have z2 := (hx6.below hSw).blk.cell 2; have q0 := (hy6.below hSw).blk.cell 0; have q1 := (hy6.below hSw).blk.cell 1; have q2 := (hy6.below hSw).blk.cell 2; clear hSw; go_simp; with_reducible rfl)); try simp only [Act.put, List.setIfInBounds_toArray, List.set_cons_zero, List.set_cons_succ]) | (refine lexG_skip _ rfl rfl (by assumption) ?_; try simp only [Act.put, List.setIfInBounds_toArray, List.set_cons_zero, List.set_cons_succ]))
        refine lexG_now _ rfl rfl rfl (fun K hK => ?_)
        go_wp2_with fail
        refine (hn1.out _).mono ?_
        rintro e w7 ⟨rfl, hb7⟩
        dsimp only
        have hS7 : RowKit.Below v6.heap.size v6 w7 := hb7
        refine hK _ _ _ (fun _ h => h) hS7 ?_
        clear hK K hSk
        try simp only [Act.put, List.setIfInBounds_toArray, List.set_cons_zero, List.set_cons_succ]
        repeat (first | (refine lexG_take _ ?_ rfl rfl rfl rfl (fun _ => ?_) ?_; rotate_left; (focus (go_simp; with_reducible rfl)); try simp only [Act.put, List.setIfInBounds_toArray, List.set_cons_zero, List.set_cons_succ]) | (refine lexG_held _ ?_ rfl rfl rfl rfl (by assumption) (fun _ hSw => ?_) ?_; rotate_left; (focus (have z0 := (hx6.below hSw).blk.cell 0; have z1 := (hx6.below hSw).blk.cell 1; have z2 := (hx6.below hSw).blk.cell 2; have q0 := (hy6.below hSw).blk.cell 0; have q1 := (hy6.below hSw).blk.cell 1; have q2 := (hy6.below hSw).blk.cell 2; clear hSw; go_simp; with_reducible rfl)); try simp only [Act.put, List.setIfInBounds_toArray, List.set_cons_zero, List.set_cons_succ]) | (refine lexG_skip _ rfl rfl (by assumption) ?_; try simp only [Act.put, List.setIfInBounds_toArray, List.set_cons_zero, List.set_cons_succ]))
        refine lexG_now _ rfl rfl rfl (fun K hK => ?_)
        go_wp2_with fail
        refine (hn2.out _).mono ?_
        rintro e w8 ⟨rfl, hb8⟩
        dsimp only
        have hS8 : RowKit.Below v6.heap.size v6 w8 := below_then hb8 hS7
        refine hK _ _ _ (fun _ h => h) hS8 ?_
        clear hK K
        try simp only [Act.put, List.setIfInBounds_toArray, List.set_cons_zero, List.set_cons_succ]
        repeat (first | (refine lexG_take _ ?_ rfl rfl rfl rfl (fun _ => ?_) ?_; rotate_left; (focus (go_simp; with_reducible rfl)); try simp only [Act.put, List.setIfInBounds_toArray, List.set_cons_zero, List.set_cons_succ]) | (refine lexG_held _ ?_ rfl rfl rfl rfl (by assumption) (fun _ hSw => ?_) ?_; rotate_left; (focus (have z0 := (hx6.below hSw).blk.cell 0; have z1 := (hx6.below hSw).blk.cell 1; have z2 := (hx6.below hSw).blk.cell 2; have q0 := (hy6.below hSw).blk.cell 0; have q1 := (hy6.below hSw).blk.cell 1; have q2 := (hy6.below hSw).blk.cell 2; clear hSw; go_simp; with_reducible rfl)); try simp only [Act.put, List.setIfInBounds_toArray, List.set_cons_zero, List.set_cons_succ]) | (refine lexG_skip _ rfl rfl (by assumption) ?_; try simp only [Act.put, List.setIfInBounds_toArray, List.set_cons_zero, List.set_cons_succ]))
        refine lexG_nil ?_
        go_wp2_with fail
        go_ret
        exact ⟨rfl, below_then hS8 hb06⟩
end Go.Proofs.YtdnoafjaheofcaaDoor
