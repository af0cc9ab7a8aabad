/- References: choirref23.RefText. -/
import Derived.Test.YtdnoafjaheofcaaDoorRf9
set_option linter.unusedSimpArgs false
set_option linter.unusedVariables false
namespace Go.Proofs.YtdnoafjaheofcaaDoor
open Go.RowKit Go.Sort Go.Lib
set_option maxRecDepth 100000

theorem hex_piece : ∀ n : Nat, n < 16 → (⟨#[48, 49, 50, 51, 52, 53, 54, 55, 56, 57, 97, 98, 99, 100, 101, 102]⟩ : ByteArray).extract n (n + 1) = bstr [hexD n] := by decide +kernel
theorem u8_and15 (a : Nat) (ha : a < 256) : bits .and .u8 (a : Int) 15 = ((a % 16 : Nat) : Int) := by
  have e : (15 : Int) = ((15 : Nat) : Int) := rfl
  show IntKind.u8.wrap ((BitVec.ofInt 8 (a : Int) &&& BitVec.ofInt 8 (15 : Int)).toNat : Int) = _
  rw [e, BitVec.toNat_and, ofInt_u8 a ha, ofInt_u8 15 (by omega), show (15 : Nat) = 2 ^ 4 - 1 from rfl, Nat.and_two_pow_sub_one_eq_mod]
  simp [IntKind.wrap, IntKind.bits, IntKind.signed]
  omega

theorem ref_text_no {g : List UInt8} {v : Int} {A : Option Addr} {c : Nat} {ns : List Int} {w : World} (h : Reads w w.heap.size 1 A ns.length (ints ns)) (hg : g.length ≤ 140737488351232) (hn : ns.length ≤ 140737488351232) (hr : rightB g ns = false) :
    Calls Tryd.prog 11 #[.agg #[.string (bstr g), .int .u32 v, .slice A ns.length c]] w (fun e w' => e = .returned (.string (bstr [])) ∧ RowKit.Below w.heap.size w w') := by
  have hb0 := (RowKit.Below.refl w.heap.size w).alloc (Nat.le_refl _) (.cells #[.string (bstr g), .int .u32 v, .slice A ns.length c] 36)
  have hright := ref_right (g := g) (v := v) (c := c) ((h.below hb0).more hb0.size) hg hn
  rw [hr] at hright
  replace hright := Lib.hid hright
  replace hr := Lib.hid hr
  go_enter Tryd.func11, Tryd.ntmps11
  go_wp2_with fail
  refine hright.out.mono ?_
  rintro e w2 ⟨rfl, hb2⟩
  dsimp only
  have hb02 := below_then hb2 hb0
  go_wp2_with fail
  go_ret
  exact ⟨rfl, hb02⟩

set_option maxHeartbeats 3200000 in
theorem ref_text_yes {g : List UInt8} {v : Nat} {A : Option Addr} {c : Nat} {ns : List Int} {w : World} (h : Reads w w.heap.size 1 A ns.length (ints ns)) (hv : v < 4294967296) (hr : rightB g ns = true) :
    Calls Tryd.prog 11 #[.agg #[.string (bstr g), .int .u32 (v : Int), .slice A ns.length c]] w (fun e w' => e = .returned (.string (bstr (textR g v ns))) ∧ RowKit.Below w.heap.size w w') := by
  obtain ⟨l1, l2, l3, l4, hok⟩ := right_yes hr
  obtain ⟨X5, hX5⟩ : ∃ X, textR g v ns = X := ⟨_, rfl⟩
  rw [hX5]
  rw [textR, if_pos hr, show ns.map Lib.itoa = nodeTs ns from rfl] at hX5
  obtain ⟨D, hD⟩ : ∃ D, Lib.decDigits v = D := ⟨_, rfl⟩
  rw [hD] at hX5
  have zD : D.length ≤ 20 := by rw [← hD]; exact dec_len (by omega)
  have hgs : (bstr g).size = g.length := bstr_size g
  have hdig : ∀ W, Calls Tryd.prog 30 #[.int .u64 (v : Int)] W (fun e w' => e = .returned (.string (bstr D)) ∧ w' = W) := fun W => by rw [← hD]; exact dec_any v (by omega) W
  replace hgs := Lib.hid hgs
  replace hok := Lib.hid hok
  replace hX5 := Lib.hid hX5
  replace hD := Lib.hid hD
  replace hdig := Lib.hid hdig
  have hb0 := (RowKit.Below.refl w.heap.size w).alloc (Nat.le_refl _) (.cells #[.string (bstr g), .int .u32 (v : Int), .slice A ns.length c] 36)
  have hy := Blk.new w 36 #[.string (bstr g), .int .u32 (v : Int), .slice A ns.length c]
  have hright := ref_right (g := g) (v := v) (c := c) ((h.below hb0).more hb0.size) (by omega) (by omega)
  rw [hr] at hright
  replace hright := Lib.hid hright
  replace hr := Lib.hid hr
  obtain ⟨y, ey⟩ : ∃ y, w.heap.size = y := ⟨_, rfl⟩
  rw [ey] at hy h
  replace ey := Lib.hid ey
  go_enter Tryd.func11, Tryd.ntmps11
  go_upto_region 1 with (fail)
  try rw [ey.out]
  generalize w.alloc (.cells #[.string (bstr g), .int .u32 (v : Int), .slice A ns.length c] 36) = w1 at *
  have c0 := hy.cell 0
  have c1 := hy.cell 1
  have c2 := hy.cell 2
  go_wp2_with fail
  refine hright.out.mono ?_
  rintro e w2 ⟨rfl, hb2⟩
  dsimp only
  clear hright c0 c1 c2
  have hy2 := hy.below hb2 hy.lt
  have hb02 := below_then hb2 hb0
  go_wp2_with fail
  go_loopw [3, 4, 5] (fun s i x5 wr => ∃ (k : Nat) (X : List UInt8), k ≤ g.length ∧ i = .int .i64 (k : Int) ∧ s = .string (bstr X) ∧ Hid (X = [99, 104, 111, 105, 114, 58] ++ hexL (g.take k)) ∧ RowKit.Below w2.heap.size w2 wr) (fun _ i _ _ => g.length - (RowKit.intOf i).toNat)
  case atStart => exact ⟨0, [99, 104, 111, 105, 114, 58], Nat.zero_le _, rfl, rfl, Lib.hid rfl, RowKit.Below.refl _ _⟩
  case round =>
    rename_i hrel
    obtain ⟨k, X, hk, rfl, rfl, hX, hbr⟩ := hrel
    have hyr := hy2.below hbr hy2.lt
    have c0 := hyr.cell 0
    by_cases hlt : k < g.length
    · have hsz : k < (bstr g).size := by rw [hgs.out]; exact hlt
      obtain ⟨cc, hcc⟩ : ∃ cc, (bstr g)[k]'hsz = cc := ⟨_, rfl⟩
      have hcl := cc.toNat_lt
      obtain ⟨n1, e1⟩ : ∃ n, cc.toNat / 16 = n := ⟨_, rfl⟩
      obtain ⟨n2, e2⟩ : ∃ n, cc.toNat % 16 = n := ⟨_, rfl⟩
      have b1 : n1 < 16 := by omega
      have b2 : n2 < 16 := by omega
      have p1 := hex_piece n1 b1
      have p2 := hex_piece n2 b2
      have q1 : (cc.toNat : Int) / 16 = (n1 : Int) := by omega
      have q2 : (cc.toNat : Int) % 16 = (n2 : Int) := by omega
      have q3 : bits .and .u8 (cc.toNat : Int) 15 = (n2 : Int) := by rw [u8_and15 _ hcl, e2]
      have w1' : IntKind.u8.wrap ((n1 : Int) + 1) = (n1 : Int) + 1 := by unfold IntKind.wrap; simp [IntKind.bits, IntKind.signed]; omega
      have w2' : IntKind.u8.wrap ((n2 : Int) + 1) = (n2 : Int) + 1 := by unfold IntKind.wrap; simp [IntKind.bits, IntKind.signed]; omega
      have t1 : ((n1 : Int) + 1).toNat = n1 + 1 := by omega
      have t2 : ((n2 : Int) + 1).toNat = n2 + 1 := by omega
      obtain ⟨X1, hX1⟩ : ∃ X1, X ++ [hexD n1] = X1 := ⟨_, rfl⟩
      obtain ⟨X2, hX2⟩ : ∃ X2, X1 ++ [hexD n2] = X2 := ⟨_, rfl⟩
      have hXl : X.length ≤ 70 := by rw [hX.out]; simp only [List.length_append, hexL_len, List.length_take, List.length_cons, List.length_nil]; omega
      have hXl1 : X1.length ≤ 71 := by rw [← hX1]; simp; omega
      have k1 : ∀ W, (Op.stringOp .add (bstr X) (bstr [hexD n1])).run Tryd.prog W = .ok (.string (bstr X1)) W := fun W => by rw [← hX1]; exact run_bstr_add W X [hexD n1] (by simp; omega)
      have k2 : ∀ W, (Op.stringOp .add (bstr X1) (bstr [hexD n2])).run Tryd.prog W = .ok (.string (bstr X2)) W := fun W => by rw [← hX2]; exact run_bstr_add W X1 [hexD n2] (by simp; omega)
      have hnew : Hid (X2 = [99, 104, 111, 105, 114, 58] ++ hexL (g.take (k + 1))) := Lib.hid (by
        rw [← hX2, ← hX1, hX.out, List.take_succ_eq_append_getElem hlt, hexL_snoc, ← bstr_get g k hsz hlt, hcc, hexC, e1, e2]; simp)
      clear hX1 hX2
      replace e1 := Lib.hid e1
      replace e2 := Lib.hid e2
      go_wp2_with fail
      go_quiet (fail)
      go_wp2_with fail
      go_roundw
      case rel => exact ⟨k + 1, X2, by omega, by go_num, rfl, hnew, below_drewN hbr _⟩
      case measure => simp [RowKit.intOf]; omega
    · obtain rfl : k = g.length := by omega
      have hXe := hX.out
      rw [List.take_length] at hXe
      have hXl : X.length ≤ 70 := by rw [hXe]; simp only [List.length_append, hexL_len, List.length_cons, List.length_nil]; omega
      obtain ⟨X1, hX1⟩ : ∃ X1, X ++ [47] = X1 := ⟨_, rfl⟩
      obtain ⟨X2, hX2⟩ : ∃ X2, X1 ++ D = X2 := ⟨_, rfl⟩
      obtain ⟨X3, hX3⟩ : ∃ X3, X2 ++ [47] = X3 := ⟨_, rfl⟩
      have y1 : X1.length ≤ 71 := by rw [← hX1]; simp only [List.length_append, List.length_cons, List.length_nil]; omega
      have y2 : X2.length ≤ 91 := by rw [← hX2]; simp only [List.length_append, List.length_cons, List.length_nil]; omega
      have y3 : X3.length ≤ 92 := by rw [← hX3]; simp only [List.length_append, List.length_cons, List.length_nil]; omega
      have k1 : ∀ W, (Op.stringOp .add (bstr X) ⟨#[47]⟩).run Tryd.prog W = .ok (.string (bstr X1)) W := fun W => by rw [← hX1]; exact run_bstr_add W X [47] (by simp; omega)
      have k2 : ∀ W, (Op.stringOp .add (bstr X1) (bstr D)).run Tryd.prog W = .ok (.string (bstr X2)) W := fun W => by rw [← hX2]; exact run_bstr_add W X1 D (by omega)
      have k3 : ∀ W, (Op.stringOp .add (bstr X2) ⟨#[47]⟩).run Tryd.prog W = .ok (.string (bstr X3)) W := fun W => by rw [← hX3]; exact run_bstr_add W X2 [47] (by simp; omega)
      have hfin : Hid (X3 ++ Lib.join (nodeTs ns) [44] = X5) := Lib.hid (by rw [← hX5.out, ← hX3, ← hX2, ← hX1, hXe])
      have wv : IntKind.u64.wrap (v : Int) = (v : Int) := by rw [IntKind.wrap_u64]; omega
      have c1 := hyr.cell 1
      clear hX hXe hX1 hX2 hX3
      go_wp2_with fail
      refine (hdig.out _).mono ?_
      rintro e w3 ⟨rfl, hw3⟩
      obtain rfl := hw3
      dsimp only
      have hbw : RowKit.Below w.heap.size w w3 := below_then hbr hb02
      clear c0 c1 hb02
      go_wp2_with fail
      clear k1 k2 k3 wv
      go_loopw [3, 6] (fun s i wr => ∃ (j : Nat) (Y : List UInt8), j ≤ ns.length ∧ i = .int .i64 (j : Int) ∧ s = .string (bstr Y) ∧ Hid (Y = X3 ++ Lib.join (nodeTs (ns.take j)) [44]) ∧ RowKit.Below w3.heap.size w3 wr) (fun _ i _ => ns.length - (RowKit.intOf i).toNat)
      case atStart => exact ⟨0, X3, Nat.zero_le _, rfl, rfl, Lib.hid (by simp [nodeTs, Lib.join_nil]), RowKit.Below.refl _ _⟩
      case round =>
        rename_i hrel
        obtain ⟨j, Y, hj, rfl, rfl, hY, hb4⟩ := hrel
        have hy4 := hyr.below hb4 hyr.lt
        have hb4w := below_then hb4 hbw
        have c2 := hy4.cell 2
        by_cases hjt : j < ns.length
        · have hbY : RowKit.Below y w wr := by rw [← ey.out]; exact hb4w
          obtain ⟨ad, rfl, hbk, hc⟩ := node_at (h.below hbY) hjt
          obtain ⟨o0, o1, -⟩ := hok.out j hjt
          obtain ⟨x, hx⟩ : ∃ x, ns.getD j 0 = x := ⟨_, rfl⟩
          rw [hx] at hc o0 o1
          obtain ⟨m, rfl⟩ : ∃ m : Nat, x = (m : Int) := ⟨x.toNat, by omega⟩
          obtain ⟨T, hT⟩ : ∃ T, Lib.decDigits m = T := ⟨_, rfl⟩
          have hTl : T.length ≤ 20 := by rw [← hT]; exact dec_len (by omega)
          have hsnoc : nodeTs (ns.take (j + 1)) = nodeTs (ns.take j) ++ [T] := by
            rw [List.take_succ_eq_append_getElem hjt]
            simp only [nodeTs, List.map_append, List.map_cons, List.map_nil]
            rw [List.getD, List.getElem?_eq_getElem hjt, Option.getD_some] at hx
            rw [hx, itoa_pos (by omega), Int.toNat_natCast, hT]
          have hYl : Y.length ≤ 300 := by
            have e : (nodeTs (ns.take j)).length ≤ 7 := by simp [nodeTs]; omega
            have := join_len (nodeTs (ns.take j)) 20 (fun z hz => nodeTs_len (g := g) hok.out z (by
              obtain ⟨q, hq, rfl⟩ := List.mem_map.1 hz
              exact List.mem_map.2 ⟨q, List.mem_of_mem_take hq, rfl⟩))
            rw [hY.out, List.length_append]; omega
          have hdm : Calls Tryd.prog 30 #[.int .u64 (m : Int)] wr (fun e w' => e = .returned (.string (bstr T)) ∧ w' = wr) := by rw [← hT]; exact dec_any m (by omega) wr
          have wm : IntKind.u64.wrap (m : Int) = (m : Int) := by rw [IntKind.wrap_u64]; omega
          replace hdm := Lib.hid hdm
          replace hT := Lib.hid hT
          replace hx := Lib.hid hx
          by_cases hj0 : 0 < j
          · have hne : nodeTs (ns.take j) ≠ [] := by
              intro h0
              have e : (nodeTs (ns.take j)).length = j := by simp only [nodeTs, List.length_map, List.length_take]; omega
              rw [h0] at e
              exact absurd hj0 (by rw [← e]; simp)
            obtain ⟨Y1, hY1⟩ : ∃ Y1, Y ++ [44] = Y1 := ⟨_, rfl⟩
            obtain ⟨Y2, hY2⟩ : ∃ Y2, Y1 ++ T = Y2 := ⟨_, rfl⟩
            have hYl1 : Y1.length ≤ 301 := by rw [← hY1]; simp only [List.length_append, List.length_cons, List.length_nil]; omega
            have k1 : ∀ W, (Op.stringOp .add (bstr Y) ⟨#[44]⟩).run Tryd.prog W = .ok (.string (bstr Y1)) W := fun W => by rw [← hY1]; exact run_bstr_add W Y [44] (by simp; omega)
            have k2 : ∀ W, (Op.stringOp .add (bstr Y1) (bstr T)).run Tryd.prog W = .ok (.string (bstr Y2)) W := fun W => by rw [← hY2]; exact run_bstr_add W Y1 T (by omega)
            have hnew : Hid (Y2 = X3 ++ Lib.join (nodeTs (ns.take (j + 1))) [44]) := Lib.hid (by rw [← hY2, ← hY1, hY.out, hsnoc, join_snoc, if_neg hne]; simp)
            have hjd : decide ((0 : Int) < (j : Int)) = true := decide_eq_true (by omega)
            clear hY1 hY2 hne hsnoc
            go_wp2_with fail
            refine hdm.out.mono ?_
            rintro e w4 ⟨rfl, hw4⟩
            obtain rfl := hw4
            dsimp only
            go_wp2_with fail
            go_roundw
            case rel => exact ⟨j + 1, Y2, by omega, by go_num, rfl, hnew, hb4⟩
            case measure => simp [RowKit.intOf]; omega
          · obtain ⟨Y2, hY2⟩ : ∃ Y2, Y ++ T = Y2 := ⟨_, rfl⟩
            have k2 : ∀ W, (Op.stringOp .add (bstr Y) (bstr T)).run Tryd.prog W = .ok (.string (bstr Y2)) W := fun W => by rw [← hY2]; exact run_bstr_add W Y T (by omega)
            have he : nodeTs (ns.take j) = [] := by rw [show j = 0 by omega]; simp [nodeTs]
            have hnew : Hid (Y2 = X3 ++ Lib.join (nodeTs (ns.take (j + 1))) [44]) := Lib.hid (by rw [← hY2, hY.out, hsnoc, join_snoc, if_pos he, he, Lib.join_nil]; simp)
            have hjd : decide ((0 : Int) < (j : Int)) = false := decide_eq_false (by omega)
            clear hY2 he hsnoc
            go_wp2_with fail
            refine hdm.out.mono ?_
            rintro e w4 ⟨rfl, hw4⟩
            obtain rfl := hw4
            dsimp only
            go_wp2_with fail
            go_roundw
            case rel => exact ⟨j + 1, Y2, by omega, by go_num, rfl, hnew, hb4⟩
            case measure => simp [RowKit.intOf]; omega
        · obtain rfl : j = ns.length := by omega
          have hYe : Y = X5 := by rw [← hfin.out, hY.out, List.take_length]
          subst hYe
          clear hY hfin
          go_wp2_with fail
          go_ret
          exact ⟨rfl, hb4w⟩
end Go.Proofs.YtdnoafjaheofcaaDoor
