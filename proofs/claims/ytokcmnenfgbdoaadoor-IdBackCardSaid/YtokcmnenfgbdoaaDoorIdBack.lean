/- IdBack: the walk. -/
import Derived.Test.YtokcmnenfgbdoaaDoorIb9
import Derived.Deep.CutRange
set_option linter.unusedSimpArgs false
set_option linter.unusedVariables false
namespace Go.Proofs.YtokcmnenfgbdoaaDoor
open Go.RowKit Go.Sort Go.Lib
set_option maxRecDepth 100000

theorem textL_len (c q n : Nat) (hc : c ≤ 4294967295) (hq : q ≤ 4294967295) (hn : n ≤ 65535) : 1 ≤ (textL c q n).length ∧ (textL c q n).length ≤ 62 := by
  have h1 := dec_size (u := c) (by omega) rfl
  have h2 := dec_size (u := q) (by omega) rfl
  have h3 := dec_size (u := n) (by omega) rfl
  have e1 : (⟨(Lib.decDigits c).toArray⟩ : ByteArray).size = (Lib.decDigits c).length := List.size_toArray
  have e2 : (⟨(Lib.decDigits q).toArray⟩ : ByteArray).size = (Lib.decDigits q).length := List.size_toArray
  have e3 : (⟨(Lib.decDigits n).toArray⟩ : ByteArray).size = (Lib.decDigits n).length := List.size_toArray
  rw [textL_eq]
  simp only [List.length_append, List.length_cons]
  split <;> simp only [List.length_nil, List.length_cons] <;> omega
set_option maxHeartbeats 12800000 in
theorem idBack_walk (c q n : Nat) (l : List UInt8) (a v : Nat) (w : World) (hL : LaidW w) (hc : c ≤ 4294967295) (hq : q ≤ 4294967295) (hn : n ≤ 65535) (ha : a ≤ 255) (hv : v ≤ 255) (hl : l.length ≤ 140737488351232) :
    Calls Tryd.prog 3 #[.agg #[.int .u32 (c : Int), .int .u32 (q : Int), .int .u16 (n : Int)], .string (bstr l), .int .u8 (a : Int), .int .u8 (v : Int)] w (fun e w' => e = .returned (.bool true) ∧ Below w.heap.size w w') := by
  obtain ⟨t, ht⟩ : ∃ t, textL c q n = t := ⟨_, rfl⟩
  have htl := textL_len c q n hc hq hn
  have hidt := idP_text hc hq hn
  rw [ht] at htl hidt
  have hx1 := Blk.new w 25 #[.int .u32 (c : Int), .int .u32 (q : Int), .int .u16 (n : Int)]
  have hb1 := (Below.refl w.heap.size w).alloc (Nat.le_refl _) (.cells #[.int .u32 (c : Int), .int .u32 (q : Int), .int .u16 (n : Int)] 25)
  obtain ⟨y, hy⟩ : ∃ y, w.heap.size = y := ⟨_, rfl⟩
  rw [hy] at hx1
  replace hy := Lib.hid hy
  replace hidt := Lib.hid hidt
  go_enter Tryd.func3, Tryd.ntmps3
  go_upto_region 1 with (fail)
  try rw [hy.out]
  generalize w.alloc (.cells #[.int .u32 (c : Int), .int .u32 (q : Int), .int .u16 (n : Int)] 25) = w1 at *
  have hkn := known_true w1
  replace hkn := Lib.hid hkn
  go_wp2_with fail
  refine hkn.out.mono ?_
  clear hkn
  rintro e w2 ⟨rfl, hb2⟩
  dsimp only
  have hx2 := hx1.below hb2 hx1.lt
  have lb2 := below_then hb2 hb1
  clear hx1 hb1 hb2
  by_cases h60 : 60 < l.length
  · have d60 : decide ((60 : Int) < (l.length : Int)) = true := decide_eq_true (by omega)
    have d60' : decide (60 < l.length) = true := decide_eq_true h60
    go_wp2_with fail
    go_ret
    exact ⟨rfl, lb2⟩
  have d60 : decide ((60 : Int) < (l.length : Int)) = false := decide_eq_false (by omega)
  have d60' : decide (60 < l.length) = false := decide_eq_false h60
  have m0 := hx2.cell 0
  have m1 := hx2.cell 1
  have m2 := hx2.cell 2
  have hte := text_any c q n (by omega) (by omega) (by omega) w2 (hL.next lb2)
  rw [ht] at hte
  replace hte := Lib.hid hte
  replace hL := Lib.hid hL
  go_upto_region 5 with (fail)
  go_wp2_with fail
  refine hte.out.mono ?_
  clear hte m0 m1 m2
  rintro e w3 ⟨rfl, hb3⟩
  dsimp only
  have hx3 := hx2.below hb3 hx2.lt
  have lb3 := below_then hb3 lb2
  clear hx2 hb3 lb2 d60 d60'
  have hpa := (parse_any (bstr t) (by rw [bstr_size]; omega) w3 (hL.out.next lb3)).mono (fun e w' h => parse_idP h)
  have hpt : idP (bstr t).data.toList = some (c, q, n) := hidt.out
  rw [hpt] at hpa
  replace hpa := Lib.hid hpa
  clear hpt
  go_wp2_with fail
  refine hpa.out.mono ?_
  clear hpa
  rintro e w4 ⟨rfl, hb4⟩
  unfold idV
  dsimp only
  have hx4 := hx3.below hb4 hx3.lt
  have lb4 := below_then hb4 lb3
  have hz5 := Blk.new w4 25 #[.int .u32 (c : Int), .int .u32 (q : Int), .int .u16 (n : Int)]
  have hb5 := (Below.refl w4.heap.size w4).alloc (Nat.le_refl _) (.cells #[.int .u32 (c : Int), .int .u32 (q : Int), .int .u16 (n : Int)] 25)
  have hx5 := hx4.below hb5 hx4.lt
  have lb5 := below_then hb5 lb4
  obtain ⟨y2, hy2⟩ : ∃ y, w4.heap.size = y := ⟨_, rfl⟩
  rw [hy2] at hz5
  replace hy2 := Lib.hid hy2
  clear hx3 lb3 hb4 hx4 lb4 hb5
  go_upto_region 7 with (fail)
  try rw [hy2.out]
  generalize w4.alloc (.cells #[.int .u32 (c : Int), .int .u32 (q : Int), .int .u16 (n : Int)] 25) = w5 at *
  have m0 := hx5.cell 0
  have m1 := hx5.cell 1
  have m2 := hx5.cell 2
  have hti := idtext_any c q n (by omega) (by omega) (by omega) w5
  rw [ht] at hti
  replace hti := Lib.hid hti
  go_wp2_with fail
  refine hti.out.mono ?_
  clear hti m0 m1 m2
  rintro e w6 ⟨rfl, hb6⟩
  dsimp only
  have hx6 := hx5.below hb6 hx5.lt
  have hz6 := hz5.below hb6 hz5.lt
  have lb6 := below_then hb6 lb5
  clear hx5 hz5 hb6 lb5
  have m0 := hx6.cell 0
  have m1 := hx6.cell 1
  have m2 := hx6.cell 2
  have p0 := hz6.cell 0
  have p1 := hz6.cell 1
  have p2 := hz6.cell 2
  obtain ⟨w7, cp, hcv, hb7, hs7, hrow⟩ := conv_row t w6
  obtain ⟨B, hB⟩ : ∃ y, w6.heap.size = y := ⟨_, rfl⟩
  rw [hB] at hcv hrow
  obtain ⟨N, hN⟩ : ∃ N, t.length = N := ⟨_, rfl⟩
  rw [hN] at hcv
  replace hrow := Lib.hid hrow
  have hBw : w.heap.size ≤ B := by rw [← hB]; exact lb6.size
  have lb7 := below_then hb7 lb6
  replace lb7 := Lib.hid lb7
  go_upto_region 10 with (fail)
  clear hx6 hz6 lb6 hb7 hs7 m0 m1 m2 p0 p1 p2 hcv
  obtain ⟨r, hr⟩ : ∃ r, a % N = r := ⟨_, rfl⟩
  have hrN : r < N := by rw [← hr]; exact Nat.mod_lt _ (by omega)
  have wa : IntKind.i64.wrap (a : Int) = (a : Int) := by rw [IntKind.wrap_i64]; omega
  have wr_ : IntKind.i64.wrap (r : Int) = (r : Int) := by rw [IntKind.wrap_i64]; omega
  have q1 : Int.tmod (a : Int) (N : Int) = (r : Int) := by rw [Int.tmod_eq_emod_of_nonneg (by omega), ← hr]; simp
  have q2 : (a : Int) % (N : Int) = (r : Int) := by rw [← hr]; simp
  have n0 : ((N : Int) == 0) = false := by rw [beq_eq_false_iff_ne]; omega
  have n1 : decide ((N : Int) = 0) = false := decide_eq_false (by omega)
  have n2 : ¬ (N : Int) = 0 := by omega
  have n3 : ¬ N = 0 := by omega
  obtain ⟨b0, hb0⟩ : ∃ b, t[r]? = some b := ⟨_, List.getElem?_eq_getElem (by omega)⟩
  have c0 := (hrow.out r b0 hb0).1
  have f0 := (hrow.out r b0 hb0).2
  have lb8 : Below w.heap.size w (w7.setCell ⟨B, r, none⟩ (.int .u8 (v : Int))) := lb7.out.setCell (p := ⟨B, r, none⟩) hBw _
  obtain ⟨t2, ht2⟩ : ∃ t2, t.set r (UInt8.ofNat v) = t2 := ⟨_, rfl⟩
  have ht2l : t2.length = N := by rw [← ht2, List.length_set]; exact hN
  have hst : (convert 30 9 (.slice (some ⟨B, 0, none⟩) N cp)).run Tryd.prog (w7.setCell ⟨B, r, none⟩ (.int .u8 (v : Int))) = .ok (.string (bstr t2)) (w7.setCell ⟨B, r, none⟩ (.int .u8 (v : Int))) := by
    have h := run_convert_bytes_back (P := Tryd.prog) (w7.setCell ⟨B, r, none⟩ (.int .u8 (v : Int))) 30 9 5 ⟨B, 0, none⟩ cp t2 Tryd.underlying30 Tryd.underlying5 Tryd.underlying9 (fun j hj => by
      have hadd : (⟨B, 0, none⟩ : Addr).add j = ⟨B, j, none⟩ := by rw [Lib.add_plain, Nat.zero_add]
      rw [hadd]
      subst ht2
      by_cases hjr : j = r
      · subst hjr
        rw [World.cell?_setCell_same _ _ _ c0, List.getElem_set_self, UInt8.toNat_ofNat']
        have : v % 2 ^ 8 = v := by omega
        rw [this]
      · rw [World.cell?_setCell_other _ _ _ _ (by simp <;> omega), List.getElem_set_ne (by omega)]
        rw [List.length_set] at hj
        exact (hrow.out j t[j] (List.getElem?_eq_getElem hj)).1)
    rw [ht2l] at h
    exact h
  have k1 : ∀ W, (Op.stringOp .add ⟨#[48]⟩ (bstr t)).run Tryd.prog W = .ok (.string (bstr (48 :: t))) W := fun W => run_bstr_add W [48] t (by simp; omega)
  have k2 : ∀ W, (Op.stringOp .add (bstr t) ⟨#[48]⟩).run Tryd.prog W = .ok (.string (bstr (t ++ [48]))) W := fun W => run_bstr_add W t [48] (by simp; omega)
  have k3 : ∀ W, (Op.stringOp .add (bstr t) ⟨#[46, 48]⟩).run Tryd.prog W = .ok (.string (bstr (t ++ [46, 48]))) W := fun W => run_bstr_add W t [46, 48] (by simp; omega)
  replace lb8 := Lib.hid lb8
  go_upto_region 11 with (fail)
  generalize w7.setCell ⟨B, r, none⟩ (.int .u8 (v : Int)) = w8 at *
  clear c0 f0 q1 q2 n0 n1 n2 n3 wa wr_
  have hrw := Blk.new w8 9 #[.string (bstr l), .string (bstr t2), .string (bstr (48 :: t)), .string (bstr (t ++ [48])), .string (bstr (t ++ [46, 48]))]
  have hb9 := (Below.refl w8.heap.size w8).alloc (Nat.le_refl _) (.cells #[.string (bstr l), .string (bstr t2), .string (bstr (48 :: t)), .string (bstr (t ++ [48])), .string (bstr (t ++ [46, 48]))] 9)
  have lb9 := below_then hb9 lb8.out
  obtain ⟨y3, hy3⟩ : ∃ y, w8.heap.size = y := ⟨_, rfl⟩
  rw [hy3] at hrw
  replace hy3 := Lib.hid hy3
  clear hb9
  go_upto_region 12 with (fail)
  try rw [hy3.out]
  generalize w8.alloc (.cells #[.string (bstr l), .string (bstr t2), .string (bstr (48 :: t)), .string (bstr (t ++ [48])), .string (bstr (t ++ [46, 48]))] 9) = w9 at *
  clear k1 k2 k3 hst
  go_loopw [65] (fun z wr => ∃ J : Nat, J ≤ 5 ∧ z = .int .i64 (J : Int) ∧ Blk wr y3 9 #[.string (bstr l), .string (bstr t2), .string (bstr (48 :: t)), .string (bstr (t ++ [48])), .string (bstr (t ++ [46, 48]))] ∧ Below w.heap.size w wr) (fun z _ => 5 - (RowKit.intOf z).toNat)
  case atStart => exact ⟨0, by omega, rfl, hrw, lb9⟩
  case round =>
    obtain ⟨J, hJ, rfl, hR, lbr⟩ := hrel
    by_cases hlt : J < 5
    · obtain ⟨L, hLc, hLl⟩ : ∃ L : List UInt8, wr.cell? ⟨y3, J, none⟩ = some (.string (bstr L)) ∧ L.length ≤ 140737488351232 := by
        rcases (show J = 0 ∨ J = 1 ∨ J = 2 ∨ J = 3 ∨ J = 4 by omega) with rfl | rfl | rfl | rfl | rfl
        · exact ⟨l, hR.cell 0, hl⟩
        · exact ⟨t2, hR.cell 1, by omega⟩
        · exact ⟨48 :: t, hR.cell 2, by simp only [List.length_cons]; omega⟩
        · exact ⟨t ++ [48], hR.cell 3, by simp only [List.length_append, List.length_cons, List.length_nil]; omega⟩
        · exact ⟨t ++ [46, 48], hR.cell 4, by simp only [List.length_append, List.length_cons, List.length_nil]; omega⟩
      have hd : decide ((J : Int) < 5) = true := decide_eq_true (by omega)
      have hkw : IntKind.i64.wrap ((J : Int) + 1) = (J : Int) + 1 := by rw [IntKind.wrap_i64]; omega
      obtain ⟨c', q', n', b', hform⟩ := idV_form (idP L)
      have hpa : Calls Tryd.prog 6 #[.string (bstr L)] wr (fun e w' => e = .returned (idV (idP L)) ∧ Below wr.heap.size wr w') := (parse_any (bstr L) (by rw [bstr_size]; exact hLl) wr (hL.out.next lbr)).mono (fun e w' h => parse_idP h)
      have hdo := fun W => idparse_walk L hLl W
      rw [hform] at hpa hdo
      replace hpa := Lib.hid hpa
      replace hdo := Lib.hid hdo
      replace lbr := Lib.hid lbr
      clear hform
      go_upto_region 14 with (fail)
      clear hLc
      go_wp2_with fail
      refine hpa.out.mono ?_
      clear hpa
      rintro e w10 ⟨rfl, hb10⟩
      dsimp only
      have lb10 := below_then hb10 lbr.out
      have hR10 := hR.below hb10 hR.lt
      have hx11 := Blk.new w10 25 #[.int .u32 (c' : Int), .int .u32 (q' : Int), .int .u16 (n' : Int)]
      have hb11 := (Below.refl w10.heap.size w10).alloc (Nat.le_refl _) (.cells #[.int .u32 (c' : Int), .int .u32 (q' : Int), .int .u16 (n' : Int)] 25)
      have hR11 := hR10.below hb11 hR10.lt
      have lb11 := below_then hb11 lb10
      obtain ⟨z1, hz1⟩ : ∃ y, w10.heap.size = y := ⟨_, rfl⟩
      rw [hz1] at hx11
      replace hz1 := Lib.hid hz1
      clear hb10 lb10 hR10 hb11
      go_upto_region 15 with (fail)
      try rw [hz1.out]
      generalize w10.alloc (.cells #[.int .u32 (c' : Int), .int .u32 (q' : Int), .int .u16 (n' : Int)] 25) = w11 at *
      go_wp2_with fail
      refine (hdo.out w11).mono ?_
      clear hdo
      rintro e w12 ⟨rfl, hb12⟩
      dsimp only
      have lb12 := below_then hb12 lb11
      have hR12 := hR11.below hb12 hR11.lt
      have hx12 := hx11.below hb12 hx11.lt
      have hx13 := Blk.new w12 25 #[.int .u32 (c' : Int), .int .u32 (q' : Int), .int .u16 (n' : Int)]
      have hb13 := (Below.refl w12.heap.size w12).alloc (Nat.le_refl _) (.cells #[.int .u32 (c' : Int), .int .u32 (q' : Int), .int .u16 (n' : Int)] 25)
      have hR13 := hR12.below hb13 hR12.lt
      have hx13' := hx12.below hb13 hx12.lt
      have lb13 := below_then hb13 lb12
      obtain ⟨z2, hz2⟩ : ∃ y, w12.heap.size = y := ⟨_, rfl⟩
      rw [hz2] at hx13
      replace hz2 := Lib.hid hz2
      clear hb12 lb11 lb12 hR11 hR12 hx11 hx12 hb13
      go_upto_region 16 with (fail)
      try rw [hz2.out]
      generalize w12.alloc (.cells #[.int .u32 (c' : Int), .int .u32 (q' : Int), .int .u16 (n' : Int)] 25) = w13 at *
      have s0 := hx13.cell 0
      have s1 := hx13.cell 1
      have s2 := hx13.cell 2
      have u0 := hx13'.cell 0
      have u1 := hx13'.cell 1
      have u2 := hx13'.cell 2
      clear hx13 hx13'
      replace lb13 := Lib.hid lb13
      go_wp2_with fail
      go_roundw
      case rel => exact ⟨J + 1, by omega, by simp, hR13, lb13.out⟩
      case measure => simp [RowKit.intOf]; omega
    · have hJ5 : J = 5 := by omega
      subst J
      go_wp2_with fail
      go_ret
      exact ⟨rfl, lbr⟩
end Go.Proofs.YtokcmnenfgbdoaaDoor
