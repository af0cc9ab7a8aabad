/- IdBack: the document's IdParse at any text. -/
import Derived.Test.YtokcmnenfgbdoaaDoorIb7
import Derived.Deep.CutRange
set_option linter.unusedSimpArgs false
set_option linter.unusedVariables false
namespace Go.Proofs.YtokcmnenfgbdoaaDoor
open Go.RowKit Go.Sort Go.Lib
set_option maxRecDepth 100000

set_option maxHeartbeats 12800000 in
theorem idparse_walk (l : List UInt8) (hl : l.length ≤ 140737488351232) (w : World) : Calls Tryd.prog 8 #[.string (bstr l)] w (fun e w' => e = .returned (idV (idP l)) ∧ Below w.heap.size w w') := by
  have hz := Blk.new w 25 #[.int .u32 0, .int .u32 0, .int .u16 0]
  have hb0 := (Below.refl w.heap.size w).alloc (Nat.le_refl _) (.cells #[.int .u32 0, .int .u32 0, .int .u16 0] 25)
  obtain ⟨g, hg⟩ : ∃ y, w.heap.size = y := ⟨_, rfl⟩
  rw [hg] at hz
  replace hg := Lib.hid hg
  go_enter Tryd.func8, Tryd.ntmps8
  go_upto_region 1 with (fail)
  try rw [hg.out]
  generalize w.alloc (.cells #[.int .u32 0, .int .u32 0, .int .u16 0] 25) = w1 at *
  have hnu := num_walk l 4294967295 (by omega) hl w1
  replace hnu := Lib.hid hnu
  go_wp2_with fail
  refine hnu.out.mono ?_
  clear hnu
  rintro e w2 ⟨rfl, hb_w2⟩
  have hz_w2 := hz.below hb_w2 hz.lt
  have hb0_w2 := below_then hb_w2 hb0
  clear hb_w2
  cases h1 : numD 4294967295 l with
  | none =>
    unfold numV
    dsimp only
    have hno : idP l = none := by unfold idP; rw [h1]
    have f0 := hz_w2.frozen 0
    have f1 := hz_w2.frozen 1
    have f2 := hz_w2.frozen 2
    have k0 := hz_w2.cell 0
    have k1 := hz_w2.cell 1
    have k2 := hz_w2.cell 2
    go_wp2_with fail
    refine bodyPost_ret (v := idV none) ?_ rfl ?_
    · exact results_ct rfl _ _ g 25 _ (0, 0) _ _ rfl rfl (((hz_w2.set_ 0 (.int .u32 0)).set_ 1 (.int .u32 0)).set_ 2 (.int .u16 0)) Tryd.underlying25 rfl (by kernel_rfl)
    · exact ⟨by first | rfl | (rw [hno]), (((hb0_w2.setCell (p := ⟨g, 0, none⟩) (by rw [hg.out]; exact Nat.le_refl _) (.int .u32 0)).setCell (p := ⟨g, 1, none⟩) (by rw [hg.out]; exact Nat.le_refl _) (.int .u32 0)).setCell (p := ⟨g, 2, none⟩) (by rw [hg.out]; exact Nat.le_refl _) (.int .u16 0))⟩
  | some y =>
    obtain ⟨c, s⟩ := y
    obtain ⟨hls, hc, -⟩ := numD_some h1
    have hsl : s.length ≤ 140737488351232 := by rw [hls, List.length_append] at hl; omega
    unfold numV
    dsimp only
    cases s with
    | nil =>
      have hno : idP l = none := by unfold idP; rw [h1]; rfl
      have f0 := hz_w2.frozen 0
      have f1 := hz_w2.frozen 1
      have f2 := hz_w2.frozen 2
      have k0 := hz_w2.cell 0
      have k1 := hz_w2.cell 1
      have k2 := hz_w2.cell 2
      go_wp2_with fail
      refine bodyPost_ret (v := idV none) ?_ rfl ?_
      · exact results_ct rfl _ _ g 25 _ (0, 0) _ _ rfl rfl (((hz_w2.set_ 0 (.int .u32 0)).set_ 1 (.int .u32 0)).set_ 2 (.int .u16 0)) Tryd.underlying25 rfl (by kernel_rfl)
      · exact ⟨by first | rfl | (rw [hno]), (((hb0_w2.setCell (p := ⟨g, 0, none⟩) (by rw [hg.out]; exact Nat.le_refl _) (.int .u32 0)).setCell (p := ⟨g, 1, none⟩) (by rw [hg.out]; exact Nat.le_refl _) (.int .u32 0)).setCell (p := ⟨g, 2, none⟩) (by rw [hg.out]; exact Nat.le_refl _) (.int .u16 0))⟩
    | cons a s =>
      have hgs : ∀ h : 0 < (bstr (a :: s)).size, ((bstr (a :: s))[0]'h) = a := fun h => rfl
      have hsl2 : s.length ≤ 140737488351232 := by rw [List.length_cons] at hsl; omega
      by_cases h45 : a = 45
      · subst h45
        have hid1 : idP l = idP2 c (45 :: s) := by unfold idP; rw [h1]; rfl
        go_upto_region 4 with (fail)
        have hex : (bstr (45 :: s)).extract 1 (bstr (45 :: s)).size = bstr s := by rw [bstr_extract, bstr_size]; simp
        have hnu := num_walk s 4294967295 (by omega) hsl2 w2
        replace hnu := Lib.hid hnu
        go_wp2_with fail
        refine hnu.out.mono ?_
        clear hnu
        rintro e w3 ⟨rfl, hb_w3⟩
        have hz_w3 := hz_w2.below hb_w3 hz_w2.lt
        have hb0_w3 := below_then hb_w3 hb0_w2
        clear hb_w3
        cases h2 : numD 4294967295 s with
        | none =>
          unfold numV
          dsimp only
          have hno : idP l = none := by rw [hid1]; unfold idP2; rw [List.drop_one, List.tail_cons, h2]
          have f0 := hz_w3.frozen 0
          have f1 := hz_w3.frozen 1
          have f2 := hz_w3.frozen 2
          have k0 := hz_w3.cell 0
          have k1 := hz_w3.cell 1
          have k2 := hz_w3.cell 2
          go_wp2_with fail
          refine bodyPost_ret (v := idV none) ?_ rfl ?_
          · exact results_ct rfl _ _ g 25 _ (0, 0) _ _ rfl rfl (((hz_w3.set_ 0 (.int .u32 0)).set_ 1 (.int .u32 0)).set_ 2 (.int .u16 0)) Tryd.underlying25 rfl (by kernel_rfl)
          · exact ⟨by first | rfl | (rw [hno]), (((hb0_w3.setCell (p := ⟨g, 0, none⟩) (by rw [hg.out]; exact Nat.le_refl _) (.int .u32 0)).setCell (p := ⟨g, 1, none⟩) (by rw [hg.out]; exact Nat.le_refl _) (.int .u32 0)).setCell (p := ⟨g, 2, none⟩) (by rw [hg.out]; exact Nat.le_refl _) (.int .u16 0))⟩
        | some y =>
          obtain ⟨q, t⟩ := y
          obtain ⟨hss, hq, -⟩ := numD_some h2
          have htl : t.length ≤ 140737488351232 := by rw [hss, List.length_append] at hsl2; omega
          unfold numV
          dsimp only
          have wc : IntKind.u32.wrap (c : Int) = (c : Int) := by unfold IntKind.wrap; simp [IntKind.bits, IntKind.signed]; omega
          have wq : IntKind.u32.wrap (q : Int) = (q : Int) := by unfold IntKind.wrap; simp [IntKind.bits, IntKind.signed]; omega
          have hx4 := Blk.new w3 25 #[.int .u32 (c : Int), .int .u32 (q : Int), .int .u16 0]
          have hb34 := (Below.refl w3.heap.size w3).alloc (Nat.le_refl _) (.cells #[.int .u32 (c : Int), .int .u32 (q : Int), .int .u16 0] 25)
          have hz4 := hz_w3.below hb34 hz_w3.lt
          have hb4 := below_then hb34 hb0_w3
          obtain ⟨y7, hy7⟩ : ∃ y, w3.heap.size = y := ⟨_, rfl⟩
          have hgy : g < y7 := by rw [← hy7]; exact hz_w3.lt
          rw [hy7] at hx4
          replace hy7 := Lib.hid hy7
          clear hb34 hb0_w3 hz_w3
          go_upto_region 8 with (fail)
          try rw [hy7.out]
          generalize w3.alloc (.cells #[.int .u32 (c : Int), .int .u32 (q : Int), .int .u16 0] 25) = w4 at *
          cases t with
          | nil =>
            have hyes : idP l = some (c, q, 0) := by rw [hid1]; unfold idP2; rw [List.drop_one, List.tail_cons, h2]; rfl
            have m0 := hx4.cell 0
            have m1 := hx4.cell 1
            have m2 := hx4.cell 2
            have f0 := hz4.frozen 0
            have f1 := hz4.frozen 1
            have f2 := hz4.frozen 2
            have k0 := hz4.cell 0
            have k1 := hz4.cell 1
            have k2 := hz4.cell 2
            go_wp2_with fail
            refine bodyPost_ret (v := .tuple #[.agg #[.int .u32 (c : Int), .int .u32 (q : Int), .int .u16 0], .bool true]) ?_ rfl ?_
            · exact results_ct rfl _ _ g 25 _ (0, 0) _ _ rfl rfl (((hz4.set_ 0 (.int .u32 (c : Int))).set_ 1 (.int .u32 (q : Int))).set_ 2 (.int .u16 0)) Tryd.underlying25 rfl (by kernel_rfl)
            · exact ⟨by first | rfl | (rw [hyes]; rfl), (((hb4.setCell (p := ⟨g, 0, none⟩) (by rw [hg.out]; exact Nat.le_refl _) (.int .u32 (c : Int))).setCell (p := ⟨g, 1, none⟩) (by rw [hg.out]; exact Nat.le_refl _) (.int .u32 (q : Int))).setCell (p := ⟨g, 2, none⟩) (by rw [hg.out]; exact Nat.le_refl _) (.int .u16 0))⟩
          | cons a t =>
            have hgt : ∀ h : 0 < (bstr (a :: t)).size, ((bstr (a :: t))[0]'h) = a := fun h => rfl
            have htl2 : t.length ≤ 140737488351232 := by rw [List.length_cons] at htl; omega
            by_cases h46 : a = 46
            · subst h46
              have hid2 : idP l = idP3 c q (46 :: t) := by rw [hid1]; unfold idP2; rw [List.drop_one, List.tail_cons, h2]; rfl
              have hex2 : (bstr (46 :: t)).extract 1 (bstr (46 :: t)).size = bstr t := by rw [bstr_extract, bstr_size]; simp
              have hnu := num_walk t 65535 (by omega) htl2 w4
              replace hnu := Lib.hid hnu
              go_wp2_with fail
              refine hnu.out.mono ?_
              clear hnu
              rintro e w5 ⟨rfl, hb_w5⟩
              have hb_w5' := hb_w5
              have hz_w5 := hz4.below hb_w5 hz4.lt
              have hb0_w5 := below_then hb_w5 hb4
              clear hb_w5
              have hx5 := hx4.below hb_w5' hx4.lt
              cases h3 : numD 65535 t with
              | none =>
                unfold numV
                dsimp only
                have hno : idP l = none := by rw [hid2]; unfold idP3; rw [List.drop_one, List.tail_cons, h3]
                have f0 := hz_w5.frozen 0
                have f1 := hz_w5.frozen 1
                have f2 := hz_w5.frozen 2
                have k0 := hz_w5.cell 0
                have k1 := hz_w5.cell 1
                have k2 := hz_w5.cell 2
                go_wp2_with fail
                refine bodyPost_ret (v := idV none) ?_ rfl ?_
                · exact results_ct rfl _ _ g 25 _ (0, 0) _ _ rfl rfl (((hz_w5.set_ 0 (.int .u32 0)).set_ 1 (.int .u32 0)).set_ 2 (.int .u16 0)) Tryd.underlying25 rfl (by kernel_rfl)
                · exact ⟨by first | rfl | (rw [hno]), (((hb0_w5.setCell (p := ⟨g, 0, none⟩) (by rw [hg.out]; exact Nat.le_refl _) (.int .u32 0)).setCell (p := ⟨g, 1, none⟩) (by rw [hg.out]; exact Nat.le_refl _) (.int .u32 0)).setCell (p := ⟨g, 2, none⟩) (by rw [hg.out]; exact Nat.le_refl _) (.int .u16 0))⟩
              | some y =>
                obtain ⟨n, u⟩ := y
                obtain ⟨htt, hn, -⟩ := numD_some h3
                unfold numV
                dsimp only
                cases u with
                | cons a u =>
                  have hno : idP l = none := by rw [hid2]; unfold idP3; rw [List.drop_one, List.tail_cons, h3]; exact if_neg (fun e => by cases e.1)
                  have f0 := hz_w5.frozen 0
                  have f1 := hz_w5.frozen 1
                  have f2 := hz_w5.frozen 2
                  have k0 := hz_w5.cell 0
                  have k1 := hz_w5.cell 1
                  have k2 := hz_w5.cell 2
                  go_wp2_with fail
                  refine bodyPost_ret (v := idV none) ?_ rfl ?_
                  · exact results_ct rfl _ _ g 25 _ (0, 0) _ _ rfl rfl (((hz_w5.set_ 0 (.int .u32 0)).set_ 1 (.int .u32 0)).set_ 2 (.int .u16 0)) Tryd.underlying25 rfl (by kernel_rfl)
                  · exact ⟨by first | rfl | (rw [hno]), (((hb0_w5.setCell (p := ⟨g, 0, none⟩) (by rw [hg.out]; exact Nat.le_refl _) (.int .u32 0)).setCell (p := ⟨g, 1, none⟩) (by rw [hg.out]; exact Nat.le_refl _) (.int .u32 0)).setCell (p := ⟨g, 2, none⟩) (by rw [hg.out]; exact Nat.le_refl _) (.int .u16 0))⟩
                | nil =>
                  by_cases h0 : n = 0
                  · subst h0
                    have hno : idP l = none := by rw [hid2]; unfold idP3; rw [List.drop_one, List.tail_cons, h3]; exact if_neg (fun e => e.2 rfl)
                    have f0 := hz_w5.frozen 0
                    have f1 := hz_w5.frozen 1
                    have f2 := hz_w5.frozen 2
                    have k0 := hz_w5.cell 0
                    have k1 := hz_w5.cell 1
                    have k2 := hz_w5.cell 2
                    go_wp2_with fail
                    refine bodyPost_ret (v := idV none) ?_ rfl ?_
                    · exact results_ct rfl _ _ g 25 _ (0, 0) _ _ rfl rfl (((hz_w5.set_ 0 (.int .u32 0)).set_ 1 (.int .u32 0)).set_ 2 (.int .u16 0)) Tryd.underlying25 rfl (by kernel_rfl)
                    · exact ⟨by first | rfl | (rw [hno]), (((hb0_w5.setCell (p := ⟨g, 0, none⟩) (by rw [hg.out]; exact Nat.le_refl _) (.int .u32 0)).setCell (p := ⟨g, 1, none⟩) (by rw [hg.out]; exact Nat.le_refl _) (.int .u32 0)).setCell (p := ⟨g, 2, none⟩) (by rw [hg.out]; exact Nat.le_refl _) (.int .u16 0))⟩
                  · have e1 : ((n : Int) == 0) = false := by rw [beq_eq_false_iff_ne]; omega
                    have e2 : decide ((n : Int) = 0) = false := decide_eq_false (by omega)
                    have wn : IntKind.u16.wrap (n : Int) = (n : Int) := by unfold IntKind.wrap; simp [IntKind.bits, IntKind.signed]; omega
                    have fx := hx5.frozen 2
                    have cx := hx5.cell 2
                    have hx6 := hx5.set_ 2 (.int .u16 (n : Int))
                    have hz6 := hz_w5.far (p := ⟨y7, 2, none⟩) (by show g ≠ y7; omega) (.int .u16 (n : Int))
                    have hb6 : Below w.heap.size w (w5.setCell ⟨y7, 2, none⟩ (.int .u16 (n : Int))) := hb0_w5.setCell (p := ⟨y7, 2, none⟩) (by rw [hg.out]; show g ≤ y7; omega) (.int .u16 (n : Int))
                    go_upto_region 16 with (fail)
                    generalize w5.setCell ⟨y7, 2, none⟩ (.int .u16 (n : Int)) = w6 at *
                    replace hx6 : Blk w6 y7 25 #[.int .u32 (c : Int), .int .u32 (q : Int), .int .u16 (n : Int)] := hx6
                    clear fx cx
                    have hyes : idP l = some (c, q, n) := by rw [hid2]; unfold idP3; rw [List.drop_one, List.tail_cons, h3]; exact if_pos ⟨rfl, h0⟩
                    have m0 := hx6.cell 0
                    have m1 := hx6.cell 1
                    have m2 := hx6.cell 2
                    have f0 := hz6.frozen 0
                    have f1 := hz6.frozen 1
                    have f2 := hz6.frozen 2
                    have k0 := hz6.cell 0
                    have k1 := hz6.cell 1
                    have k2 := hz6.cell 2
                    go_wp2_with fail
                    refine bodyPost_ret (v := .tuple #[.agg #[.int .u32 (c : Int), .int .u32 (q : Int), .int .u16 (n : Int)], .bool true]) ?_ rfl ?_
                    · exact results_ct rfl _ _ g 25 _ (0, 0) _ _ rfl rfl (((hz6.set_ 0 (.int .u32 (c : Int))).set_ 1 (.int .u32 (q : Int))).set_ 2 (.int .u16 (n : Int))) Tryd.underlying25 rfl (by kernel_rfl)
                    · exact ⟨by first | rfl | (rw [hyes]; rfl), (((hb6.setCell (p := ⟨g, 0, none⟩) (by rw [hg.out]; exact Nat.le_refl _) (.int .u32 (c : Int))).setCell (p := ⟨g, 1, none⟩) (by rw [hg.out]; exact Nat.le_refl _) (.int .u32 (q : Int))).setCell (p := ⟨g, 2, none⟩) (by rw [hg.out]; exact Nat.le_refl _) (.int .u16 (n : Int)))⟩
            · obtain ⟨va, hva⟩ : ∃ v, a.toNat = v := ⟨_, rfl⟩
              have hv46 : va ≠ 46 := fun e => h46 (by rw [← UInt8.ofNat_toNat (x := a), hva, e]; rfl)
              have e1 : ((va : Int) != 46) = true := by rw [bne_iff_ne]; omega
              have e2 : decide ((va : Int) ≠ 46) = true := decide_eq_true (by omega)
              have e3 : decide ((va : Int) = 46) = false := decide_eq_false (by omega)
              have hno : idP l = none := by rw [hid1]; unfold idP2; rw [List.drop_one, List.tail_cons, h2]; show (if _ then _ else _) = _; rw [if_neg (by simp)]; exact if_neg (by rw [List.head?_cons]; intro e; cases e; exact h46 rfl)
              have f0 := hz4.frozen 0
              have f1 := hz4.frozen 1
              have f2 := hz4.frozen 2
              have k0 := hz4.cell 0
              have k1 := hz4.cell 1
              have k2 := hz4.cell 2
              go_wp2_with fail
              refine bodyPost_ret (v := idV none) ?_ rfl ?_
              · exact results_ct rfl _ _ g 25 _ (0, 0) _ _ rfl rfl (((hz4.set_ 0 (.int .u32 0)).set_ 1 (.int .u32 0)).set_ 2 (.int .u16 0)) Tryd.underlying25 rfl (by kernel_rfl)
              · exact ⟨by first | rfl | (rw [hno]), (((hb4.setCell (p := ⟨g, 0, none⟩) (by rw [hg.out]; exact Nat.le_refl _) (.int .u32 0)).setCell (p := ⟨g, 1, none⟩) (by rw [hg.out]; exact Nat.le_refl _) (.int .u32 0)).setCell (p := ⟨g, 2, none⟩) (by rw [hg.out]; exact Nat.le_refl _) (.int .u16 0))⟩
      · obtain ⟨va, hva⟩ : ∃ v, a.toNat = v := ⟨_, rfl⟩
        have hv45 : va ≠ 45 := fun e => h45 (by rw [← UInt8.ofNat_toNat (x := a), hva, e]; rfl)
        have e1 : ((va : Int) != 45) = true := by rw [bne_iff_ne]; omega
        have e2 : decide ((va : Int) ≠ 45) = true := decide_eq_true (by omega)
        have e3 : decide ((va : Int) = 45) = false := decide_eq_false (by omega)
        have hno : idP l = none := by unfold idP; rw [h1]; exact if_neg (by rw [List.head?_cons]; intro e; cases e; exact h45 rfl)
        have f0 := hz_w2.frozen 0
        have f1 := hz_w2.frozen 1
        have f2 := hz_w2.frozen 2
        have k0 := hz_w2.cell 0
        have k1 := hz_w2.cell 1
        have k2 := hz_w2.cell 2
        go_wp2_with fail
        refine bodyPost_ret (v := idV none) ?_ rfl ?_
        · exact results_ct rfl _ _ g 25 _ (0, 0) _ _ rfl rfl (((hz_w2.set_ 0 (.int .u32 0)).set_ 1 (.int .u32 0)).set_ 2 (.int .u16 0)) Tryd.underlying25 rfl (by kernel_rfl)
        · exact ⟨by first | rfl | (rw [hno]), (((hb0_w2.setCell (p := ⟨g, 0, none⟩) (by rw [hg.out]; exact Nat.le_refl _) (.int .u32 0)).setCell (p := ⟨g, 1, none⟩) (by rw [hg.out]; exact Nat.le_refl _) (.int .u32 0)).setCell (p := ⟨g, 2, none⟩) (by rw [hg.out]; exact Nat.le_refl _) (.int .u16 0))⟩

end Go.Proofs.YtokcmnenfgbdoaaDoor
