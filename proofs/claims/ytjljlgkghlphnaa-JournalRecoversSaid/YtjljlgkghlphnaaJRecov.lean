/- JournalRecovers' walk. -/
import Derived.Test.YtjljlgkghlphnaaMade
import Derived.Test.YtjljlgkghlphnaaJ5
import Derived.Test.YtjljlgkghlphnaaEnts
set_option linter.unusedSimpArgs false
set_option linter.unusedVariables false
namespace Go.Proofs.Ytjljlgkghlphnaa
open Go.RowKit
set_option maxRecDepth 100000

theorem recF_ok : ∀ (f : Nat) (b : List UInt8) (s : StD) (j : Nat), 0 ≤ s.sure → s.log.length ≤ 400 → (recF f b s j).1.log.length ≤ 400
  | 0, b, s, j, h1, h2 => h2
  | f + 1, b, s, j, h1, h2 => by
    unfold recF
    split
    · exact h2
    · cases rdRec (opened (b.drop j)).1 with
      | none => exact h2
      | some r =>
        dsimp only
        split
        · exact recF_ok f b _ _ (stepD_ok h1 h2).1 (stepD_ok h1 h2).2
        · exact h2
theorem recD_len (b : List UInt8) : (recD b).1.log.length ≤ 400 := recF_ok _ b st0 0 (by decide) (by decide)
structure RvRel (w w2 wr : World) (N j : Nat) (A1 : Option Addr) (c1 : Nat) (bs : List UInt8) : Prop where
  jN : j ≤ N
  ho : Own wr 5 1 A1 bs.length c1 (bys bs)
  hA : ∀ g, bOf A1 = some g → w2.heap.size ≤ g
  hb : Below w2.heap.size w2 wr
  le : bs.length ≤ j * 100000

set_option maxHeartbeats 12800000 in
theorem journalRecovers_walk (A0 D : Option Addr) (c0 cd : Nat) (l : List RecD) (xs : List Value) (css : Nat → Array Value) (raw : List UInt8) (at_ x : Int) (cut : Bool) (w : World) (hrr : RowRec w A0 l xs css) (hlc : l.length ≤ c0) (h : Reads w w.heap.size 1 D raw.length (bys raw)) (hcd : raw.length ≤ cd)
    (ha0 : 0 ≤ at_) (ha1 : at_ ≤ 65535) (hx0 : 0 ≤ x) (hx1 : x ≤ 255) :
    Calls Try.prog 5 #[.slice A0 l.length c0, .slice D raw.length cd, .int .u16 at_, .int .u8 x, .bool cut] w (Says w (.bool true)) := by
  obtain ⟨i0, hi, hz0, hz1, hz2⟩ := info_parts info_u8
  have hrd : ∀ W, Below w.heap.size w W → Reads W W.heap.size 1 D raw.length (bys raw) := fun W hW => (h.below hW).more hW.size
  obtain ⟨N, hN⟩ : ∃ N, l.length = N := ⟨_, rfl⟩
  obtain ⟨R, hR⟩ : ∃ R, raw.length = R := ⟨_, rfl⟩
  have hmade : ∀ W, Below w.heap.size w W → l.length ≤ 20 → Calls Try.prog 18 #[.slice A0 l.length c0] W (MadeRes W l.length) := fun W hW h20 => made_walk ⟨(hrr.1.below hW).more hW.size, fun j x hj => by
    obtain ⟨gg, mm, A, K, cc, e, ho, hv, h1, h2⟩ := hrr.2.1 j x hj
    exact ⟨gg, mm, A, K, cc, e, (ho.below hW).up hW.size, hv, h1, h2⟩, hrr.2.2⟩ h20
  rw [hN] at hmade hlc ⊢
  rw [hR] at hcd ⊢
  replace hrd := Lib.hid hrd
  replace hmade := Lib.hid hmade
  replace hN := Lib.hid hN
  replace hR := Lib.hid hR
  clear h hrr
  go_enter Try.func5, Try.ntmps5
  go_wp2_with fail
  refine (known_true _).mono ?_
  rintro e w1 ⟨rfl, hb1⟩
  try dsimp only
  by_cases h20 : 20 < N
  · have d1 : decide ((20 : Int) < (N : Int)) = true := decide_eq_true (by omega)
    go_wp2_with fail
    go_ret
    exact ⟨rfl, hb1⟩
  have d1 : decide ((20 : Int) < (N : Int)) = false := decide_eq_false (by omega)
  by_cases h200 : 200 < R
  · have d2 : decide ((200 : Int) < (R : Int)) = true := decide_eq_true (by omega)
    go_wp2_with fail
    go_ret
    exact ⟨rfl, hb1⟩
  have d2 : decide ((200 : Int) < (R : Int)) = false := decide_eq_false (by omega)
  go_wp2_with fail
  refine (hmade.out w1 hb1 (by omega)).mono ?_
  clear hmade
  rintro e w2 ⟨A2, c2, ys, cs2, l2, rfl, hl2, ho2, hx2, hxs2, hb2'⟩
  try dsimp only
  have hb2 := below_then hb2' hb1
  have hr2 : ∀ W, Below w2.heap.size w2 W → Reads W w2.heap.size 9 A2 N ys := fun W hW => ho2.reads_.below hW
  have hc2 := ho2.le_cap
  replace hr2 := Lib.hid hr2
  replace hx2 := Lib.hid hx2
  replace hxs2 := Lib.hid hxs2
  replace hl2 := Lib.hid hl2
  clear ho2 d1 d2
  go_wp2_with fail
  go_loopw [11, 12] (fun s11 s12 wr => ∃ (j : Nat) (A1 : Option Addr) (c1 : Nat) (bs : List UInt8), s11 = .slice A1 bs.length c1 ∧ s12 = .int .i64 (j : Int) ∧ RvRel w w2 wr N j A1 c1 bs) (fun _ s12 _ => N + 1 - (intOf s12).toNat)
  case atStart => exact ⟨0, none, 0, [], rfl, rfl, ⟨Nat.zero_le _, Own.none_, by simp [bOf], Below.refl _ _, by simp⟩⟩
  case round =>
    obtain ⟨j, A1, c1, bs, rfl, rfl, hjN, ho1, hA1, hbr, hle⟩ := hrel
    by_cases hlt : j < N
    · have hxj : l2[j]? = some (l2[j]'(by rw [hl2.out]; exact hlt)) := List.getElem?_eq_getElem _
      have hri := hx2.out j _ hxj
      have hxr := hxs2.out j hlt
      generalize l2[j]'(by rw [hl2.out]; exact hlt) = rx at hxj hri
      obtain ⟨gg, mm, A, K, cc, hcs, hop, hv⟩ := hri
      obtain ⟨k, v, nn, ⟨c, s, n, g, m, ol⟩⟩ := rx
      dsimp only at hcs hop hv
      rw [hcs] at hxr
      obtain ⟨ad, rfl, -, -⟩ := (hr2.out wr hbr).2 (by omega)
      have hcells := fun W (hW : Below wr.heap.size wr W) => cells9 (hr2.out W (below_then hW hbr)) hlt hxr
      have hopW : ∀ W, Below wr.heap.size wr W → OpReads W W.heap.size ⟨c, s, n, g, m, ol⟩ #[.int .u32 (c : Int), .int .u32 (s : Int), .int .u16 (n : Int), .string gg, .string mm, .slice A K cc] := fun W hW => (hop.below ((below_then hW (below_then hbr hb2')))).up (below_then hW (below_then hbr hb2')).size
      obtain ⟨P, hP⟩ : ∃ P, bs.length = P := ⟨_, rfl⟩
      have hle2 := hle
      rw [hP] at hle2
      rw [hP]
      have dj : decide ((j : Int) < (N : Int)) = true := decide_eq_true (by omega)
      have hPc : P ≤ c1 := by rw [← hP]; exact ho1.le_cap
      have hj20 : j ≤ 20 := by omega
      have hli := light_op (hopW wr (Below.refl _ _)) wr (Below.refl _ _) (Nat.le_refl _)
      have hcw := hcells wr (Below.refl _ _)
      replace hcells := Lib.hid hcells
      replace hopW := Lib.hid hopW
      replace hP := Lib.hid hP
      clear hxr hcs hxj hop
      go_wp2_with fail
      clear hcw
      refine hli.mono ?_
      clear hli
      rintro e w3 ⟨qq, rfl, hq, hb3⟩
      try dsimp only
      cases qq
      · go_wp2_with fail
        go_ret
        exact ⟨rfl, below_then hb3 (below_then hbr hb2)⟩
      obtain ⟨hlg, hlm, -⟩ := hq rfl
      try dsimp only at hlg hlm
      clear hq
      have ho3 := ho1.below hb3 (Nat.le_refl _)
      have hS3 : Below wr.heap.size wr w3.drew := hb3.drew
      have hput := fun W (hW : Below wr.heap.size wr W) => rput_walk (k := k) (n := nn) (hopW.out W hW) (Nat.le_refl _) hv (by omega) (by omega) ((ho1.below hW (Nat.le_refl _)).reads_) (by omega)
      have hpl := bytesP_le (r := ⟨k, v, nn, ⟨c, s, n, g, m, ol⟩⟩)
      have hez := errJ_zero (r := ⟨k, v, nn, ⟨c, s, n, g, m, ol⟩⟩)
      obtain ⟨E, hE⟩ : ∃ E, errJ ⟨k, v, nn, ⟨c, s, n, g, m, ol⟩⟩ = E := ⟨_, rfl⟩
      obtain ⟨Q, hQ⟩ : ∃ Q, bytesP ⟨k, v, nn, ⟨c, s, n, g, m, ol⟩⟩ = Q := ⟨_, rfl⟩
      obtain ⟨F, hF⟩ : ∃ F, bs ++ framed Q = F := ⟨_, rfl⟩
      rw [hE, hQ] at hput hez
      rw [hP.out, hF] at hput
      replace hF := Lib.hid hF
      clear hpl hE hQ
      replace hput := Lib.hid hput
      replace hez := Lib.hid hez
      go_wp2_with fail
      refine wp_region_lex (fun W => Below wr.heap.size wr W) [9] [10, 11] [0, 1, 2, 3, 4, 5, 6, 7, 8, 9, 10, 11, 12, 13, 14, 15, 16] (by kernel_rfl) rfl (by kernel_rfl) (by kernel_rfl) (fun _ _ d _ _ h => by cases d <;> exact h) ?_
      repeat (first | (refine lexG_take _ ?_ rfl rfl rfl rfl (fun _ => ?_) ?_; rotate_left; (focus (go_simp; with_reducible rfl)); try simp only [Act.put, List.setIfInBounds_toArray, List.set_cons_zero, List.set_cons_succ]) | (refine lexG_held _ ?_ rfl rfl rfl rfl (by assumption) (fun _ hSw => ?_) ?_; rotate_left; (focus (have h1 := hcells.out _ hSw; clear hSw; go_simp; with_reducible rfl)); try simp only [Act.put, List.setIfInBounds_toArray, List.set_cons_zero, List.set_cons_succ]) | (refine lexG_skip _ rfl rfl (by assumption) ?_; try simp only [Act.put, List.setIfInBounds_toArray, List.set_cons_zero, List.set_cons_succ]))
      refine lexG_now _ rfl rfl rfl (fun K0 hK => ?_)
      go_wp2_with fail
      refine (ref_same _).mono ?_
      rintro e w4 ⟨rfl, hb4⟩
      try dsimp only
      have hS4 := below_then hb4 hS3
      refine hK _ _ _ (fun _ h => h) hS4 ?_
      clear hK K0
      try simp only [Act.put, List.setIfInBounds_toArray, List.set_cons_zero, List.set_cons_succ]
      repeat (first | (refine lexG_take _ ?_ rfl rfl rfl rfl (fun _ => ?_) ?_; rotate_left; (focus (go_simp; with_reducible rfl)); try simp only [Act.put, List.setIfInBounds_toArray, List.set_cons_zero, List.set_cons_succ]) | (refine lexG_held _ ?_ rfl rfl rfl rfl (by assumption) (fun _ hSw => ?_) ?_; rotate_left; (focus (have h1 := hcells.out _ hSw; clear hSw; go_simp; with_reducible rfl)); try simp only [Act.put, List.setIfInBounds_toArray, List.set_cons_zero, List.set_cons_succ]) | (refine lexG_skip _ rfl rfl (by assumption) ?_; try simp only [Act.put, List.setIfInBounds_toArray, List.set_cons_zero, List.set_cons_succ]))
      refine lexG_now _ rfl rfl rfl (fun K0 hK => ?_)
      have hp4 := hput.out w4 hS4
      go_wp2_with fail
      refine hp4.mono ?_
      clear hp4
      intro e w5 hres
      have hnw : IntKind.i64.wrap ((j : Int) + 1) = ((j + 1 : Nat) : Int) := by rw [IntKind.wrap_i64]; omega
      by_cases hE0 : E = 0
      · subst hE0
        obtain ⟨A5, c5, rfl, ho5, hb5', hg5⟩ := hres.1 rfl
        try dsimp only
        have hS5 := below_then hb5' hS4
        refine hK _ _ _ (fun _ h => h) hS5 ?_
        clear hK K0
        try simp only [Act.put, List.setIfInBounds_toArray, List.set_cons_zero, List.set_cons_succ]
        repeat (first | (refine lexG_take _ ?_ rfl rfl rfl rfl (fun _ => ?_) ?_; rotate_left; (focus (go_simp; with_reducible rfl)); try simp only [Act.put, List.setIfInBounds_toArray, List.set_cons_zero, List.set_cons_succ]) | (refine lexG_held _ ?_ rfl rfl rfl rfl (by assumption) (fun _ hSw => ?_) ?_; rotate_left; (focus (have h1 := hcells.out _ hSw; clear hSw; go_simp; with_reducible rfl)); try simp only [Act.put, List.setIfInBounds_toArray, List.set_cons_zero, List.set_cons_succ]) | (refine lexG_skip _ rfl rfl (by assumption) ?_; try simp only [Act.put, List.setIfInBounds_toArray, List.set_cons_zero, List.set_cons_succ]))
        refine lexG_nil ?_
        have hb5 := below_then hS5 hbr
        have hA5 : ∀ g, bOf A5 = some g → w2.heap.size ≤ g := fun g hg => by have := hg5 g hg; have := (below_then hS4 hbr).size; omega
        have hQl := (hez.out rfl).2
        have hFl : F.length ≤ (j + 1) * 100000 := by
          rw [← hF.out, List.length_append, framed_len]
          omega
        clear hres hS3 hS4 hS5 hb5' hg5 hb3 hb4 ho3 ho1 hput hez hopW hcells hF
        go_wp2_with fail
        go_roundw
        case rel => exact ⟨j + 1, A5, c5, F, rfl, rfl, ⟨by omega, ho5, hA5, hb5, hFl⟩⟩
        case measure => simp [intOf]; omega
      · obtain ⟨rfl, hb5'⟩ := hres.2 hE0
        try dsimp only
        have hS5 := below_then hb5' hS4
        refine hK _ _ _ (fun _ h => h) hS5 ?_
        clear hK K0
        try simp only [Act.put, List.setIfInBounds_toArray, List.set_cons_zero, List.set_cons_succ]
        repeat (first | (refine lexG_take _ ?_ rfl rfl rfl rfl (fun _ => ?_) ?_; rotate_left; (focus (go_simp; with_reducible rfl)); try simp only [Act.put, List.setIfInBounds_toArray, List.set_cons_zero, List.set_cons_succ]) | (refine lexG_held _ ?_ rfl rfl rfl rfl (by assumption) (fun _ hSw => ?_) ?_; rotate_left; (focus (have h1 := hcells.out _ hSw; clear hSw; go_simp; with_reducible rfl)); try simp only [Act.put, List.setIfInBounds_toArray, List.set_cons_zero, List.set_cons_succ]) | (refine lexG_skip _ rfl rfl (by assumption) ?_; try simp only [Act.put, List.setIfInBounds_toArray, List.set_cons_zero, List.set_cons_succ]))
        refine lexG_nil ?_
        have hb5 := below_then hS5 hbr
        have ho5 := ho1.below hS5 (Nat.le_refl _)
        have dE : ((E : Int) == 0) = false := by rw [beq_eq_false_iff_ne]; omega
        have hle5 : bs.length ≤ (j + 1) * 100000 := Nat.le_trans hle (Nat.mul_le_mul_right _ (Nat.le_succ j))
        have hj5 : j + 1 ≤ N := hlt
        have R5 : RvRel w w2 w5 N (j + 1) A1 c1 bs := ⟨hj5, ho5, hA1, hb5, hle5⟩
        have fin : ∃ (j' : Nat) (A1' : Option Addr) (c1' : Nat) (bs' : List UInt8), (Value.slice A1 P c1 : Value) = .slice A1' bs'.length c1' ∧ (Value.int .i64 ((j + 1 : Nat) : Int)) = .int .i64 (j' : Int) ∧ RvRel w w2 w5 N j' A1' c1' bs' := ⟨j + 1, A1, c1, bs, congrArg (fun z => Value.slice A1 z c1) hP.out.symm, rfl, R5⟩
        replace fin := Lib.hid fin
        replace hE0 := Lib.hid hE0
        clear hres hS3 hS4 hS5 hb5' hb3 hb4 ho3 ho1 hput hez hopW hcells
        go_wp2_with fail
        go_roundw
        case rel => exact fin.out
        case measure => simp [intOf]; omega
    · have dj : decide ((j : Int) < (N : Int)) = false := decide_eq_false (by omega)
      have hbw := below_then hbr hb2
      have hR2 := hrd.out wr hbw
      rw [hR.out] at hR2
      have hA1w : ∀ g, bOf A1 = some g → w.heap.size ≤ g := fun g hg => by have := hA1 g hg; have := hb2.size; omega
      have hlb : bs.length ≤ 3000000 := by omega
      obtain ⟨P, hP⟩ : ∃ P, bs.length = P := ⟨_, rfl⟩
      rw [hP] at ho1 hlb ⊢
      clear hle hbr hA1
      go_upto_region 16 with (at_builtin; go_must (refine wpList_append_mine rfl _ _ 22 22 rfl 5 i0 (.int .u8 0) 1 1 Try.underlying22 hi hz0 hz1 hz2 rfl rfl ho1 rfl (Src.ofReads Try.underlying22 _ hR2 (bys_one _)) (by unfold maxLen; omega) (by omega) (fun A3 c3 w3 ho3 hg3 hat3 => ?_)))
      have hb3 := hbw.grown hg3 hbw.size (fun g hg => hA1w g hg)
      have hA3 : ∀ g, bOf A3 = some g → w.heap.size ≤ g := fun g hg => by
        rcases hat3 with h | h <;> rw [h] at hg
        · exact hA1w g hg
        · cases hg; exact hbw.size
      obtain ⟨F, hF⟩ : ∃ F, bs ++ raw = F := ⟨_, rfl⟩
      have hFl : F.length = P + R := by rw [← hF, List.length_append, hP, hR.out]
      rw [show bys bs ++ bys raw = bys F by rw [← hF]; simp [bys]] at ho3
      obtain ⟨M, hM⟩ : ∃ M, P + R = M := ⟨_, rfl⟩
      rw [hM] at ho3 hFl ⊢
      have hMl : M ≤ 3000200 := by omega
      have hcle := ho3.le_cap
      have hcE := fun h => ho3.none_cap h
      clear hM ho1 hR2 hg3 hat3 hF hbw hA1w
      replace hFl := Lib.hid hFl
      go_upto_if 68 with (fail)
      go_cut [11, 15] from 69 to 84 (fun x11 _ wx => ∃ (E2 : Option Addr) (d : List UInt8) (cE : Nat), x11 = .slice E2 d.length cE ∧ Reads wx wx.heap.size 1 E2 d.length (bys d) ∧ d.length ≤ cE ∧ d.length ≤ 3000200 ∧ (E2 = none → cE = 0) ∧ Below w.heap.size w wx)
      case first =>
        by_cases hM0 : M = 0
        · have hd : decide ((0 : Int) < (M : Int)) = false := decide_eq_false (by omega)
          go_wp2_with fail
          go_meet
          exact ⟨A3, F, c3, by rw [hFl.out], by rw [hFl.out]; exact ho3.reads_, by rw [hFl.out]; omega, by rw [hFl.out]; omega, hcE, hb3⟩
        · have hd : decide ((0 : Int) < (M : Int)) = true := decide_eq_true (by omega)
          obtain ⟨g0, cur, rfl, hblk, hcur, hset⟩ := ho3.open_ (by omega)
          have hgw : w.heap.size ≤ g0 := hA3 g0 rfl
          obtain ⟨q, hq', hqq⟩ : ∃ q : Nat, at_ % (M : Int) = (q : Int) ∧ q < M := by
            have h1 := Int.emod_nonneg at_ (show (M : Int) ≠ 0 by omega)
            have h2 := Int.emod_lt_of_pos at_ (show (0 : Int) < (M : Int) by omega)
            exact ⟨(at_ % (M : Int)).toNat, by omega, by omega⟩
          have hcell := hblk.cell q
          rw [hcur q hqq] at hcell
          have hqF : q < F.length := by rw [hFl.out]; exact hqq
          simp only [bys, byv, List.getElem?_map, List.getElem?_eq_getElem hqF, Option.map_some] at hcell
          have hfz := hblk.frozen q
          obtain ⟨b', hbv⟩ := byte_xor (F[q]'hqF) x (by omega) (by omega)
          have ho4 := hset q (byv b') hqq
          rw [bys_set] at ho4
          have hdl : (F.set q b').length = M := by rw [List.length_set, hFl.out]
          obtain ⟨d, hd'⟩ : ∃ d, F.set q b' = d := ⟨_, rfl⟩
          rw [hd'] at ho4 hdl
          have hb4 : Below w.heap.size w (w3.setCell ⟨g0, q, none⟩ (byv b')) := hb3.setCell (by show w.heap.size ≤ g0; omega) _
          have hr4 := ho4.reads_
          rw [← hdl] at hr4
          clear hset hcur hblk ho4 ho3 hcE
          replace hdl := Lib.hid hdl
          replace hr4 := Lib.hid hr4
          replace hd' := Lib.hid hd'
          cases cut
          · go_wp2_with fail
            go_meet
            exact ⟨some ⟨g0, 0, none⟩, d, c3, by rw [hdl.out], hr4.out, by rw [hdl.out]; exact hcle, by rw [hdl.out]; exact hMl, by simp, hb4⟩
          · go_wp2_with fail
            go_meet
            refine ⟨some ⟨g0, 0, none⟩, d.take q, c3, by rw [List.length_take, hdl.out, Nat.min_eq_left (by omega)], ?_, by rw [List.length_take, hdl.out]; omega, by rw [List.length_take, hdl.out]; omega, by simp, hb4⟩
            have h9 := hr4.out.first (k := q) (by rw [hdl.out]; omega)
            rw [Nat.mul_one, bys_take] at h9
            rw [List.length_take, hdl.out, Nat.min_eq_left (by omega)]
            exact h9
      case rest =>
        obtain ⟨E2, d, cE, rfl, hr4, hc4, hd3, hE2, hb4⟩ := hcut
        generalize wc = w4 at *
        clear hcE hcle ho3 hA3 hb3 hFl
        have hrc1 := rec_walk (c := cE) hr4 hE2 hc4 (by omega)
        have hrc2 := fun W (hW : Below w4.heap.size w4 W) => rrec_walk (c := cE) ((hr4.below hW).more hW.size) hE2 hc4 (by omega)
        have hdok := recD_len d
        obtain ⟨⟨⟨sv, sl, lg, su⟩, nr⟩, hRR⟩ : ∃ R, recD d = R := ⟨_, rfl⟩
        rw [hRR] at hrc1 hrc2 hdok
        obtain ⟨T, hT⟩ : ∃ T, d.length = T := ⟨_, rfl⟩
        rw [hT] at hrc1 hrc2 ⊢
        replace hrc2 := Lib.hid hrc2
        clear hRR hT hr4 hc4 hd3 hE2
        go_wp2_with fail
        refine hrc1.mono ?_
        clear hrc1
        rintro e w5 ⟨L5, c5, ys5, cs5, rfl, hlg5, hb5⟩
        try dsimp only at hlg5 hdok ⊢
        have hrc3 := fun W (hW : Below w5.heap.size w5 W) => hrc2.out W (below_then hW hb5)
        obtain ⟨M2, hM2⟩ : ∃ M2, lg.length = M2 := ⟨_, rfl⟩
        have hsm := fun (W : World) (A' : Option Addr) (c' : Nat) xs' css' (h1 : LogR W W.heap.size L5 c5 lg ys5 cs5) (h2 : LogR W W.heap.size A' c' lg xs' css') => same_state (sv := sv) (sl := sl) (su := su) h1 h2 (Nat.le_refl _) (by omega)
        rw [hM2] at hsm ⊢
        have hb6 := (below_then hb5 hb4).alloc (below_then hb5 hb4).size (.cells #[.int .u64 (sv : Int), .int .u64 (sl : Int), .slice L5 M2 c5, .int .i64 su] 58)
        have hbw6 := (Below.refl w5.heap.size w5).alloc (Nat.le_refl _) (.cells #[.int .u64 (sv : Int), .int .u64 (sl : Int), .slice L5 M2 c5, .int .i64 su] 58)
        have hu6 := Blk.new w5 58 #[.int .u64 (sv : Int), .int .u64 (sl : Int), .slice L5 M2 c5, .int .i64 su]
        have hrc6 := hrc3 _ hbw6
        try dsimp only at hrc6
        clear hrc2 hrc3
        go_wp2_with fail
        generalize w5.alloc (.cells #[.int .u64 (sv : Int), .int .u64 (sl : Int), .slice L5 M2 c5, .int .i64 su] 58) = w6 at *
        have hlg6 := hlg5.below hbw6
        have hs6 := hbw6.size
        generalize w5.heap.size = u at *
        refine hrc6.mono ?_
        clear hrc6
        rintro e w7 ⟨L7, c7, ys7, cs7, rfl, hlg7, hb7⟩
        try dsimp only at hlg7 ⊢
        rw [hM2]
        have hu7 := hu6.below hb7 hu6.lt
        have hb8 := (below_then hb7 hb6).alloc (below_then hb7 hb6).size (.cells #[.int .u64 (sv : Int), .int .u64 (sl : Int), .slice L7 M2 c7, .int .i64 su] 61)
        have hbw8 := (Below.refl w7.heap.size w7).alloc (Nat.le_refl _) (.cells #[.int .u64 (sv : Int), .int .u64 (sl : Int), .slice L7 M2 c7, .int .i64 su] 61)
        have hv8 := Blk.new w7 61 #[.int .u64 (sv : Int), .int .u64 (sl : Int), .slice L7 M2 c7, .int .i64 su]
        have hu8 := hu7.below hbw8 hu7.lt
        have hl58 : LogR (w7.alloc (.cells #[.int .u64 (sv : Int), .int .u64 (sl : Int), .slice L7 M2 c7, .int .i64 su] 61)) (w7.alloc (.cells #[.int .u64 (sv : Int), .int .u64 (sl : Int), .slice L7 M2 c7, .int .i64 su] 61)).heap.size L5 c5 lg ys5 cs5 := by
          have h1 := hs6
          exact ((hlg6.below (hb7.mono h1)).below (hbw8.mono (Nat.le_trans h1 hb7.size))).up (Nat.le_trans h1 (Nat.le_trans hb7.size hbw8.size))
        have hl78 := (hlg7.below hbw8).up hbw8.size
        have hsm8 := hsm _ L7 c7 ys7 cs7 hl58 hl78
        have k1 := hu8.st4
        have k2 := hv8.st4
        have nn1 : ((nr : Int) == (nr : Int)) = true := by simp
        clear hsm hlg5 hlg6 hlg7 hl58 hl78 hu6 hu7 hb7 hb6 hbw6 hbw8 hb5
        go_wp2_with fail
        generalize w7.alloc (.cells #[.int .u64 (sv : Int), .int .u64 (sl : Int), .slice L7 M2 c7, .int .i64 su] 61) = w8 at *
        refine hsm8.mono ?_
        clear hsm8
        rintro e w9 ⟨rfl, hb9⟩
        try dsimp only
        have hb10 := below_then hb9 hb8
        clear k1 k2 hu8 hv8
        go_wp2_with fail
        go_ret
        exact ⟨rfl, hb10⟩
end Go.Proofs.Ytjljlgkghlphnaa
