/- choirlaw26.ViewlogTells. -/
import Derived.Test.YtfmmabkekjchjaaVl12
set_option linter.unusedSimpArgs false
set_option linter.unusedVariables false
namespace Go.Proofs.Ytfmmabkekjchjaa
open Go.RowKit
set_option maxRecDepth 100000

theorem info_rpt : (Try.prog.info? 31).map (fun i => (i.zero, i.size, i.bytes)) = some (some (.agg #[.int .i64 0, .int .u64 0, .slice none 0 0, .int .i64 0]), 4, 48) := by kernel_rfl

structure TlRel (w wr : World) (rs : List RpD) (j : Nat) (A : Option Addr) (c : Nat) (xs : List Value) (LA : Nat → Option Addr) (LC : Nat → Nat) : Prop where
  P : RpsP wr w.heap.size A c rs xs LA LC
  hj : rs.length = j
  hb : Below w.heap.size w wr

set_option maxHeartbeats 25600000 in
theorem viewlogTells_walk (n : Int) {W : World} {A : Option Addr} {c : Nat} {l : List RpA} {xs : List Value} {css : Nat → Array Value} (h : RowRp W A l xs css) : Calls Try.prog 3 #[.int .i64 n, .slice A l.length c] W (fun e W' => e = .returned (.bool true) ∧ Below W.heap.size W W') := by
  obtain ⟨i0, hi, hz0, hz1, hz2⟩ := info_parts info_rpt
  have hkn := fun W => known_true W
  obtain ⟨N, hN⟩ : ∃ N, l.length = N := ⟨_, rfl⟩
  rw [hN]
  replace hN := Lib.hid hN
  replace hkn := Lib.hid hkn
  replace h := Lib.hid h
  go_enter Try.func3, Try.ntmps3
  go_wp2_with fail
  refine (hkn.out _).mono ?_
  rintro e w1 ⟨rfl, hb1⟩
  try dsimp only
  by_cases h9 : 9 < N
  · have d1 : decide ((9 : Int) < (N : Int)) = true := decide_eq_true (by omega)
    go_wp2_with fail
    go_ret
    exact ⟨rfl, hb1⟩
  have d1 : decide ((9 : Int) < (N : Int)) = false := decide_eq_false (by omega)
  go_wp2_with fail
  go_loopw [5, 6] (fun s5 s6 wr => ∃ (rs : List RpD) (j : Nat) (A1 : Option Addr) (c1 : Nat) (xs1 : List Value) (LA : Nat → Option Addr) (LC : Nat → Nat), s5 = .slice A1 j c1 ∧ s6 = .int .i64 (j : Int) ∧ j ≤ N ∧ TlRel W wr rs j A1 c1 xs1 LA LC) (fun _ i _ => N - (intOf i).toNat)
  case atStart => exact ⟨[], 0, none, 0, [], _, _, rfl, rfl, Nat.zero_le _, RpsP.nil _ _, rfl, hb1⟩
  case round =>
    obtain ⟨rs, j, A1, c1, xs1, LA, LC, rfl, rfl, hj, R⟩ := hrel
    have hnw : IntKind.i64.wrap ((j : Int) + 1) = ((j + 1 : Nat) : Int) := by rw [IntKind.wrap_i64]; omega
    by_cases hlt : j < N
    · have hlt' : j < l.length := by rw [hN.out]; exact hlt
      have hx : l[j]? = some l[j] := List.getElem?_eq_getElem _
      have hxi := h.out.2.1 j _ hx
      have hxc := h.out.2.2 j hlt'
      obtain ⟨ad, rfl, -, -⟩ := h.out.1.2 (by omega)
      generalize l[j] = x at hx hxi
      obtain ⟨xf0, xv0, xs0, xl⟩ := x
      obtain ⟨Ax, cx, hcs, hrx, hf, hv, hs⟩ := hxi
      dsimp only at hcs hrx hf hv hs
      rw [hcs] at hxc
      have hbr := R.hb
      have hcell : ∀ W2, Below W.heap.size W W2 → W2.cell? (ad.add (j * 4)) = some (.int .u8 (xf0 : Int)) ∧ W2.cell? ⟨(ad.add (j * 4)).block, (ad.add (j * 4)).off + 1, none⟩ = some (.int .u8 (xv0 : Int)) ∧ W2.cell? ⟨(ad.add (j * 4)).block, (ad.add (j * 4)).off + 2, none⟩ = some (.int .u8 (xs0 : Int)) ∧ W2.cell? ⟨(ad.add (j * 4)).block, (ad.add (j * 4)).off + 3, none⟩ = some (.slice Ax xl.length cx) := fun W2 hW => by
        obtain ⟨ad', e, -, hc⟩ := (h.out.1.below hW).2 (by omega)
        cases e
        have hget : ∀ i u, [Value.int .u8 (xf0 : Int), .int .u8 (xv0 : Int), .int .u8 (xs0 : Int), .slice Ax xl.length cx][i]? = some u → W2.cell? (ad.add (j * 4 + i)) = some u := fun i u hi => by
          refine hc _ u ?_
          rw [show [Value.int .u8 (xf0 : Int), .int .u8 (xv0 : Int), .int .u8 (xs0 : Int), .slice Ax xl.length cx] = (xs.drop (j * 4)).take 4 from hxc.symm, List.getElem?_take] at hi
          split at hi
          · rw [List.getElem?_drop] at hi; exact hi
          · cases hi
        have e := fun k => add_pos ad (j * 4) k
        exact ⟨hget 0 _ rfl, by rw [← e 0]; exact hget 1 _ rfl, by rw [← e 1]; exact hget 2 _ rfl, by rw [← e 2]; exact hget 3 _ rfl⟩
      have hcw := hcell wr hbr
      obtain ⟨n1, hn1⟩ : ∃ n1, xl.length = n1 := ⟨_, rfl⟩
      have hrep := fun (hl10 : xl.length ≤ 10) => report_walk (w := wr) (B := W.heap.size) (c := cx) (f := xf0) (v := xv0) (s := xs0) (hrx.below hbr) hbr.size (by omega) hf hv hs
      rw [hn1] at hcw hrep
      have d2 : decide ((j : Int) < (N : Int)) = true := decide_eq_true (by omega)
      have hown := R.P.ho
      rw [R.hj] at hown
      have hAw := R.P.hA
      replace R := Lib.hid R
      clear hcell hcs hxc hx hrx
      replace hrep := Lib.hid hrep
      replace hn1 := Lib.hid hn1
      by_cases h10 : 10 < n1
      · have d3 : decide ((10 : Int) < (n1 : Int)) = true := decide_eq_true (by omega)
        go_wp2_with fail
        go_ret
        exact ⟨rfl, hbr⟩
      have d3 : decide ((10 : Int) < (n1 : Int)) = false := decide_eq_false (by omega)
      have d3' : decide (10 < n1) = false := decide_eq_false h10
      go_wp2_with fail
      refine (hrep.out (by omega)).mono ?_
      rintro e w6 ⟨lg, xf, xs_, xv, A6, c6, ys, cst, rfl, hlen, hok, P6, hb6, hxf, hxf', hxv⟩
      try dsimp only
      have hS6 := below_then hb6 hbr
      clear hcw
      have hsrc := Reads.lit (size := 4) w6 #[.int .i64 xf, .int .u64 (xv : Int), .slice A6 n1 c6, .int .i64 xs_] 31 (0, 0) 1 [.int .i64 xf, .int .u64 (xv : Int), .slice A6 n1 c6, .int .i64 xs_] rfl rfl
      have hS7 := hb6.alloc hb6.size (.cells #[.int .i64 xf, .int .u64 (xv : Int), .slice A6 n1 c6, .int .i64 xs_] 31)
      have H7 : LogH (w6.alloc (.cells #[.int .i64 xf, .int .u64 (xv : Int), .slice A6 n1 c6, .int .i64 xs_] 31)) (fun g => g < wr.heap.size) A6 c6 lg := P6.held.next (T := fun _ => False) ((Upd.refl _ w6).alloc _) (fun _ _ hf => hf.elim) (fun g _ hg => by have h1 : g < wr.heap.size := hg; show g < wr.heap.size + 2; omega)
      have ho7 := hown.below hS7 (Nat.le_refl _)
      replace H7 := Lib.hid H7
      clear P6
      go_wp2_with (at_builtin; go_must (refine wpList_append_mine rfl _ _ 24 24 rfl 31 i0 _ 4 48 Try.underlying24 hi hz0 hz1 hz2 rfl rfl ho7 rfl (Src.ofReads Try.underlying24 _ hsrc (by intro u hu; simp only [List.mem_cons, List.not_mem_nil, or_false] at hu; rcases hu with rfl | rfl | rfl | rfl <;> rfl)) (by unfold maxLen; omega) (by omega) (fun A8 c8 w8 ho8 hg8 hat8 => ?_)))
      have P8 := R.out.P.push (x := ⟨xf, xv, xs_, lg⟩) (A1 := A6) (c1 := c6) hbr.size hS7 (by rw [R.out.hj]; dsimp only; rw [hlen]; exact ho8) hg8 hat8 H7.out (by dsimp only; omega) hok
      have hb8 := (below_then hS7 hbr).grown hg8 (Nat.le_trans hbr.size hS7.size) (fun g hg => hAw g hg)
      exact ⟨⟨_, j + 1, A8, c8, _, _, _, by simp, by simp [hnw], by omega, P8, by simp [R.out.hj], hb8⟩, by simp [intOf]; omega⟩
    · have hj' : j = N := by omega
      subst hj'
      have d2 : decide ((j : Int) < (j : Int)) = false := decide_eq_false (by omega)
      have hR := R.P.rps
      have hjl := R.hj
      have hbr := R.hb
      have hokr := R.P.ok
      have hlr := R.P.hl
      clear R
      obtain ⟨w2, rfl⟩ : ∃ w2, w2 = wr := ⟨_, rfl⟩
      replace hR := Lib.hid hR
      replace hjl := Lib.hid hjl
      replace hokr := Lib.hid hokr
      replace hlr := Lib.hid hlr
      have hj9 : j ≤ 9 := by omega
      go_wp2_with fail
      go_loopw [7] (fun s7 wr => ∃ i : Nat, s7 = .int .i64 (i : Int) ∧ i ≤ j ∧ Below w2.heap.size w2 wr) (fun i _ => j - (intOf i).toNat)
      case atStart => exact ⟨0, rfl, Nat.zero_le _, Below.refl _ _⟩
      case round =>
        obtain ⟨i, rfl, hi', hbi⟩ := hrel
        have hiw : IntKind.i64.wrap ((i : Int) + 1) = ((i + 1 : Nat) : Int) := by rw [IntKind.wrap_i64]; omega
        by_cases hit : i < j
        · have d4 : decide ((i : Int) < (j : Int)) = true := decide_eq_true (by omega)
          obtain ⟨wi, rfl⟩ : ∃ wi, wi = wr := ⟨_, rfl⟩
          go_wp2_with fail
          go_loopw [8] (fun s8 wr => ∃ k : Nat, s8 = .int .i64 (k : Int) ∧ k ≤ j ∧ Below w2.heap.size w2 wr) (fun i _ => j - (intOf i).toNat)
          case atStart => exact ⟨0, rfl, Nat.zero_le _, hbi⟩
          case round =>
            obtain ⟨k, rfl, hk', hbk⟩ := hrel
            have hkw : IntKind.i64.wrap ((k : Int) + 1) = ((k + 1 : Nat) : Int) := by rw [IntKind.wrap_i64]; omega
            by_cases hkt : k < j
            · have d5 : decide ((k : Int) < (j : Int)) = true := decide_eq_true (by omega)
              have hil : i < rs.length := by rw [hjl.out]; exact hit
              have hkl : k < rs.length := by rw [hjl.out]; exact hkt
              have hxi : rs[i]? = some rs[i] := List.getElem?_eq_getElem _
              have hxk : rs[k]? = some rs[k] := List.getElem?_eq_getElem _
              have hli := hlr.out _ (List.getElem_mem hil)
              have hlk := hlr.out _ (List.getElem_mem hkl)
              generalize rs[i] = x at hxi hli
              generalize rs[k] = y at hxk hlk
              obtain ⟨ad, rfl, -, hci⟩ := hR.out.cells hxi
              obtain ⟨ad', e, -, hck⟩ := hR.out.cells hxk
              cases e
              obtain ⟨ysi, csi, hLi⟩ := hR.out.hx i x hxi
              obtain ⟨ysk, csk, hLk⟩ := hR.out.hx k y hxk
              have hs1 := fun W (hW : Below w2.heap.size w2 W) => vl_same (hLi.below hW) (hLk.below hW) hW.size (by omega) (by omega)
              have hs2 := fun W (hW : Below w2.heap.size w2 W) => ref_vl_same (hLi.below hW) (hLk.below hW) hW.size (by omega) (by omega)
              clear hLi hLk hxi hxk
              obtain ⟨f1, v1, s1, l1⟩ := x
              obtain ⟨f2, v2, s2, l2⟩ := y
              dsimp only at hci hck hs1 hs2 hli hlk
              generalize sameN l1 l2 = sm at hs1 hs2
              generalize l1.length = n1 at *
              generalize l2.length = n2 at *
              generalize LA i = A1 at *
              generalize LC i = c1 at *
              generalize LA k = A2 at *
              generalize LC k = c2 at *
              have hcel := fun W hW => And.intro (hci W hW) (hck W hW)
              have hb1 := fun W => vl_better (w := W) (f1 := f1) (f2 := f2) (s1 := s1) (s2 := s2) (v1 := v1) (v2 := v2) (n1 := n1) (n2 := n2) (c1 := c1) (c2 := c2) (A1 := A1) (A2 := A2)
              have hb2 := fun W => ref_better (w := W) (f1 := f1) (f2 := f2) (s1 := s1) (s2 := s2) (v1 := v1) (v2 := v2) (n1 := n1) (n2 := n2) (c1 := c1) (c2 := c2) (A1 := A1) (A2 := A2)
              generalize betterB v1 v2 n1 n2 f1 f2 = q at hb1 hb2
              have hs1' := fun W (hW : Below wr.heap.size wr W) => hs1 W (below_then hW hbk)
              have hs2' := fun W (hW : Below wr.heap.size wr W) => hs2 W (below_then hW hbk)
              have hb1' := fun W (_ : Below wr.heap.size wr W) => hb1 W
              have hb2' := fun W (_ : Below wr.heap.size wr W) => hb2 W
              have hcl := fun W (hW : Below wr.heap.size wr W) => hcel W (below_then hW hbk)
              replace hs1' := Lib.hid hs1'
              replace hs2' := Lib.hid hs2'
              replace hb1' := Lib.hid hb1'
              replace hb2' := Lib.hid hb2'
              replace hcl := Lib.hid hcl
              have hqq : (q != q) = false := bne_self_eq_false _
              have hss : ((sm : Int) != (sm : Int)) = false := bne_self_eq_false _
              have hS0 : Below wr.heap.size wr wr.drew := (Below.refl _ _).drew
              clear hs1 hs2 hb1 hb2 hcel hci hck
              go_wp2_with fail
              refine wp_region_lex (fun W => Below wr.heap.size wr W) [3, 7, 12, 16, 24, 29, 35, 40] [8, 17, 30, 41] [0, 1, 2, 3, 4, 5, 6, 7, 9, 10, 11, 12, 13, 14, 15, 16, 8, 17, 18, 19, 20, 21, 22, 23, 24, 25, 26, 27, 28, 29, 31, 32, 33, 34, 35, 36, 37, 38, 39, 40, 30, 41, 42, 43] (by kernel_rfl) rfl (by kernel_rfl) (by kernel_rfl) (fun _ _ d _ _ h => by cases d <;> exact h) ?_
              repeat (first | (refine lexG_take _ ?_ rfl rfl rfl rfl (fun _ => ?_) ?_; rotate_left; (focus (go_simp; with_reducible rfl)); try simp only [Act.put, List.setIfInBounds_toArray, List.set_cons_zero, List.set_cons_succ]) | (refine lexG_held _ ?_ rfl rfl rfl rfl (by assumption) (fun _ hSw => ?_) ?_; rotate_left; (focus (have h1 := hcl.out _ hSw; clear hSw; go_simp; with_reducible rfl)); try simp only [Act.put, List.setIfInBounds_toArray, List.set_cons_zero, List.set_cons_succ]) | (refine lexG_skip _ rfl rfl (by assumption) ?_; try simp only [Act.put, List.setIfInBounds_toArray, List.set_cons_zero, List.set_cons_succ]))
              refine lexG_now _ rfl rfl rfl (fun K0 hK => ?_)
              go_wp2_with fail
              refine (hb1'.out _ hS0).mono ?_
              rintro e w11 ⟨rfl, hbw11⟩
              try dsimp only
              have hS1 := below_then hbw11 hS0
              refine hK _ _ _ (fun _ h => h) hS1 ?_
              clear hK K0
              try simp only [Act.put, List.setIfInBounds_toArray, List.set_cons_zero, List.set_cons_succ]
              repeat (first | (refine lexG_take _ ?_ rfl rfl rfl rfl (fun _ => ?_) ?_; rotate_left; (focus (go_simp; with_reducible rfl)); try simp only [Act.put, List.setIfInBounds_toArray, List.set_cons_zero, List.set_cons_succ]) | (refine lexG_held _ ?_ rfl rfl rfl rfl (by assumption) (fun _ hSw => ?_) ?_; rotate_left; (focus (have h1 := hcl.out _ hSw; clear hSw; go_simp; with_reducible rfl)); try simp only [Act.put, List.setIfInBounds_toArray, List.set_cons_zero, List.set_cons_succ]) | (refine lexG_skip _ rfl rfl (by assumption) ?_; try simp only [Act.put, List.setIfInBounds_toArray, List.set_cons_zero, List.set_cons_succ]))
              refine lexG_now _ rfl rfl rfl (fun K0 hK => ?_)
              go_wp2_with fail
              refine (hb2'.out _ hS1).mono ?_
              rintro e w12 ⟨rfl, hbw12⟩
              try dsimp only
              have hS2 := below_then hbw12 hS1
              refine hK _ _ _ (fun _ h => h) hS2 ?_
              clear hK K0
              try simp only [Act.put, List.setIfInBounds_toArray, List.set_cons_zero, List.set_cons_succ]
              repeat (first | (refine lexG_take _ ?_ rfl rfl rfl rfl (fun _ => ?_) ?_; rotate_left; (focus (go_simp; with_reducible rfl)); try simp only [Act.put, List.setIfInBounds_toArray, List.set_cons_zero, List.set_cons_succ]) | (refine lexG_held _ ?_ rfl rfl rfl rfl (by assumption) (fun _ hSw => ?_) ?_; rotate_left; (focus (have h1 := hcl.out _ hSw; clear hSw; go_simp; with_reducible rfl)); try simp only [Act.put, List.setIfInBounds_toArray, List.set_cons_zero, List.set_cons_succ]) | (refine lexG_skip _ rfl rfl (by assumption) ?_; try simp only [Act.put, List.setIfInBounds_toArray, List.set_cons_zero, List.set_cons_succ]))
              refine lexG_now _ rfl rfl rfl (fun K0 hK => ?_)
              go_wp2_with fail
              refine (hs1'.out _ hS2).mono ?_
              rintro e w13 ⟨rfl, hbw13⟩
              try dsimp only
              have hS3 := below_then hbw13 hS2
              refine hK _ _ _ (fun _ h => h) hS3 ?_
              clear hK K0
              try simp only [Act.put, List.setIfInBounds_toArray, List.set_cons_zero, List.set_cons_succ]
              repeat (first | (refine lexG_take _ ?_ rfl rfl rfl rfl (fun _ => ?_) ?_; rotate_left; (focus (go_simp; with_reducible rfl)); try simp only [Act.put, List.setIfInBounds_toArray, List.set_cons_zero, List.set_cons_succ]) | (refine lexG_held _ ?_ rfl rfl rfl rfl (by assumption) (fun _ hSw => ?_) ?_; rotate_left; (focus (have h1 := hcl.out _ hSw; clear hSw; go_simp; with_reducible rfl)); try simp only [Act.put, List.setIfInBounds_toArray, List.set_cons_zero, List.set_cons_succ]) | (refine lexG_skip _ rfl rfl (by assumption) ?_; try simp only [Act.put, List.setIfInBounds_toArray, List.set_cons_zero, List.set_cons_succ]))
              refine lexG_now _ rfl rfl rfl (fun K0 hK => ?_)
              go_wp2_with fail
              refine (hs2'.out _ hS3).mono ?_
              rintro e w14 ⟨rfl, hbw14⟩
              try dsimp only
              have hS4 := below_then hbw14 hS3
              refine hK _ _ _ (fun _ h => h) hS4 ?_
              clear hK K0
              try simp only [Act.put, List.setIfInBounds_toArray, List.set_cons_zero, List.set_cons_succ]
              repeat (first | (refine lexG_take _ ?_ rfl rfl rfl rfl (fun _ => ?_) ?_; rotate_left; (focus (go_simp; with_reducible rfl)); try simp only [Act.put, List.setIfInBounds_toArray, List.set_cons_zero, List.set_cons_succ]) | (refine lexG_held _ ?_ rfl rfl rfl rfl (by assumption) (fun _ hSw => ?_) ?_; rotate_left; (focus (have h1 := hcl.out _ hSw; clear hSw; go_simp; with_reducible rfl)); try simp only [Act.put, List.setIfInBounds_toArray, List.set_cons_zero, List.set_cons_succ]) | (refine lexG_skip _ rfl rfl (by assumption) ?_; try simp only [Act.put, List.setIfInBounds_toArray, List.set_cons_zero, List.set_cons_succ]))
              refine lexG_nil ?_
              have hbn := below_then hS4 hbk
              go_wp2_with fail
              exact ⟨⟨k + 1, by simp [hkw], by omega, hbn⟩, by simp [intOf]; omega⟩
            · have hkj : k = j := by omega
              have d5 : decide ((k : Int) < (j : Int)) = false := decide_eq_false (by omega)
              have d5' : decide (k < j) = false := decide_eq_false (by omega)
              replace hkj := Lib.hid hkj
              go_wp2_with fail
              exact ⟨⟨i + 1, by simp [hiw], by omega, hbk⟩, by simp [intOf]; omega⟩
        · have hij : i = j := by omega
          have d4 : decide ((i : Int) < (j : Int)) = false := decide_eq_false (by omega)
          have d4' : decide (i < j) = false := decide_eq_false (by omega)
          replace hij := Lib.hid hij
          obtain ⟨n8, hn8⟩ : ∃ n8, n.tmod 8 = n8 := ⟨_, rfl⟩
          have hg3 := Blk.new wr 3 #[.int .i64 n, .int .i64 n8]
          have hb3 := hbi.alloc hbi.size (.cells #[.int .i64 n, .int .i64 n8] 3)
          obtain ⟨g3, hgg3⟩ : ∃ g, wr.heap.size = g := ⟨_, rfl⟩
          rw [hgg3] at hg3
          have hg3l := hg3.lt
          have hg3b := hb3
          replace hn8 := Lib.hid hn8
          have hn8' := hn8.out
          go_wp2_with fail
          generalize wr.alloc (.cells #[.int .i64 n, .int .i64 n8] 3) = w3 at *
          go_loopw [102] (fun s7 wr => ∃ i : Nat, s7 = .int .i64 (i : Int) ∧ i ≤ 2 ∧ Below w3.heap.size w3 wr) (fun i _ => 2 - (intOf i).toNat)
          case atStart => exact ⟨0, rfl, Nat.zero_le _, Below.refl _ _⟩
          case round =>
            obtain ⟨i, rfl, hi2, hb3r⟩ := hrel
            have hiw : IntKind.i64.wrap ((i : Int) + 1) = ((i + 1 : Nat) : Int) := by rw [IntKind.wrap_i64]; omega
            by_cases hit : i < 2
            · have d6 : decide ((i : Int) < 2) = true := decide_eq_true (by omega)
              have d6' : decide (i < 2) = true := decide_eq_true hit
              obtain ⟨m, hm⟩ : ∃ m, wr.cell? ⟨g3, i, none⟩ = some (.int .i64 m) := by
                rw [(hg3.below hb3r hg3l).cell]
                rcases i with _ | _ | i
                · exact ⟨n, rfl⟩
                · exact ⟨n8, rfl⟩
                · omega
              have hb4' := below_then hb3r hg3b
              have hch := vl_choose (w := wr) (n := m) (c := c1) (hR.out.below hb4') hb4'.size (by rw [hjl.out]; omega)
              rw [hjl.out] at hch
              replace hch := Lib.hid hch
              go_wp2_with fail
              refine hch.out.mono ?_
              rintro e w4 ⟨hb4, hres⟩
              replace hb4 := below_then hb4 hb3r
              have hbn := fun W (hW : Below w3.heap.size w3 W) => below_then hW hg3b
              rcases hres with ⟨hn4, rfl⟩ | ⟨hn4, A4, c4, ys4, cst4, rfl, P4⟩
              · try dsimp only
                have hb5 := hb4.alloc hb4.size (.cells #[.int .i64 0, .int .u64 0, .slice none 0 0, .int .i64 0] 31)
                have hx5 := Blk.new w4 31 #[.int .i64 0, .int .u64 0, .slice none 0 0, .int .i64 0]
                obtain ⟨g4, hg4⟩ : ∃ g, w4.heap.size = g := ⟨_, rfl⟩
                rw [hg4] at hx5
                have hrc := ref_choose (w := w4.alloc (.cells #[.int .i64 0, .int .u64 0, .slice none 0 0, .int .i64 0] 31)) (n := m) (c := c1) (hR.out.below (below_then hb5 hg3b)) (below_then hb5 hg3b).size (by rw [hjl.out]; omega)
                rw [hjl.out] at hrc
                replace hrc := Lib.hid hrc
                go_wp2_with fail
                try rw [hg4]
                refine hrc.out.mono ?_
                rintro e w6 ⟨hb6, hres6⟩
                have hx6 := hx5.below hb6 hx5.lt
                have hb6' := below_then hb6 hb5
                rcases hres6 with ⟨-, rfl⟩ | ⟨hn6, -⟩
                rotate_left
                · rw [hn4] at hn6; cases hn6
                try dsimp only
                have hx7 := hx6.alloc (.cells #[.int .i64 0, .int .u64 0, .slice none 0 0, .int .i64 0] 31)
                have hy7 := Blk.new w6 31 #[.int .i64 0, .int .u64 0, .slice none 0 0, .int .i64 0]
                have hb7 := hb6'.alloc hb6'.size (.cells #[.int .i64 0, .int .u64 0, .slice none 0 0, .int .i64 0] 31)
                obtain ⟨g6, hg6⟩ : ∃ g, w6.heap.size = g := ⟨_, rfl⟩
                rw [hg6] at hy7
                have hxc := hx7.st4
                have hyc := hy7.st4
                have hsa := same_zero (w := w6.alloc (.cells #[.int .i64 0, .int .u64 0, .slice none 0 0, .int .i64 0] 31))
                replace hsa := Lib.hid hsa
                go_wp2_with fail
                try rw [hg6]
                refine hsa.out.mono ?_
                rintro e w9 ⟨rfl, hb9⟩
                try dsimp only
                have hb10 := below_then hb9 hb7
                go_wp2_with fail
                exact ⟨⟨i + 1, by simp [hiw], by omega, hb10⟩, by simp [intOf]; omega⟩
              · obtain ⟨cf, hcf⟩ : ∃ x, (chooseS m rs).1.f = x := ⟨_, rfl⟩
                obtain ⟨cv, hcv⟩ : ∃ x, (chooseS m rs).1.v = x := ⟨_, rfl⟩
                obtain ⟨cn, hcn⟩ : ∃ x, (chooseS m rs).1.l.length = x := ⟨_, rfl⟩
                obtain ⟨cs_, hcs5⟩ : ∃ x, chSure m rs = x := ⟨_, rfl⟩
                rw [(choose_ok m rs hokr.out).clean] at P4
                rw [hcv, hcn, hcf, hcs5]
                try dsimp only
                have hb5 := hb4.alloc hb4.size (.cells #[.int .i64 cf, .int .u64 (cv : Int), .slice A4 cn c4, .int .i64 cs_] 31)
                have hx5 := Blk.new w4 31 #[.int .i64 cf, .int .u64 (cv : Int), .slice A4 cn c4, .int .i64 cs_]
                obtain ⟨g4, hg4⟩ : ∃ g, w4.heap.size = g := ⟨_, rfl⟩
                rw [hg4] at hx5
                have hrc := ref_choose (w := w4.alloc (.cells #[.int .i64 cf, .int .u64 (cv : Int), .slice A4 cn c4, .int .i64 cs_] 31)) (n := m) (c := c1) (hR.out.below (below_then hb5 hg3b)) (below_then hb5 hg3b).size (by rw [hjl.out]; omega)
                rw [hjl.out] at hrc
                replace hrc := Lib.hid hrc
                go_wp2_with fail
                try rw [hg4]
                refine hrc.out.mono ?_
                rintro e w6 ⟨hb6, hres6⟩
                have hx6 := hx5.below hb6 hx5.lt
                have hb6' := below_then hb6 hb5
                rcases hres6 with ⟨hn6, -⟩ | ⟨-, A5, c5, ys5, cst5, rfl, L5⟩
                · rw [hn4] at hn6; cases hn6
                try dsimp only
                rw [hcv, hcn, hcf, hcs5]
                have hx7 := hx6.alloc (.cells #[.int .i64 cf, .int .u64 (cv : Int), .slice A5 cn c5, .int .i64 cs_] 31)
                have hy7 := Blk.new w6 31 #[.int .i64 cf, .int .u64 (cv : Int), .slice A5 cn c5, .int .i64 cs_]
                have hb7 := hb6'.alloc hb6'.size (.cells #[.int .i64 cf, .int .u64 (cv : Int), .slice A5 cn c5, .int .i64 cs_] 31)
                obtain ⟨g6, hg6⟩ : ∃ g, w6.heap.size = g := ⟨_, rfl⟩
                rw [hg6] at hy7
                have hxc := hx7.st4
                have hyc := hy7.st4
                have hb46 : Below w4.heap.size w4 (w6.alloc (.cells #[.int .i64 cf, .int .u64 (cv : Int), .slice A5 cn c5, .int .i64 cs_] 31)) := below_then ((Below.refl w6.heap.size w6).alloc (Nat.le_refl _) _) (below_then hb6 ((Below.refl w4.heap.size w4).alloc (Nat.le_refl _) _))
                have hsa := same_rep (w := w6.alloc (.cells #[.int .i64 cf, .int .u64 (cv : Int), .slice A5 cn c5, .int .i64 cs_] 31)) (xf := cf) (xv := cv) (xs_ := cs_) (c1 := c4) (c2 := c5) ((P4.below hb46).reads (S := fun _ => False) (Upd.refl _ _) (fun _ hf => hf.elim)) ((L5.below ((Below.refl w6.heap.size w6).alloc (Nat.le_refl _) _ |>.mono (Nat.le_trans (below_then hb5 hg3b).size hb6.size))).up (below_then hb7 hg3b).size) (Nat.le_refl _) (by have := choose_len m rs hlr.out; omega) hcn
                replace hsa := Lib.hid hsa
                go_wp2_with fail
                try rw [hg6]
                refine hsa.out.mono ?_
                rintro e w9 ⟨rfl, hb9⟩
                try dsimp only
                have hb10 := below_then hb9 hb7
                go_wp2_with fail
                exact ⟨⟨i + 1, by simp [hiw], by omega, hb10⟩, by simp [intOf]; omega⟩
            · have hij2 : i = 2 := by omega
              have d6 : decide ((i : Int) < 2) = false := decide_eq_false (by omega)
              have d6' : decide (i < 2) = false := decide_eq_false hit
              have hbe := below_then (below_then hb3r hg3b) hbr
              replace hij2 := Lib.hid hij2
              go_wp2_with fail
              go_ret
              exact ⟨rfl, hbe⟩
end Go.Proofs.Ytfmmabkekjchjaa
