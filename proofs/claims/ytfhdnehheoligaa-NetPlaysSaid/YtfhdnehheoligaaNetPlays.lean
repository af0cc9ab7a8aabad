/- NetPlays: any script comes to just the document's packets. -/
import Derived.Test.YtfhdnehheoligaaNp9
import Derived.Deep.CutBlock
set_option linter.unusedSimpArgs false
set_option linter.unusedVariables false
namespace Go.Proofs.Ytfhdnehheoligaa
open Go.RowKit
set_option maxRecDepth 100000

theorem act_cells {w : World} {B n k0 : Nat} {ad : Addr} {xs : List Value} {a0 a1 a2 a3 a4 a5 : Value} (h : Reads w B 6 (some ad) n xs) (hk : k0 < n) (hxs : (xs.drop (k0 * 6)).take 6 = [a0, a1, a2, a3, a4, a5]) :
    w.cell? (ad.add (k0 * 6)) = some a0 ∧ w.cell? ⟨(ad.add (k0 * 6)).block, (ad.add (k0 * 6)).off + 1, none⟩ = some a1 ∧ w.cell? ⟨(ad.add (k0 * 6)).block, (ad.add (k0 * 6)).off + 2, none⟩ = some a2 ∧ w.cell? ⟨(ad.add (k0 * 6)).block, (ad.add (k0 * 6)).off + 3, none⟩ = some a3 ∧ w.cell? ⟨(ad.add (k0 * 6)).block, (ad.add (k0 * 6)).off + 4, none⟩ = some a4 ∧ w.cell? ⟨(ad.add (k0 * 6)).block, (ad.add (k0 * 6)).off + 5, none⟩ = some a5 := by
  obtain ⟨ad', e, hb, hc⟩ := h.2 (by omega)
  cases e
  have hg : ∀ i u, i < 6 → [a0, a1, a2, a3, a4, a5][i]? = some u → xs[k0 * 6 + i]? = some u := by
    intro i u hi hu
    rw [← hxs, List.getElem?_take, if_pos hi, List.getElem?_drop] at hu
    exact hu
  have g0 := hc (k0 * 6 + 0) a0 (hg 0 a0 (by omega) rfl)
  have g1 := hc (k0 * 6 + (0 + 1)) a1 (hg 1 a1 (by omega) rfl)
  have g2 := hc (k0 * 6 + (1 + 1)) a2 (hg 2 a2 (by omega) rfl)
  have g3 := hc (k0 * 6 + (2 + 1)) a3 (hg 3 a3 (by omega) rfl)
  have g4 := hc (k0 * 6 + (3 + 1)) a4 (hg 4 a4 (by omega) rfl)
  have g5 := hc (k0 * 6 + (4 + 1)) a5 (hg 5 a5 (by omega) rfl)
  rw [add_pos] at g1 g2 g3 g4 g5
  exact ⟨g0, g1, g2, g3, g4, g5⟩
set_option maxHeartbeats 51200000 in
theorem netPlays_walk {A : Option Addr} {c : Nat} {l : List ActD} {xs : List Value} {css : Nat → Array Value} (ja jb : Int) (w : World) (ho : RowAct w A l xs css) (hcap : l.length ≤ c) : Calls Try.prog 3 #[.slice A l.length c, .int .i64 ja, .int .i64 jb] w (fun e w' => e = .returned (.bool true) ∧ Below w.heap.size w w') := by
  obtain ⟨iP0, iP1, iP2, iP3, iP4⟩ := info_parts info_pk
  obtain ⟨i0, hi, hz0, hz1, hz2⟩ := info_parts info_u8
  have hkn := fun W => known_true W
  obtain ⟨hr, hx, hxs⟩ := ho
  obtain ⟨n, hn⟩ : ∃ q, l.length = q := ⟨_, rfl⟩
  rw [hn] at hr hxs hcap ⊢
  replace hkn := Lib.hid hkn
  replace hr := Lib.hid hr
  replace hx := Lib.hid hx
  replace hxs := Lib.hid hxs
  replace hn := Lib.hid hn
  go_enter Try.func3, Try.ntmps3
  go_wp2_with fail
  refine (hkn.out w).mono ?_
  clear hkn
  rintro e w0 ⟨rfl, hb0⟩
  try dsimp only
  by_cases h60 : 60 < n
  · have d60 : decide ((60 : Int) < (n : Int)) = true := decide_eq_true (by omega)
    go_wp2_with fail
    go_ret
    exact ⟨rfl, hb0⟩
  · have d60 : decide ((60 : Int) < (n : Int)) = false := decide_eq_false (by omega)
    go_wp2_with fail
    refine (np_new w.heap.size w0 hb0.size).mono ?_
    rintro e w1 ⟨rfl, hS1, hb1⟩
    try dsimp only
    obtain ⟨G, hG⟩ : ∃ y, w0.heap.size = y := ⟨_, rfl⟩
    have hs0 := hb0.size
    have hs1 := hb1.size
    have hb01 : Below w.heap.size w w1 := below_then hb1 hb0
    rw [hG] at hS1 hs0 ⊢
    have hGl := (hS1.ft G rfl).1
    obtain ⟨w2, hw2⟩ : ∃ q, q = w1.alloc (.cells #[.slice none 0 0, .int .u64 0] 30) := ⟨_, rfl⟩
    have hb12 : Below w1.heap.size w1 w2 := by rw [hw2]; exact (Below.refl _ _).alloc (Nat.le_refl _) _
    have hY2 : NetS w.heap.size w2 (fun y => y = w1.heap.size) 30 w1.heap.size 0 [] := by rw [hw2]; exact nd_new w.heap.size w1 (by omega)
    obtain ⟨G2, hG2⟩ : ∃ y, w1.heap.size = y := ⟨_, rfl⟩
    rw [hG2] at hY2
    have T2 : TwoN w.heap.size w w2 G G2 (fun y => y = G) (fun y => y = G2) (fun _ => False) 0 [] 0 [] :=
      ⟨hS1.below hb12, hY2, fun y hy e => by omega, fun _ hf => hf.elim, hb01.trans (hb12.mono hb01.size), by have := hb12.size; omega⟩
    replace T2 := Lib.hid T2
    clear hS1 hY2 hb0 hb1 hb01
    go_upto_region 6 with (fail)
    rw [← hw2]
    try rw [hG2]
    clear hw2 hb12
    go_wp2_with fail
    go_loopw [9] (fun z wr => ∃ (j : Nat) (F F2 : Nat → Prop) (m : Nat) (ps : List PkD), j ≤ n ∧ z = .int .i64 (j : Int) ∧ TwoN w.heap.size w wr G G2 F F2 (fun _ => False) m ps m ps ∧ ps.length ≤ j) (fun z _ => n - (intOf z).toNat)
    case atStart => exact ⟨0, _, _, 0, [], Nat.zero_le _, rfl, T2.out, Nat.le_refl _⟩
    case round =>
      clear T2
      rename_i hrel
      obtain ⟨j, F, F2, m, ps, hj, rfl, T, hpl⟩ := hrel
      by_cases hlt : j < n
      · have hgk : l[j]? = some (l[j]'(by rw [hn.out]; exact hlt)) := List.getElem?_eq_getElem _
        obtain ⟨B, cB, hcs, hrB, bw, bn, bm, hBc⟩ := hx.out j _ hgk
        generalize l[j]'(by rw [hn.out]; exact hlt) = x at hgk hcs hrB bw bn bm hBc
        obtain ⟨xw, xn, xm, ⟨xf, xt, xb⟩⟩ := x
        dsimp only at hcs hrB bw bn bm hBc
        have hel := hxs.out j hlt
        rw [hcs] at hel
        have hrr := hr.out.below T.hb
        obtain ⟨ad, rfl, -, -⟩ := hrr.2 (by omega)
        obtain ⟨g0, g1, g2, g3, g4, g5⟩ := act_cells hrr hlt hel
        obtain ⟨LB, hLB⟩ : ∃ q, xb.length = q := ⟨_, rfl⟩
        rw [hLB] at g5 hrB hBc
        have hd : decide ((j : Int) < (n : Int)) = true := decide_eq_true (by omega)
        have hjw : IntKind.i64.wrap ((j : Int) + 1) = (j : Int) + 1 := by rw [IntKind.wrap_i64]; omega
        obtain ⟨w3, hw3⟩ : ∃ q, q = wr.alloc (.cells #[.int .u8 (xw : Int), .int .i64 xn, .int .u64 (xm : Int), .int .i64 xf, .int .i64 xt, .slice B LB cB] 35) := ⟨_, rfl⟩
        have hb3 : Below wr.heap.size wr w3 := by rw [hw3]; exact (Below.refl _ _).alloc (Nat.le_refl _) _
        have hx3 : Blk w3 wr.heap.size 35 #[.int .u8 (xw : Int), .int .i64 xn, .int .u64 (xm : Int), .int .i64 xf, .int .i64 xt, .slice B LB cB] := by rw [hw3]; exact Blk.new wr _ _
        have T3 := T.keepK (wp := wr) (K' := fun y => y = wr.heap.size) hb3 (fun y hy => .inr ⟨by omega, by rw [hy]; exact hx3.lt⟩)
        obtain ⟨y10, hy10⟩ : ∃ y, wr.heap.size = y := ⟨_, rfl⟩
        rw [hy10] at T3 hx3
        have hb03 := T3.hb
        have hxm := Lib.hid bm
        replace T3 := Lib.hid T3
        replace hrB := Lib.hid hrB
        replace hLB := Lib.hid hLB
        clear hel hrr hgk hcs T bm
        go_upto_region 10 with (fail)
        rw [← hw3]
        try rw [hy10]
        clear hw3 g0 g1 g2 g3 g4 g5 hy10
        have p0 := hx3.cell 0
        have p1 := hx3.cell 1
        have p2 := hx3.cell 2
        have p3 := hx3.cell 3
        have p4 := hx3.cell 4
        have p5 := hx3.cell 5
        by_cases h40 : 40 < LB
        · have d40 : decide ((40 : Int) < (LB : Int)) = true := decide_eq_true (by omega)
          go_wp2_with fail
          go_ret
          exact ⟨rfl, hb03⟩
        have d40 : decide ((40 : Int) < (LB : Int)) = false := decide_eq_false (by omega)
        go_upto_if 51 with (fail)
        go_cut [11] from 52 to 53 (fun x11 wx => ∃ kk : Int, x11 = .int .i64 kk ∧ wx = w3)
        case first =>
          go_wp2_with fail
          all_goals (go_meet; exact ⟨_, rfl, rfl⟩)
        case rest =>
        obtain ⟨kk, rfl, hwc⟩ := hcut
        rw [hwc]
        clear hwc
        have hN2h : ∃ A2 N2 c2, ps.length = N2 ∧ w3.cell? ⟨G2, 0, none⟩ = some (.slice A2 N2 c2) := by
          obtain ⟨A2, c2, xs2, css2, C2, X2⟩ := T3.out.Y
          exact ⟨A2, ps.length, c2, rfl, X2.blk.cell 0⟩
        obtain ⟨A2, N2, c2, hNN2, z0⟩ := hN2h
        replace hNN2 := Lib.hid hNN2
        go_upto_region 15 with (fail)
        go_cut [12] from 54 to 64 (fun x12 wx => x12 = .bool (inB kk ps.length) ∧ wx = w3)
        case first =>
          by_cases m1 : 0 ≤ kk
          · have e1 : decide (0 ≤ kk) = true := decide_eq_true m1
            by_cases m2 : kk < (N2 : Int)
            · have e2 : decide (kk < (N2 : Int)) = true := decide_eq_true m2
              have hin : inB kk ps.length = true := by unfold inB; rw [hNN2.out, e1, e2]; rfl
              replace hin := Lib.hid hin
              go_wp2_with fail
              go_meet
              exact ⟨by rw [hin.out], rfl⟩
            · have e2 : decide (kk < (N2 : Int)) = false := decide_eq_false m2
              have hin : inB kk ps.length = false := by unfold inB; rw [hNN2.out, e1, e2]; rfl
              replace hin := Lib.hid hin
              go_wp2_with fail
              go_meet
              exact ⟨by rw [hin.out], rfl⟩
          · have e1 : decide (0 ≤ kk) = false := decide_eq_false m1
            have hin : inB kk ps.length = false := by unfold inB; rw [e1]; rfl
            replace hin := Lib.hid hin
            go_wp2_with fail
            go_meet
            exact ⟨by rw [hin.out], rfl⟩
        case rest =>
        obtain ⟨rfl, hwc⟩ := hcut
        rw [hwc]
        clear hwc z0 hNN2
        obtain ⟨m8, hm8⟩ : ∃ q, xw % 8 = q := ⟨_, rfl⟩
        have t8 : Int.tmod (xw : Int) 8 = (m8 : Int) := by rw [Int.tmod_eq_emod_of_nonneg (by omega)]; omega
        have t8' : (xw : Int) % 8 = (m8 : Int) := by omega
        have v8 : IntKind.u8.wrap (m8 : Int) = (m8 : Int) := by unfold IntKind.wrap; simp [IntKind.bits, IntKind.signed]; omega
        have hm88 : m8 < 8 := by omega
        go_upto_block 2 with (fail)
        go_cut [12, 13, 14, 15, 16, 17, 18, 19] from 68 to 213 (fun x12 x13 x14 x15 x16 x17 x18 x19 wx => ∃ (F F2 : Nat → Prop) (m : Nat) (ps : List PkD), TwoN w.heap.size w wx G G2 F F2 (fun y => y = y10) m ps m ps ∧ Blk wx y10 35 #[.int .u8 (xw : Int), .int .i64 xn, .int .u64 (xm : Int), .int .i64 xf, .int .i64 xt, .slice B LB cB] ∧ ps.length ≤ j + 1)
        case first =>
          have T := T3.out
          clear T3
          have hx := hx3
          clear hx3
          rcases (show m8 < 3 ∨ m8 = 3 ∨ m8 = 4 ∨ m8 = 5 ∨ m8 = 6 ∨ m8 = 7 by omega) with hm3 | rfl | rfl | rfl | rfl | rfl
          · as_aux_lemma =>
              have n3 : ((m8 : Int) == 3) = false := beq_eq_false_iff_ne.2 (by omega)
              have n4 : ((m8 : Int) == 4) = false := beq_eq_false_iff_ne.2 (by omega)
              have n5 : ((m8 : Int) == 5) = false := beq_eq_false_iff_ne.2 (by omega)
              have n6 : ((m8 : Int) == 6) = false := beq_eq_false_iff_ne.2 (by omega)
              have n7 : ((m8 : Int) == 7) = false := beq_eq_false_iff_ne.2 (by omega)
              have hrB3 : Reads w3 w3.heap.size 1 B LB (bys xb) := (hrB.out.below hb03).more hb03.size
              have hbys : (bys xb).length = LB := by rw [← hLB.out]; simp [bys]
              have hone : ∀ u ∈ bys xb, u.oneCell' = true := bys_one xb
              replace T := Lib.hid T
              go_upto_region 17 with (fail)
              go_wp2_with (at_builtin; go_must (refine wpList_append_mine rfl _ _ 31 31 rfl 5 i0 (.int .u8 0) 1 1 Try.underlying31 hi hz0 hz1 hz2 rfl rfl (Own.none_ (w := w3) (t := 5) (size := 1)) rfl (Src.ofReads Try.underlying31 _ hrB3 hone) (by unfold maxLen; omega) (by omega) (fun AG cG w6 hoG hgG hatG => ?_)); rw [Nat.zero_add] at hoG ⊢; rw [List.nil_append] at hoG; clear p0 p1 p2 p3 p4 p5; have hu36 := (Upd.refl (fun _ => False) w3).grown hgG (fun _ e => by cases e); have hb36 := hu36.below (Nat.le_refl _) (fun _ _ hf => hf.elim); have hx6 := hx.below hb36 hx.lt; have p0 := hx6.cell 0; have p1 := hx6.cell 1; have p2 := hx6.cell 2; have p3 := hx6.cell 3; have p4 := hx6.cell 4; have p5 := hx6.cell 5; obtain ⟨w7, hw7⟩ : ∃ q, q = w6.alloc (.cells #[.int .i64 xf, .int .i64 xt, .slice AG LB cG] 33) := ⟨_, rfl⟩; go_upto_region 19 with (fail); skip)
              --CUT1
              rw [← hw7]
              obtain ⟨y18, hy18⟩ : ∃ y, w6.heap.size = y := ⟨_, rfl⟩
              have h18 : Blk w7 y18 33 #[.int .i64 xf, .int .i64 xt, .slice AG LB cG] := by rw [hw7, ← hy18]; exact Blk.new w6 _ _
              have hb67 : Below w6.heap.size w6 w7 := by rw [hw7]; exact (Below.refl _ _).alloc (Nat.le_refl _) _
              try rw [hy18]
              have hs7 : w7.heap.size = y18 + 1 := by rw [hw7, ← hy18]; simp
              clear hw7 p0 p1 p2 p3 p4 p5
              have hb37 : Below w3.heap.size w3 w7 := below_then hb67 hb36
              have hx7 := hx6.below hb67 hx6.lt
              have hoG7 := hoG.below hb67 (Nat.le_refl _)
              have T7 := T.out.keepK (wp := w7) (K' := fun y => y = y10 ∨ bOf AG = some y) hb37 (fun y hy => hy.elim .inl (fun e => .inr ⟨by
                rcases hatG with e2 | e2 <;> rw [e2] at e
                · cases e
                · injection e with e; omega, hoG7.lt e⟩))
              have q0 := h18.cell 0
              have q1 := h18.cell 1
              have q2 := h18.cell 2
              --CUT2
              obtain ⟨A0, c0, xs0, css0, C0, X0⟩ := T7.S
              obtain ⟨w8, hw8⟩ : ∃ q, q = w7.alloc (.cells #[.int .i64 xf, .int .i64 xt, .slice AG LB cG] 33) := ⟨_, rfl⟩
              have hb78 : Below w7.heap.size w7 w8 := by rw [hw8]; exact (Below.refl _ _).alloc (Nat.le_refl _) _
              have hoP : Own w8 33 3 (some ⟨w7.heap.size, 0, none⟩) 1 1 [.int .i64 xf, .int .i64 xt, .slice AG LB cG] := by rw [hw8]; exact Own.new w7 33 3 1 #[.int .i64 xf, .int .i64 xt, .slice AG LB cG] rfl (by unfold maxLen; omega)
              rw [hs7] at hoP
              have hoG8 := hoG7.below hb78 (Nat.le_refl _)
              have T8 := T7.below hb78
              have hx8 := hx7.below hb78 hx7.lt
              have hheld : PkHeld w8 (fun y => (y = G ∨ bOf A0 = some y) ∨ w8.heap.size ≤ y) ⟨xf, xt, xb⟩ #[.int .i64 xf, .int .i64 xt, .slice AG LB cG] := by
                have hg := hoG8
                rw [← hLB.out] at hg ⊢
                refine held_own hg (fun y hy hP => ?_)
                rcases hP with hP | hP
                · exact (T7.hK y (.inr hy)).2.1 (X0.fo y hP).1
                · have := hoG8.lt hy; omega
              have hc1 := np_send (ps := [⟨xf, xt, xb⟩]) (csp := fun _ => #[.int .i64 xf, .int .i64 xt, .slice AG LB cG]) (X0.below hb78) hoP rfl (fun y hy e => by
                have hy' : y18 + 1 = y := by injection hy
                rcases e with e | e
                · have := X0.blk.lt; omega
                · have := X0.ho.lt e; omega) (fun k p hk => by
                obtain ⟨rfl, rfl⟩ : k = 0 ∧ p = ⟨xf, xt, xb⟩ := by
                  cases k with
                  | zero => simp at hk; exact ⟨rfl, hk.symm⟩
                  | succ k => simp at hk
                exact hheld) (fun k p hk => by
                obtain ⟨rfl, rfl⟩ : k = 0 ∧ p = ⟨xf, xt, xb⟩ := by
                  cases k with
                  | zero => simp at hk; exact ⟨rfl, hk.symm⟩
                  | succ k => simp at hk
                rfl) (by omega) (fun p hp => by rw [List.mem_singleton] at hp; subst hp; show xb.length ≤ 1000; rw [hLB.out]; omega)
              replace hc1 := Lib.hid hc1
              replace T8 := Lib.hid T8
              have hb3w : w.heap.size ≤ w3.heap.size := T.out.hbw
              have hbGG : ∀ y, bOf AG = some y → w.heap.size ≤ y := fun y hy => by
                rcases hatG with e2 | e2 <;> rw [e2] at hy
                · cases hy
                · injection hy with hy; omega
              clear T T7 X0 hheld hoP hgG hoG hoG7 hx6 hx7 h18 hrB3
              replace hoG8 := Lib.hid hoG8
              replace hx8 := Lib.hid hx8
              --CUT3
              go_wp2_with fail
              --CUT4
              rw [← hw8]
              clear hw8
              refine hc1.out.mono ?_
              clear hc1
              rintro e w9 ⟨rfl, hC9⟩
              try dsimp only
              --CUT5
              obtain ⟨F9, T9, hu9⟩ := T8.out.prog hC9
              have hx9 := hx8.out.upd hu9 (fun h => h (.inl rfl))
              have hoG9 := hoG8.out.upd hu9 (fun y hy h => h (.inr hy))
              obtain ⟨A2, c2, xs2, css2, C2, X2⟩ := T9.Y
              obtain ⟨N2, hN2⟩ : ∃ q, ps.length = q := ⟨_, rfl⟩
              have hbg := X2.blk
              have hoA := X2.ho
              have hcap2 := X2.ho.le_cap
              rw [hN2] at hbg hoA hcap2
              have hgA := X2.neA
              have hNN : (N2 : Int) ≤ (c2 : Int) := by omega
              have hNr : (N2 : Int) ≤ (N2 : Int) := Int.le_refl _
              have hN59 : N2 ≤ 100 := by omega
              have hS0 : Blk w9.drew G2 30 #[.slice A2 N2 c2, .int .u64 (m : Int)] ∧ Blk w9.drew y10 35 #[.int .u8 (xw : Int), .int .i64 xn, .int .u64 (xm : Int), .int .i64 xf, .int .i64 xt, .slice B LB cB] := ⟨hbg.drewN 1, hx9.drewN 1⟩
              replace T9 := Lib.hid T9
              replace X2 := Lib.hid X2
              replace hN2 := Lib.hid hN2
              replace hoG9 := Lib.hid hoG9
              clear T8 hx8 hoG8 hC9 hu9 q0 q1 q2
              go_upto_region 20 with (fail)
              --CUT6
              refine wp_region_lex (fun W => Blk W G2 30 #[.slice A2 N2 c2, .int .u64 (m : Int)] ∧ Blk W y10 35 #[.int .u8 (xw : Int), .int .i64 xn, .int .u64 (xm : Int), .int .i64 xf, .int .i64 xt, .slice B LB cB]) [4, 8, 13, 17] [18, 19, 22] [0, 1, 2, 3, 4, 5, 6, 7, 8, 9, 10, 11, 12, 13, 14, 15, 16, 17, 18, 19, 20, 21, 22] (by kernel_rfl) rfl (by kernel_rfl) (by kernel_rfl) (fun _ _ d _ _ h => by cases d <;> exact h) ?_
              repeat (first | (refine lexG_take _ ?_ rfl rfl rfl rfl (fun _ => ?_) ?_; rotate_left; (focus (go_simp; with_reducible rfl)); try simp only [Act.put, List.setIfInBounds_toArray, List.set_cons_zero, List.set_cons_succ]) | (refine lexG_held _ ?_ rfl rfl rfl rfl (by assumption) (fun _ hSw => ?_) ?_; rotate_left; (focus (have h1 := hSw.1.cell 0; have h2 := hSw.2.cell 3; have h3 := hSw.2.cell 4; have h4 := hSw.2.cell 5; clear hSw; go_simp; with_reducible rfl)); try simp only [Act.put, List.setIfInBounds_toArray, List.set_cons_zero, List.set_cons_succ]) | (refine lexG_skip _ rfl rfl (by assumption) ?_; try simp only [Act.put, List.setIfInBounds_toArray, List.set_cons_zero, List.set_cons_succ]))
              --CUT7
              have hsrc := (Reads.lit (size := 3) w9 #[.int .i64 xf, .int .i64 xt, .slice B LB cB] 33 (0, 0) 1 [.int .i64 xf, .int .i64 xt, .slice B LB cB] rfl rfl).drew
              have hb9a := ((Below.refl w9.heap.size w9).alloc (Nat.le_refl _) (.cells #[.int .i64 xf, .int .i64 xt, .slice B LB cB] 33)).drew
              refine lexG_now _ rfl rfl rfl (fun K0 hK => ?_)
              go_wp2_with fail
              generalize (w9.alloc (.cells #[.int .i64 xf, .int .i64 xt, .slice B LB cB] 33)).drew = wa at *
              have hbga := hbg.below hb9a hbg.lt
              have hxa := hx9.below hb9a hx9.lt
              refine hK _ _ _ (fun _ h => h) ⟨hbga, hxa⟩ ?_
              clear hK K0
              try simp only [Act.put, List.setIfInBounds_toArray, List.set_cons_zero, List.set_cons_succ]
              repeat (first | (refine lexG_take _ ?_ rfl rfl rfl rfl (fun _ => ?_) ?_; rotate_left; (focus (go_simp; with_reducible rfl)); try simp only [Act.put, List.setIfInBounds_toArray, List.set_cons_zero, List.set_cons_succ]) | (refine lexG_held _ ?_ rfl rfl rfl rfl (by assumption) (fun _ hSw => ?_) ?_; rotate_left; (focus (have h1 := hSw.1.cell 0; have h2 := hSw.2.cell 3; have h3 := hSw.2.cell 4; have h4 := hSw.2.cell 5; clear hSw; go_simp; with_reducible rfl)); try simp only [Act.put, List.setIfInBounds_toArray, List.set_cons_zero, List.set_cons_succ]) | (refine lexG_skip _ rfl rfl (by assumption) ?_; try simp only [Act.put, List.setIfInBounds_toArray, List.set_cons_zero, List.set_cons_succ]))
              --CUT8
              have hown := (hoA.clip (Nat.le_refl N2) hcap2).below hb9a (Nat.le_refl _)
              refine lexG_now _ rfl rfl rfl (fun K0 hK => ?_)
              refine wp_append_mine _ _ 27 27 rfl 33 iP0 _ 3 40 Try.underlying27 iP1 iP2 iP3 iP4 rfl rfl hown rfl (Src.ofReads Try.underlying27 _ hsrc (by intro u hu; simp only [List.mem_cons, List.not_mem_nil, or_false] at hu; rcases hu with rfl | rfl | rfl <;> rfl)) (by unfold maxLen; omega) (by omega) (fun A8 c8 wb ho8 hg8 hat8 => ?_)
              have hub : Upd (fun z => bOf A2 = some z) wa wb := (Upd.refl (fun z => bOf A2 = some z) _).grown hg8 (fun y e _ => e)
              have hbgb := hbga.upd hub (fun e => hgA _ e rfl)
              have hxb := hxa.upd hub (fun e => (T9.out.hK y10 (.inl rfl)).2.2 (X2.out.fo y10 (.inr e)).1)
              refine hK _ _ _ (fun _ h => h) ⟨hbgb, hxb⟩ ?_
              clear hK K0
              try simp only [Act.put, List.setIfInBounds_toArray, List.set_cons_zero, List.set_cons_succ]
              repeat (first | (refine lexG_take _ ?_ rfl rfl rfl rfl (fun _ => ?_) ?_; rotate_left; (focus (go_simp; with_reducible rfl)); try simp only [Act.put, List.setIfInBounds_toArray, List.set_cons_zero, List.set_cons_succ]) | (refine lexG_held _ ?_ rfl rfl rfl rfl (by assumption) (fun _ hSw => ?_) ?_; rotate_left; (focus (have h1 := hSw.1.cell 0; have h2 := hSw.2.cell 3; have h3 := hSw.2.cell 4; have h4 := hSw.2.cell 5; clear hSw; go_simp; with_reducible rfl)); try simp only [Act.put, List.setIfInBounds_toArray, List.set_cons_zero, List.set_cons_succ]) | (refine lexG_skip _ rfl rfl (by assumption) ?_; try simp only [Act.put, List.setIfInBounds_toArray, List.set_cons_zero, List.set_cons_succ]))
              --CUT9
              have k0 := hbgb.cell 0
              have f0 := hbgb.frozen 0
              refine lexG_nowF _ rfl rfl rfl (by kernel_rfl) (fun K0 hK => ?_)
              go_wp2_with fail
              try simp only [Act.put, List.setIfInBounds_toArray, List.set_cons_zero, List.set_cons_succ]
              refine lexG_nil ?_
              --CUTa
              have hbgE : Blk (wb.setCell ⟨G2, 0, none⟩ (.slice A8 (N2 + 1) c8)) G2 30 #[.slice A8 (N2 + 1) c8, .int .u64 (m : Int)] := hbgb.set_ 0 _
              have huc : Upd (fun z => z = G2) wb (wb.setCell ⟨G2, 0, none⟩ (.slice A8 (N2 + 1) c8)) := (Upd.refl (fun z => z = G2) wb).setCell (p := ⟨G2, 0, none⟩) (fun _ => rfl) _
              have hbw : Below w.heap.size w wa := T9.out.hb.trans (hb9a.mono T9.out.hbw)
              have hba : w.heap.size ≤ wa.heap.size := Nat.le_trans T9.out.hbw hb9a.size
              have hlka : PkHeld wa (fun y => ¬ y < w.heap.size) ⟨xf, xt, xb⟩ #[.int .i64 xf, .int .i64 xt, .slice B LB cB] := fun S W hu hS => by
                have hbW : Below w.heap.size wa W := hu.below hba (fun k hk e => hS k e hk)
                refine ⟨B, cB, by rw [hLB.out], ?_⟩
                rw [hLB.out]
                exact (hrB.out.below (hbw.trans hbW)).more (hbw.trans hbW).size
              have hpush := X2.out.pushX (D := fun y => y < w.heap.size) (p := ⟨xf, xt, xb⟩) (cs := #[.int .i64 xf, .int .i64 xt, .slice B LB cB]) hb9a (by rw [hN2.out]; exact ho8) hg8 hat8 huc (by rw [hN2.out]; exact hbgE) hlka (fun y hy => .inr (.inl hy)) (by rw [hN2.out]; omega) (by show xb.length ≤ 1000; rw [hLB.out]; omega)
              have hCc : Chg w.heap.size w9 (wb.setCell ⟨G2, 0, none⟩ (.slice A8 (N2 + 1) c8)) F2 30 G2 m (ps ++ [⟨xf, xt, xb⟩]) := ⟨hpush.1.mono (fun y _ e => (X2.out.fo y e).1), _, ⟨_, _, _, _, _, hpush.2⟩, fun y hy => hy.elim .inl (fun e => .inr e.1)⟩
              generalize wb.setCell ⟨G2, 0, none⟩ (.slice A8 (N2 + 1) c8) = wc at *
              clear hsrc hown ho8 hg8 hat8 hub hbgb k0 f0 hbgE huc hpush hlka hb9a hbga hxa hxb hS0 hbw hba
              obtain ⟨Fc, Tc, huc⟩ := T9.out.doc hCc
              have hxc := hx9.upd huc (fun h => h (.inl rfl))
              have hoGc := hoG9.out.upd huc (fun y hy h => h (.inr hy))
              replace Tc := Lib.hid Tc
              clear hCc huc T9 hx9 X2 hbg hoA hoG9
              go_upto_region 21 with (fail)
              --CUTb
              go_wp2_with fail
              go_loopw [19] (fun z wr => ∃ (q : Nat) (bs : List UInt8), q ≤ LB ∧ z = .int .i64 (q : Int) ∧ bs.length = LB ∧ Own wr 5 1 AG LB cG (bys bs) ∧ TwoN w.heap.size w wr G G2 F9 Fc (fun y => y = y10 ∨ bOf AG = some y) m (ps ++ [⟨xf, xt, xb⟩]) m (ps ++ [⟨xf, xt, xb⟩]) ∧ Blk wr y10 35 #[.int .u8 (xw : Int), .int .i64 xn, .int .u64 (xm : Int), .int .i64 xf, .int .i64 xt, .slice B LB cB]) (fun z _ => LB - (intOf z).toNat)
              case atStart => exact ⟨0, xb, Nat.zero_le _, rfl, hLB.out, hoGc, Tc.out, hxc⟩
              case round =>
                rename_i hrel
                obtain ⟨q, bs, hq, rfl, hbs, hor, Tr, hxr⟩ := hrel
                clear Tc hxc hoGc
                by_cases hlt : q < LB
                · have hd : decide ((q : Int) < (LB : Int)) = true := decide_eq_true (by omega)
                  have hqw : IntKind.i64.wrap ((q : Int) + 1) = (q : Int) + 1 := by rw [IntKind.wrap_i64]; omega
                  obtain ⟨gG, cur, rfl, hblk, hcur, hset⟩ := hor.open_ (by omega)
                  have hcell := hblk.cell q
                  rw [hcur q hlt] at hcell
                  simp only [bys, byv, List.getElem?_map, List.getElem?_eq_getElem (show q < bs.length by omega), Option.map_some] at hcell
                  have hfz := hblk.frozen q
                  obtain ⟨b', hbv⟩ := byte_xor (bs[q]'(by omega)) 255 (by omega) (by omega)
                  have ho4 := hset q (byv b') hlt
                  rw [bys_set] at ho4
                  have hu4 : Upd (fun z => z = gG) wr (wr.setCell ⟨gG, q, none⟩ (byv b')) := (Upd.refl (fun z => z = gG) wr).setCell (p := ⟨gG, q, none⟩) (fun _ => rfl) _
                  have hbG : w.heap.size ≤ gG := hbGG gG rfl
                  have T4 := Tr.put hu4 (fun y e => ⟨.inr (by rw [e]; rfl), by omega⟩)
                  have hne : y10 ≠ gG := fun e => by
                    have := hblk.ne_ hxr (by decide)
                    exact this e.symm
                  have hx4 := hxr.upd hu4 hne
                  have hdl : (bs.set q b').length = LB := by simp [hbs]
                  replace ho4 := Lib.hid ho4
                  replace T4 := Lib.hid T4
                  replace hx4 := Lib.hid hx4
                  clear hset hcur hblk hor Tr hxr hu4
                  go_wp2_with fail
                  go_roundw
                  case rel => exact ⟨q + 1, _, by omega, by simp, hdl, ho4.out, T4.out, hx4.out⟩
                  case measure => simp [intOf]; omega
                · have hd : decide ((q : Int) < (LB : Int)) = false := decide_eq_false (by omega)
                  have Te := Tr.keepK (wp := wr) (K' := fun y => y = y10) (Below.refl _ _) (fun y hy => .inl (.inl hy))
                  replace Te := Lib.hid Te
                  replace hxr := Lib.hid hxr
                  clear Tr hor
                  go_wp2_with fail
                  go_meet
                  exact ⟨F9, Fc, m, ps ++ [⟨xf, xt, xb⟩], Te.out, hxr.out, by rw [List.length_append]; simp; omega⟩
          · as_aux_lemma =>
              have hc1 := np_take T.S kk
              obtain ⟨tk, htk⟩ : ∃ q, takeD m ps kk = q := ⟨_, rfl⟩
              obtain ⟨dl, hdl⟩ : ∃ q, dropL ps kk = q := ⟨_, rfl⟩
              have hdll : dl.length ≤ ps.length := by rw [← hdl]; unfold dropL; split; (exact List.length_eraseIdx_le ..); exact Nat.le_refl _
              have hftY := T.Y.ft
              have hFF := T.hF
              rw [htk, hdl] at hc1
              obtain ⟨⟨tf, tt, tb⟩, tq⟩ := tk
              dsimp only at hc1
              replace hc1 := Lib.hid hc1
              replace htk := Lib.hid htk
              replace hdl := Lib.hid hdl
              replace T := Lib.hid T
              replace hftY := Lib.hid hftY
              replace hFF := Lib.hid hFF
              clear p0 p1 p2 p3 p4 p5
              go_wp2_with fail
              refine hc1.out.mono ?_
              clear hc1
              rintro e w6 ⟨cs6, rfl, hp6, hC6⟩
              obtain ⟨B6, c6, rfl, -⟩ := hp6.reads
              try dsimp only
              obtain ⟨F6, T6, hu6⟩ := T.out.prog hC6
              have hx6 := hx.upd hu6 (fun h => h rfl)
              obtain ⟨LT, hLT⟩ : ∃ q, tb.length = q := ⟨_, rfl⟩
              rw [hLT] at hp6 ⊢
              obtain ⟨w7, hw7⟩ : ∃ q, q = w6.alloc (.cells #[.int .i64 tf, .int .i64 tt, .slice B6 LT c6] 33) := ⟨_, rfl⟩
              have hb67 : Below w6.heap.size w6 w7 := by rw [hw7]; exact (Below.refl _ _).alloc (Nat.le_refl _) _
              have h13 : Blk w7 w6.heap.size 33 #[.int .i64 tf, .int .i64 tt, .slice B6 LT c6] := by rw [hw7]; exact Blk.new w6 _ _
              have T7 := T6.keepK (wp := w6) (K' := fun y => y = y10 ∨ y = w6.heap.size) hb67 (fun y hy => hy.elim .inl (fun e => .inr ⟨by omega, by rw [e]; exact h13.lt⟩))
              obtain ⟨y13, hy13⟩ : ∃ y, w6.heap.size = y := ⟨_, rfl⟩
              rw [hy13] at h13 T7
              have hx7 := hx6.below hb67 hx6.lt
              have hp7 := hp6.next (P' := fun y => w.heap.size ≤ y ∧ ¬ F y) (T := fun _ => False) (Upd.of_below_size hb67) (fun _ _ h => h.elim) (fun _ _ e => e)
              have hc2 := nd_take T7.Y kk
              rw [htk.out, hdl.out] at hc2
              dsimp only at hc2
              replace hc2 := Lib.hid hc2
              replace T7 := Lib.hid T7
              replace hp7 := Lib.hid hp7
              replace hLT := Lib.hid hLT
              clear hp6 hC6 T6 hu6 hx6
              go_upto_region 28 with (fail)
              rw [← hw7]
              try rw [hy13]
              clear hw7
              go_wp2_with fail
              refine hc2.out.mono ?_
              clear hc2
              rintro e w8 ⟨cs8, rfl, hp8, hC8⟩
              obtain ⟨B8, c8, rfl, hr8⟩ := hp8.reads
              try dsimp only
              rw [hLT.out]
              obtain ⟨F8, T8, hu8⟩ := T7.out.doc hC8
              have hx8 := hx7.upd hu8 (fun h => h (.inl rfl))
              have h138 := h13.upd hu8 (fun h => h (.inr rfl))
              obtain ⟨B6', c6', hcs6, hr6⟩ := hp7.out _ w8 hC8.1 (fun y hy => ⟨(hftY.out y hy).2, fun hf => hFF.out y hf hy⟩)
              simp only [hLT.out, Array.mk.injEq, List.cons.injEq, Value.slice.injEq, and_true, true_and] at hcs6
              obtain ⟨rfl, rfl⟩ := hcs6
              obtain ⟨w9, hw9⟩ : ∃ q, q = w8.alloc (.cells #[.int .i64 tf, .int .i64 tt, .slice B8 LT c8] 33) := ⟨_, rfl⟩
              have hb89 : Below w8.heap.size w8 w9 := by rw [hw9]; exact (Below.refl _ _).alloc (Nat.le_refl _) _
              have h15 : Blk w9 w8.heap.size 33 #[.int .i64 tf, .int .i64 tt, .slice B8 LT c8] := by rw [hw9]; exact Blk.new w8 _ _
              obtain ⟨y15, hy15⟩ : ∃ y, w8.heap.size = y := ⟨_, rfl⟩
              have hs89 := hb89.size
              have hpk := np_packet (pf := tf) (pt := tt) (c := c6) (c2 := c8) ((hr6.below hb89).more hs89) ((hr8.below hb89).more hs89) hLT.out
              have T9 := (T8.below hb89).keepK (wp := w9) (K' := fun y => y = y10) (Below.refl _ _) (fun y hy => .inl (.inl hy))
              have hx9 := hx8.below hb89 hx8.lt
              have h139 := h138.below hb89 h138.lt
              rw [hy15] at h15
              replace hpk := Lib.hid hpk
              replace T9 := Lib.hid T9
              clear hC8 T8 hu8 hx8 h138 hr6 hr8 hp8
              go_upto_region 29 with (fail)
              rw [← hw9]
              try rw [hy15]
              clear hw9
              have q0 := h139.cell 0
              have q1 := h139.cell 1
              have q2 := h139.cell 2
              have s0 := h15.cell 0
              have s1 := h15.cell 1
              have s2 := h15.cell 2
              have hqq : (tq != tq) = false := by cases tq <;> rfl
              go_wp2_with fail
              refine hpk.out.mono ?_
              clear hpk
              rintro e wa ⟨rfl, hba⟩
              try dsimp only
              go_wp2_with fail
              go_meet
              exact ⟨F6, F8, m, dl, T9.out.below hba, hx9.below hba hx9.lt, by omega⟩
          · as_aux_lemma =>
              have hc1 := np_take T.S kk
              obtain ⟨tk, htk⟩ : ∃ q, takeD m ps kk = q := ⟨_, rfl⟩
              obtain ⟨dl, hdl⟩ : ∃ q, dropL ps kk = q := ⟨_, rfl⟩
              have hdll : dl.length ≤ ps.length := by rw [← hdl]; unfold dropL; split; (exact List.length_eraseIdx_le ..); exact Nat.le_refl _
              have hftY := T.Y.ft
              have hFF := T.hF
              rw [htk, hdl] at hc1
              obtain ⟨⟨tf, tt, tb⟩, tq⟩ := tk
              dsimp only at hc1
              replace hc1 := Lib.hid hc1
              replace htk := Lib.hid htk
              replace hdl := Lib.hid hdl
              replace T := Lib.hid T
              replace hftY := Lib.hid hftY
              replace hFF := Lib.hid hFF
              clear p0 p1 p2 p3 p4 p5
              go_wp2_with fail
              refine hc1.out.mono ?_
              clear hc1
              rintro e w6 ⟨cs6, rfl, hp6, hC6⟩
              obtain ⟨B6, c6, rfl, -⟩ := hp6.reads
              try dsimp only
              obtain ⟨F6, T6, hu6⟩ := T.out.prog hC6
              have hx6 := hx.upd hu6 (fun h => h rfl)
              obtain ⟨LT, hLT⟩ : ∃ q, tb.length = q := ⟨_, rfl⟩
              rw [hLT] at hp6 ⊢
              obtain ⟨w7, hw7⟩ : ∃ q, q = w6.alloc (.cells #[.int .i64 tf, .int .i64 tt, .slice B6 LT c6] 33) := ⟨_, rfl⟩
              have hb67 : Below w6.heap.size w6 w7 := by rw [hw7]; exact (Below.refl _ _).alloc (Nat.le_refl _) _
              have h13 : Blk w7 w6.heap.size 33 #[.int .i64 tf, .int .i64 tt, .slice B6 LT c6] := by rw [hw7]; exact Blk.new w6 _ _
              have T7 := T6.keepK (wp := w6) (K' := fun y => y = y10 ∨ y = w6.heap.size) hb67 (fun y hy => hy.elim .inl (fun e => .inr ⟨by omega, by rw [e]; exact h13.lt⟩))
              obtain ⟨y13, hy13⟩ : ∃ y, w6.heap.size = y := ⟨_, rfl⟩
              rw [hy13] at h13 T7
              have hx7 := hx6.below hb67 hx6.lt
              have hp7 := hp6.next (P' := fun y => w.heap.size ≤ y ∧ ¬ F y) (T := fun _ => False) (Upd.of_below_size hb67) (fun _ _ h => h.elim) (fun _ _ e => e)
              have hc2 := nd_take T7.Y kk
              rw [htk.out, hdl.out] at hc2
              dsimp only at hc2
              replace hc2 := Lib.hid hc2
              replace T7 := Lib.hid T7
              replace hp7 := Lib.hid hp7
              replace hLT := Lib.hid hLT
              clear hp6 hC6 T6 hu6 hx6
              go_upto_region 28 with (fail)
              rw [← hw7]
              try rw [hy13]
              clear hw7
              go_wp2_with fail
              refine hc2.out.mono ?_
              clear hc2
              rintro e w8 ⟨cs8, rfl, hp8, hC8⟩
              obtain ⟨B8, c8, rfl, hr8⟩ := hp8.reads
              try dsimp only
              rw [hLT.out]
              obtain ⟨F8, T8, hu8⟩ := T7.out.doc hC8
              have hx8 := hx7.upd hu8 (fun h => h (.inl rfl))
              have h138 := h13.upd hu8 (fun h => h (.inr rfl))
              obtain ⟨B6', c6', hcs6, hr6⟩ := hp7.out _ w8 hC8.1 (fun y hy => ⟨(hftY.out y hy).2, fun hf => hFF.out y hf hy⟩)
              simp only [hLT.out, Array.mk.injEq, List.cons.injEq, Value.slice.injEq, and_true, true_and] at hcs6
              obtain ⟨rfl, rfl⟩ := hcs6
              obtain ⟨w9, hw9⟩ : ∃ q, q = w8.alloc (.cells #[.int .i64 tf, .int .i64 tt, .slice B8 LT c8] 33) := ⟨_, rfl⟩
              have hb89 : Below w8.heap.size w8 w9 := by rw [hw9]; exact (Below.refl _ _).alloc (Nat.le_refl _) _
              have h15 : Blk w9 w8.heap.size 33 #[.int .i64 tf, .int .i64 tt, .slice B8 LT c8] := by rw [hw9]; exact Blk.new w8 _ _
              obtain ⟨y15, hy15⟩ : ∃ y, w8.heap.size = y := ⟨_, rfl⟩
              have hs89 := hb89.size
              have hpk := np_packet (pf := tf) (pt := tt) (c := c6) (c2 := c8) ((hr6.below hb89).more hs89) ((hr8.below hb89).more hs89) hLT.out
              have T9 := (T8.below hb89).keepK (wp := w9) (K' := fun y => y = y10) (Below.refl _ _) (fun y hy => .inl (.inl hy))
              have hx9 := hx8.below hb89 hx8.lt
              have h139 := h138.below hb89 h138.lt
              rw [hy15] at h15
              replace hpk := Lib.hid hpk
              replace T9 := Lib.hid T9
              clear hC8 T8 hu8 hx8 h138 hr6 hr8 hp8
              go_upto_region 29 with (fail)
              rw [← hw9]
              try rw [hy15]
              clear hw9
              have q0 := h139.cell 0
              have q1 := h139.cell 1
              have q2 := h139.cell 2
              have s0 := h15.cell 0
              have s1 := h15.cell 1
              have s2 := h15.cell 2
              have hqq : (tq != tq) = false := by cases tq <;> rfl
              go_wp2_with fail
              refine hpk.out.mono ?_
              clear hpk
              rintro e wa ⟨rfl, hba⟩
              try dsimp only
              go_wp2_with fail
              go_meet
              exact ⟨F6, F8, m, dl, T9.out.below hba, hx9.below hba hx9.lt, by omega⟩
          · as_aux_lemma =>
              have hc1 := np_drop T.S kk
              obtain ⟨dl, hdl⟩ : ∃ q, dropL ps kk = q := ⟨_, rfl⟩
              obtain ⟨qi, hqi⟩ : ∃ q, inB kk ps.length = q := ⟨_, rfl⟩
              have hdF : qi = false → dl = ps := fun e => by rw [← hdl]; unfold dropL; rw [hqi, e]; rfl
              have hdT : qi = true → dl = ps.eraseIdx kk.toNat := fun e => by rw [← hdl]; unfold dropL; rw [hqi, e]; rfl
              rw [hdl, hqi] at hc1
              replace hc1 := Lib.hid hc1
              replace hdF := Lib.hid hdF
              replace hdT := Lib.hid hdT
              replace T := Lib.hid T
              clear hdl
              try rw [hqi]
              have hqq : (qi != qi) = false := by cases qi <;> rfl
              replace hqi := Lib.hid hqi
              clear p0 p1 p2 p3 p4 p5
              go_wp2_with fail
              refine hc1.out.mono ?_
              clear hc1
              rintro e w6 ⟨rfl, hC6⟩
              try dsimp only
              obtain ⟨F6, T6, hu6⟩ := T.out.prog hC6
              have hx6 := hx.upd hu6 (fun h => h rfl)
              clear hC6 hu6
              cases qi
              · rw [hdF.out (by trivial)] at T6
                replace T6 := Lib.hid T6
                go_wp2_with fail
                go_meet
                exact ⟨F6, F2, m, ps, T6.out, hx6, by omega⟩
              · rw [hdT.out (by trivial)] at T6
                obtain ⟨q, hkq, hq2⟩ := in_nat hqi.out
                obtain ⟨A2, c2, xs2, css2, C2, X2⟩ := T6.Y
                obtain ⟨N2, hN2⟩ : ∃ q, ps.length = q := ⟨_, rfl⟩
                obtain ⟨n1, hn1⟩ : ∃ q, N2 - 1 = q := ⟨_, rfl⟩
                have hbg := X2.blk
                have hoA := X2.ho
                have hone := X2.one
                have hcap2 := X2.ho.le_cap
                have hln2 := X2.hl
                rw [hN2] at hbg hoA hcap2 hln2
                have hq3 : q < N2 := by rw [← hN2]; exact hq2
                obtain ⟨gA, cur, rfl, -⟩ := hoA.open_s (by omega)
                have hgA := X2.neA gA rfl
                subst hkq
                replace T6 := Lib.hid T6
                replace X2 := Lib.hid X2
                replace hN2 := Lib.hid hN2
                go_upto_region 35 with (fail)
                have hj0 : (0 : Int) ≤ (q : Int) := by omega
                have hjj : (q : Int) ≤ (q : Int) := Int.le_refl _
                have b1 : (q : Int) + 1 ≤ (N2 : Int) := by omega
                have b6 : q + 1 ≤ N2 := by omega
                have b8 : (0 : Int) ≤ (q : Int) + 1 := by omega
                have b9 : ((q : Int) + 1).toNat = q + 1 := by omega
                have b10 : q ≤ N2 := by omega
                have b2z : (q : Int) ≤ (c2 : Int) := by omega
                have b3z : q ≤ c2 := by omega
                have b4z : (N2 : Int) ≤ (c2 : Int) := by omega
                have b5z : N2 ≤ c2 := by omega
                have wj : IntKind.i64.wrap ((q : Int) + 1) = (q : Int) + 1 := by rw [IntKind.wrap_i64]; omega
                have hS0 : Blk w6.drew G2 30 #[.slice (some ⟨gA, 0, none⟩) N2 c2, .int .u64 (m : Int)] := hbg.drewN 1
                refine wp_region_lex (fun W => Blk W G2 30 #[.slice (some ⟨gA, 0, none⟩) N2 c2, .int .u64 (m : Int)]) [4, 11] [15, 18] [0, 1, 2, 3, 4, 5, 6, 7, 8, 9, 10, 11, 12, 13, 14, 15, 16, 17, 18] (by kernel_rfl) rfl (by kernel_rfl) (by kernel_rfl) (fun _ _ d _ _ h => by cases d <;> exact h) ?_
                repeat (first | (refine lexG_take _ ?_ rfl rfl rfl rfl (fun _ => ?_) ?_; rotate_left; (focus (go_simp; with_reducible rfl)); try simp only [Act.put, List.setIfInBounds_toArray, List.set_cons_zero, List.set_cons_succ]) | (refine lexG_held _ ?_ rfl rfl rfl rfl (by assumption) (fun _ hSw => ?_) ?_; rotate_left; (focus (have h1 := hSw.cell 0; clear hSw; go_simp; with_reducible rfl)); try simp only [Act.put, List.setIfInBounds_toArray, List.set_cons_zero, List.set_cons_succ]) | (refine lexG_skip _ rfl rfl (by assumption) ?_; try simp only [Act.put, List.setIfInBounds_toArray, List.set_cons_zero, List.set_cons_succ]))
                have hsrc := (hoA.reads_.cut (k := q + 1) (cap := c2) (by omega) (by omega)).drew
                have eA : (if c2 = q + 1 then some (⟨gA, 0, none⟩ : Addr) else Option.map (fun x : Addr => x.add ((q + 1) * 3)) (some (⟨gA, 0, none⟩ : Addr))) = (if c2 = q + 1 then some (⟨gA, 0, none⟩ : Addr) else some (⟨gA, (q + 1) * 3, none⟩ : Addr)) := by
                  split
                  · rfl
                  · simp [Addr.add]
                rw [eA] at hsrc
                clear eA
                generalize (if c2 = q + 1 then some (⟨gA, 0, none⟩ : Addr) else some (⟨gA, (q + 1) * 3, none⟩ : Addr)) = AA at *
                have hown := ((hoA.first (k := q) (by omega)).clip (Nat.le_refl q) (by omega)).drew
                refine lexG_now _ rfl rfl rfl (fun K0 hK => ?_)
                refine wp_append_mine _ _ 27 27 rfl 33 iP0 _ 3 40 Try.underlying27 iP1 iP2 iP3 iP4 rfl rfl hown rfl (Src.ofReads Try.underlying27 _ hsrc (fun u hu => hone u (List.mem_of_mem_drop hu))) (by unfold maxLen; omega) (by omega) (fun A8 c8 w8 ho8 hg8 hat8 => ?_)
                have eN : q + (N2 - (q + 1)) = n1 := by omega
                rw [eN] at ho8 ⊢
                have hu8 : Upd (fun z => z = gA) w6 w8 := (Upd.of_below_size (Below.refl w6.heap.size w6).drew).grown hg8 (fun y e _ => (Option.some.inj e).symm)
                have hA8 : ∀ y, bOf A8 = some y → y = gA ∨ w6.heap.size ≤ y := fun y hy => by
                  rcases hat8 with e | e
                  · rw [e] at hy; exact .inl (Option.some.inj hy).symm
                  · have h1 : w6.drew.heap.size = y := by rw [e] at hy; injection hy
                    have h2 : w6.drew.heap.size = w6.heap.size := rfl
                    exact .inr (by omega)
                have hbg8 := hbg.upd hu8 (fun e => hgA e.symm)
                refine hK _ _ _ (fun _ h => h) hbg8 ?_
                clear hK K0
                try simp only [Act.put, List.setIfInBounds_toArray, List.set_cons_zero, List.set_cons_succ]
                repeat (first | (refine lexG_take _ ?_ rfl rfl rfl rfl (fun _ => ?_) ?_; rotate_left; (focus (go_simp; with_reducible rfl)); try simp only [Act.put, List.setIfInBounds_toArray, List.set_cons_zero, List.set_cons_succ]) | (refine lexG_held _ ?_ rfl rfl rfl rfl (by assumption) (fun _ hSw => ?_) ?_; rotate_left; (focus (have h1 := hSw.cell 0; clear hSw; go_simp; with_reducible rfl)); try simp only [Act.put, List.setIfInBounds_toArray, List.set_cons_zero, List.set_cons_succ]) | (refine lexG_skip _ rfl rfl (by assumption) ?_; try simp only [Act.put, List.setIfInBounds_toArray, List.set_cons_zero, List.set_cons_succ]))
                have k0 := hbg8.cell 0
                have f0 := hbg8.frozen 0
                refine lexG_nowF _ rfl rfl rfl (by kernel_rfl) (fun K0 hK => ?_)
                go_wp2_with fail
                try simp only [Act.put, List.setIfInBounds_toArray, List.set_cons_zero, List.set_cons_succ]
                refine lexG_nil ?_
                have hbgE : Blk (w8.setCell ⟨G2, 0, none⟩ (.slice A8 n1 c8)) G2 30 #[.slice A8 n1 c8, .int .u64 (m : Int)] := hbg8.set_ 0 _
                have hu9 : Upd (fun z => z = G2) w8 (w8.setCell ⟨G2, 0, none⟩ (.slice A8 n1 c8)) := (Upd.refl (fun z => z = G2) w8).setCell (p := ⟨G2, 0, none⟩) (fun _ => rfl) _
                have hoE := ho8.upd hu9 (fun y hy e => ho8.ne_b2 hbg8 (by decide) y hy e)
                have hu29 : Upd (fun z => z = G2 ∨ z = gA) w6 (w8.setCell ⟨G2, 0, none⟩ (.slice A8 n1 c8)) := (hu8.mono (fun _ _ e => .inr e)).trans hu9 (fun _ _ e => .inl e)
                have hcut := X2.out.cutd (j := q) (by rw [hN2.out]; exact hq3) (hu29.mono (fun y _ e => e.imp id (fun e => by rw [e]; rfl))) (by rw [hN2.out, hn1]; exact hoE) (by rw [hN2.out, hn1]; exact hbgE) (fun y hy => (hA8 y hy).imp (fun e => by rw [e]; rfl) id)
                generalize w8.setCell ⟨G2, 0, none⟩ (.slice A8 n1 c8) = w9 at *
                clear hsrc hown ho8 hg8 hat8 hu8 hbg8 k0 f0 hbgE hu9 hoE hS0 hu29
                obtain ⟨F9, T9, hu9⟩ := T6.out.doc hcut
                rw [Int.toNat_natCast] at T9
                have hx9 := hx6.upd hu9 (fun h => h rfl)
                have hle : (ps.eraseIdx q).length ≤ ps.length := List.length_eraseIdx_le ..
                replace T9 := Lib.hid T9
                clear hcut hu9
                go_wp2_with fail
                go_meet
                exact ⟨F6, F9, m, _, T9.out, hx9, by have := hN2.out; omega⟩
          · as_aux_lemma =>
              have hc1 := np_double T.S kk (by omega)
              obtain ⟨dl, hdl⟩ : ∃ q, doubL ps kk = q := ⟨_, rfl⟩
              obtain ⟨qi, hqi⟩ : ∃ q, inB kk ps.length = q := ⟨_, rfl⟩
              have hdF : qi = false → dl = ps := fun e => by rw [← hdl]; unfold doubL; rw [hqi, e]; rfl
              have hdT : qi = true → dl = ps ++ (ps[kk.toNat]?).toList := fun e => by rw [← hdl]; unfold doubL; rw [hqi, e]; rfl
              rw [hdl, hqi] at hc1
              replace hc1 := Lib.hid hc1
              replace hdF := Lib.hid hdF
              replace hdT := Lib.hid hdT
              replace T := Lib.hid T
              clear hdl
              try rw [hqi]
              have hqq : (qi != qi) = false := by cases qi <;> rfl
              replace hqi := Lib.hid hqi
              clear p0 p1 p2 p3 p4 p5
              go_wp2_with fail
              refine hc1.out.mono ?_
              clear hc1
              rintro e w6 ⟨rfl, hC6⟩
              try dsimp only
              obtain ⟨F6, T6, hu6⟩ := T.out.prog hC6
              have hx6 := hx.upd hu6 (fun h => h rfl)
              clear hC6 hu6
              cases qi
              · rw [hdF.out (by trivial)] at T6
                replace T6 := Lib.hid T6
                go_wp2_with fail
                go_meet
                exact ⟨F6, F2, m, ps, T6.out, hx6, by omega⟩
              · rw [hdT.out (by trivial)] at T6
                obtain ⟨q, hkq, hq2⟩ := in_nat hqi.out
                subst hkq
                rw [Int.toNat_natCast] at T6
                have hgk : ps[q]? = some ps[q] := List.getElem?_eq_getElem hq2
                generalize ps[q] = pk at hgk
                rw [hgk] at T6
                obtain ⟨A2, c2, xs2, css2, C2, X2⟩ := T6.Y
                obtain ⟨gA, Bk, cBk, rfl, hcsk, -⟩ := X2.cells hgk
                have hldk := X2.hx q pk hgk
                have hbpk := X2.hp _ (List.mem_of_getElem? hgk)
                rw [hcsk] at hldk
                obtain ⟨kf, kt, kb⟩ := pk
                dsimp only at hldk hbpk
                obtain ⟨LK, hLK⟩ : ∃ q, kb.length = q := ⟨_, rfl⟩
                rw [hLK] at hldk
                obtain ⟨N2, hN2⟩ : ∃ q, ps.length = q := ⟨_, rfl⟩
                have hbg := X2.blk
                have hoA := X2.ho
                have hcap2 := X2.ho.le_cap
                rw [hN2] at hbg hoA hcap2
                have hq3 : q < N2 := by rw [← hN2]; exact hq2
                have hgA := X2.neA gA rfl
                have hgAl := (X2.ft gA (X2.fo gA (.inr rfl)).1).1
                obtain ⟨gA', Bk', cBk', e1, e2, g0, g1, g2, -⟩ := X2.cells hgk
                cases e1
                rw [hcsk] at e2
                simp at e2
                obtain ⟨rfl, rfl⟩ := e2
                dsimp only at g0 g1 g2
                rw [hLK] at g2
                have hN59 : N2 ≤ 100 := by omega
                have hNN : (N2 : Int) ≤ (c2 : Int) := by omega
                have hNr : (N2 : Int) ≤ (N2 : Int) := Int.le_refl _
                have hS0 : Blk w6.drew G2 30 #[.slice (some ⟨gA, 0, none⟩) N2 c2, .int .u64 (m : Int)] := hbg.drewN 1
                have d0 : w6.drew.cell? ⟨gA, q * 3, none⟩ = some (.int .i64 kf) := g0
                have d1 : w6.drew.cell? ⟨gA, q * 3 + 1, none⟩ = some (.int .i64 kt) := g1
                have d2 : w6.drew.cell? ⟨gA, q * 3 + 2, none⟩ = some (.slice Bk LK cBk) := g2
                replace T6 := Lib.hid T6
                replace X2 := Lib.hid X2
                replace hldk := Lib.hid hldk
                replace hN2 := Lib.hid hN2
                replace hLK := Lib.hid hLK
                clear hgk hcsk g0 g1 g2
                go_upto_region 40 with (fail)
                refine wp_region_lex (fun W => Blk W G2 30 #[.slice (some ⟨gA, 0, none⟩) N2 c2, .int .u64 (m : Int)]) [4, 8, 13, 19] [22, 23, 24, 27] [0, 1, 2, 3, 4, 5, 6, 7, 8, 9, 10, 11, 12, 13, 14, 15, 16, 17, 18, 19, 20, 21, 22, 23, 24, 25, 26, 27] (by kernel_rfl) rfl (by kernel_rfl) (by kernel_rfl) (fun _ _ d _ _ h => by cases d <;> exact h) ?_
                repeat (first | (refine lexG_take _ ?_ rfl rfl rfl rfl (fun _ => ?_) ?_; rotate_left; (focus (go_simp; with_reducible rfl)); try simp only [Act.put, List.setIfInBounds_toArray, List.set_cons_zero, List.set_cons_succ]) | (refine lexG_held _ ?_ rfl rfl rfl rfl (by assumption) (fun _ hSw => ?_) ?_; rotate_left; (focus (have h1 := hSw.cell 0; clear hSw; go_simp; with_reducible rfl)); try simp only [Act.put, List.setIfInBounds_toArray, List.set_cons_zero, List.set_cons_succ]) | (refine lexG_skip _ rfl rfl (by assumption) ?_; try simp only [Act.put, List.setIfInBounds_toArray, List.set_cons_zero, List.set_cons_succ]))
                refine lexG_now _ rfl rfl rfl (fun K0 hK => ?_)
                go_wp2_with fail
                refine hK _ _ _ (fun _ h => h) hS0 ?_
                clear hK K0 d0 d1 d2
                try simp only [Act.put, List.setIfInBounds_toArray, List.set_cons_zero, List.set_cons_succ]
                repeat (first | (refine lexG_take _ ?_ rfl rfl rfl rfl (fun _ => ?_) ?_; rotate_left; (focus (go_simp; with_reducible rfl)); try simp only [Act.put, List.setIfInBounds_toArray, List.set_cons_zero, List.set_cons_succ]) | (refine lexG_held _ ?_ rfl rfl rfl rfl (by assumption) (fun _ hSw => ?_) ?_; rotate_left; (focus (have h1 := hSw.cell 0; clear hSw; go_simp; with_reducible rfl)); try simp only [Act.put, List.setIfInBounds_toArray, List.set_cons_zero, List.set_cons_succ]) | (refine lexG_skip _ rfl rfl (by assumption) ?_; try simp only [Act.put, List.setIfInBounds_toArray, List.set_cons_zero, List.set_cons_succ]))
                have hsrc := (Reads.lit (size := 3) w6 #[.int .i64 kf, .int .i64 kt, .slice Bk LK cBk] 33 (0, 0) 1 [.int .i64 kf, .int .i64 kt, .slice Bk LK cBk] rfl rfl).drew
                have hb67 := ((Below.refl w6.heap.size w6).alloc (Nat.le_refl _) (.cells #[.int .i64 kf, .int .i64 kt, .slice Bk LK cBk] 33)).drew
                refine lexG_now _ rfl rfl rfl (fun K0 hK => ?_)
                go_wp2_with fail
                generalize (w6.alloc (.cells #[.int .i64 kf, .int .i64 kt, .slice Bk LK cBk] 33)).drew = w7 at *
                have hbg7 := hbg.below hb67 hbg.lt
                refine hK _ _ _ (fun _ h => h) hbg7 ?_
                clear hK K0
                try simp only [Act.put, List.setIfInBounds_toArray, List.set_cons_zero, List.set_cons_succ]
                repeat (first | (refine lexG_take _ ?_ rfl rfl rfl rfl (fun _ => ?_) ?_; rotate_left; (focus (go_simp; with_reducible rfl)); try simp only [Act.put, List.setIfInBounds_toArray, List.set_cons_zero, List.set_cons_succ]) | (refine lexG_held _ ?_ rfl rfl rfl rfl (by assumption) (fun _ hSw => ?_) ?_; rotate_left; (focus (have h1 := hSw.cell 0; clear hSw; go_simp; with_reducible rfl)); try simp only [Act.put, List.setIfInBounds_toArray, List.set_cons_zero, List.set_cons_succ]) | (refine lexG_skip _ rfl rfl (by assumption) ?_; try simp only [Act.put, List.setIfInBounds_toArray, List.set_cons_zero, List.set_cons_succ]))
                have hown := (hoA.clip (Nat.le_refl N2) hcap2).below hb67 (Nat.le_refl _)
                refine lexG_now _ rfl rfl rfl (fun K0 hK => ?_)
                refine wp_append_mine _ _ 27 27 rfl 33 iP0 _ 3 40 Try.underlying27 iP1 iP2 iP3 iP4 rfl rfl hown rfl (Src.ofReads Try.underlying27 _ hsrc (by intro u hu; simp only [List.mem_cons, List.not_mem_nil, or_false] at hu; rcases hu with rfl | rfl | rfl <;> rfl)) (by unfold maxLen; omega) (by omega) (fun A8 c8 w8 ho8 hg8 hat8 => ?_)
                have hu8 : Upd (fun z => z = gA) w7 w8 := (Upd.refl (fun z => z = gA) _).grown hg8 (fun y e _ => (Option.some.inj e).symm)
                have hbg8 := hbg7.upd hu8 (fun e => hgA e.symm)
                refine hK _ _ _ (fun _ h => h) hbg8 ?_
                clear hK K0
                try simp only [Act.put, List.setIfInBounds_toArray, List.set_cons_zero, List.set_cons_succ]
                repeat (first | (refine lexG_take _ ?_ rfl rfl rfl rfl (fun _ => ?_) ?_; rotate_left; (focus (go_simp; with_reducible rfl)); try simp only [Act.put, List.setIfInBounds_toArray, List.set_cons_zero, List.set_cons_succ]) | (refine lexG_held _ ?_ rfl rfl rfl rfl (by assumption) (fun _ hSw => ?_) ?_; rotate_left; (focus (have h1 := hSw.cell 0; clear hSw; go_simp; with_reducible rfl)); try simp only [Act.put, List.setIfInBounds_toArray, List.set_cons_zero, List.set_cons_succ]) | (refine lexG_skip _ rfl rfl (by assumption) ?_; try simp only [Act.put, List.setIfInBounds_toArray, List.set_cons_zero, List.set_cons_succ]))
                have k0 := hbg8.cell 0
                have f0 := hbg8.frozen 0
                refine lexG_nowF _ rfl rfl rfl (by kernel_rfl) (fun K0 hK => ?_)
                go_wp2_with fail
                try simp only [Act.put, List.setIfInBounds_toArray, List.set_cons_zero, List.set_cons_succ]
                refine lexG_nil ?_
                have hbgE : Blk (w8.setCell ⟨G2, 0, none⟩ (.slice A8 (N2 + 1) c8)) G2 30 #[.slice A8 (N2 + 1) c8, .int .u64 (m : Int)] := hbg8.set_ 0 _
                have hu9 : Upd (fun z => z = G2) w8 (w8.setCell ⟨G2, 0, none⟩ (.slice A8 (N2 + 1) c8)) := (Upd.refl (fun z => z = G2) w8).setCell (p := ⟨G2, 0, none⟩) (fun _ => rfl) _
                have hlkC : PkHeld w7 (fun y => ¬ C2 y) ⟨kf, kt, kb⟩ #[.int .i64 kf, .int .i64 kt, .slice Bk LK cBk] := hldk.out.next (T := fun _ => False) (Upd.of_below_size hb67) (fun _ _ hf => hf.elim) (fun _ _ e => e)
                have hpush := X2.out.pushX (D := C2) (p := ⟨kf, kt, kb⟩) (cs := #[.int .i64 kf, .int .i64 kt, .slice Bk LK cBk]) hb67 (by rw [hN2.out]; exact ho8) hg8 hat8 hu9 (by rw [hN2.out]; exact hbgE) hlkC (fun y hy => .inr (.inr hy)) (by rw [hN2.out]; omega) hbpk
                have hC9 : Chg w.heap.size w6 (w8.setCell ⟨G2, 0, none⟩ (.slice A8 (N2 + 1) c8)) F2 30 G2 m (ps ++ [⟨kf, kt, kb⟩]) := ⟨hpush.1.mono (fun y _ e => (X2.out.fo y e).1), _, ⟨_, _, _, _, _, hpush.2⟩, fun y hy => hy.elim .inl (fun e => .inr e.1)⟩
                generalize w8.setCell ⟨G2, 0, none⟩ (.slice A8 (N2 + 1) c8) = w9 at *
                clear hsrc hown ho8 hg8 hat8 hu8 hbg8 k0 f0 hbgE hu9 hpush hlkC hb67 hbg7
                obtain ⟨F9, T9, hu9⟩ := T6.out.doc hC9
                have hx9 := hx6.upd hu9 (fun h => h rfl)
                replace T9 := Lib.hid T9
                clear hC9 hu9
                go_wp2_with fail
                go_meet
                exact ⟨F6, F9, m, ps ++ [⟨kf, kt, kb⟩], T9.out, hx9, by rw [List.length_append]; simp; omega⟩
          · as_aux_lemma =>
              have hc1 := np_part (mask' := xm) T.S hxm.out
              replace hc1 := Lib.hid hc1
              replace T := Lib.hid T
              go_wp2_with fail
              refine hc1.out.mono ?_
              clear hc1
              rintro e w6 ⟨rfl, hC6⟩
              try dsimp only
              obtain ⟨F6, T6, hu6⟩ := T.out.prog hC6
              have hx6 := hx.upd hu6 (fun h => h rfl)
              obtain ⟨A2, c2, xs2, css2, C2, X2⟩ := T6.Y
              have hpt := X2.part hxm.out
              have k1 := X2.blk.cell 1
              have f1 := X2.blk.frozen 1
              clear p0 p1 p2 p3 p4 p5
              have p2 := hx6.cell 2
              obtain ⟨F7, T7, hu7⟩ := T6.doc hpt
              have hx7 := hx6.upd hu7 (fun h => h rfl)
              replace T7 := Lib.hid T7
              replace hx7 := Lib.hid hx7
              clear X2 hpt hC6 hu6 hu7 T6
              go_wp2_with fail
              go_meet
              exact ⟨F6, F7, xm, ps, T7.out, hx7.out, by omega⟩
        case rest =>
          as_aux_lemma =>
            obtain ⟨F, F2, m, ps, T, hx, hpl'⟩ := hcut
            generalize wc = v0 at *
            clear T3 hx3
            have hc1 := np_all T.S
            obtain ⟨N2, hN2⟩ : ∃ q, ps.length = q := ⟨_, rfl⟩
            rw [hN2] at hc1 hpl'
            replace hc1 := Lib.hid hc1
            replace T := Lib.hid T
            replace hN2 := Lib.hid hN2
            go_wp2_with fail
            refine hc1.out.mono ?_
            clear hc1
            rintro e v1 ⟨AO, cO, xO, csO, rfl, hO, hb1⟩
            try dsimp only
            have T1 := T.out.below hb1
            have hx1 := hx.below hb1 hx.lt
            obtain ⟨A2, c2, xs2, css2, C2, X2⟩ := T1.Y
            have hbg := X2.blk
            rw [hN2.out] at hbg
            have hle := np_len (T1.S.below (Below.refl v1.heap.size v1).drew)
            rw [hN2.out] at hle
            have hS0 : Blk v1.drew G2 30 #[.slice A2 N2 c2, .int .u64 (m : Int)] := hbg.drewN 1
            have hNN : ((N2 : Int) != (N2 : Int)) = false := by simp
            replace hle := Lib.hid hle
            replace T1 := Lib.hid T1
            replace X2 := Lib.hid X2
            replace hO := Lib.hid hO
            go_upto_region 45 with (fail)
            refine wp_region_lex (fun W => Blk W G2 30 #[.slice A2 N2 c2, .int .u64 (m : Int)]) [5, 14] [1] [0, 2, 3, 4, 5, 6, 1, 7, 8, 9, 10, 11, 12, 13, 14, 15, 16, 17] (by kernel_rfl) rfl (by kernel_rfl) (by kernel_rfl) (fun _ _ d _ _ h => by cases d <;> exact h) ?_
            repeat (first | (refine lexG_take _ ?_ rfl rfl rfl rfl (fun _ => ?_) ?_; rotate_left; (focus (go_simp; with_reducible rfl)); try simp only [Act.put, List.setIfInBounds_toArray, List.set_cons_zero, List.set_cons_succ]) | (refine lexG_held _ ?_ rfl rfl rfl rfl (by assumption) (fun _ hSw => ?_) ?_; rotate_left; (focus (have h1 := hSw.cell 0; clear hSw; go_simp; with_reducible rfl)); try simp only [Act.put, List.setIfInBounds_toArray, List.set_cons_zero, List.set_cons_succ]) | (refine lexG_skip _ rfl rfl (by assumption) ?_; try simp only [Act.put, List.setIfInBounds_toArray, List.set_cons_zero, List.set_cons_succ]))
            refine lexG_now _ rfl rfl rfl (fun K0 hK => ?_)
            go_wp2_with fail
            refine hle.out.mono ?_
            clear hle
            rintro e v2 ⟨rfl, hb2⟩
            try dsimp only
            have hb12 := below_then hb2 (Below.refl v1.heap.size v1).drew
            have hbg2 := hbg.below hb12 hbg.lt
            refine hK _ _ _ (fun _ h => h) hbg2 ?_
            clear hK K0
            try simp only [Act.put, List.setIfInBounds_toArray, List.set_cons_zero, List.set_cons_succ]
            repeat (first | (refine lexG_take _ ?_ rfl rfl rfl rfl (fun _ => ?_) ?_; rotate_left; (focus (go_simp; with_reducible rfl)); try simp only [Act.put, List.setIfInBounds_toArray, List.set_cons_zero, List.set_cons_succ]) | (refine lexG_held _ ?_ rfl rfl rfl rfl (by assumption) (fun _ hSw => ?_) ?_; rotate_left; (focus (have h1 := hSw.cell 0; clear hSw; go_simp; with_reducible rfl)); try simp only [Act.put, List.setIfInBounds_toArray, List.set_cons_zero, List.set_cons_succ]) | (refine lexG_skip _ rfl rfl (by assumption) ?_; try simp only [Act.put, List.setIfInBounds_toArray, List.set_cons_zero, List.set_cons_succ]))
            refine lexG_nil ?_
            have T2 := T1.out.below hb12
            have hx2 := hx1.below hb12 hx1.lt
            have X22 := X2.out.below hb12
            have hO2 := hO.out.below hb12
            clear hS0 hbg hb2 hb12 X2 hO hx1 hx
            replace T2 := Lib.hid T2
            replace X22 := Lib.hid X22
            replace hO2 := Lib.hid hO2
            go_upto_region 47 with (fail)
            go_wp2_with fail
            go_loopw [21] (fun z wr => ∃ q : Nat, q ≤ N2 ∧ z = .int .i64 (q : Int) ∧ Below v2.heap.size v2 wr) (fun z _ => N2 - (intOf z).toNat)
            case atStart => exact ⟨0, Nat.zero_le _, rfl, Below.refl _ _⟩
            case round =>
              rename_i hrel
              obtain ⟨q, hq, rfl, hbr⟩ := hrel
              by_cases hlt : q < N2
              · have hgk : ps[q]? = some (ps[q]'(by rw [hN2.out]; exact hlt)) := List.getElem?_eq_getElem _
                generalize ps[q]'(by rw [hN2.out]; exact hlt) = pk at hgk
                have hd : decide ((q : Int) < (N2 : Int)) = true := decide_eq_true (by omega)
                have hqw : IntKind.i64.wrap ((q : Int) + 1) = (q : Int) + 1 := by rw [IntKind.wrap_i64]; omega
                have Xr := X22.out.below hbr
                have Or := hO2.out.below hbr
                have hcapO : N2 ≤ cO := by have := Or.ho.le_cap; rw [hN2.out] at this; exact this
                have hcapY : N2 ≤ c2 := by have := Xr.ho.le_cap; rw [hN2.out] at this; exact this
                have z0 : wr.cell? ⟨G2, 0, none⟩ = some (.slice A2 N2 c2) := by rw [← hN2.out]; exact Xr.blk.cell 0
                obtain ⟨gA, Bk, cBk, rfl, -, g0, g1, g2, hrk⟩ := Xr.cells hgk
                obtain ⟨gO, BO, cBO, rfl, -, e0, e1, e2, hrO⟩ := row_cells Or.ho rfl (fun k p hk => (Or.hx k p hk).reads) Or.hxs hgk
                obtain ⟨kf, kt, kb⟩ := pk
                dsimp only at g0 g1 g2 e0 e1 e2 hrk hrO
                obtain ⟨LK, hLK⟩ : ∃ q, kb.length = q := ⟨_, rfl⟩
                rw [hLK] at g2 e2
                have hpk := np_packet (pf := kf) (pt := kt) (c := cBO) (c2 := cBk) (hrO.drew.more (Nat.le_refl _)) (hrk.drew.more (Nat.le_refl _)) hLK
                have hSP : (wr.drew.cell? ⟨G2, 0, none⟩ = some (.slice (some ⟨gA, 0, none⟩) N2 c2) ∧ wr.drew.cell? ⟨gA, q * 3, none⟩ = some (.int .i64 kf) ∧ wr.drew.cell? ⟨gA, q * 3 + 1, none⟩ = some (.int .i64 kt) ∧ wr.drew.cell? ⟨gA, q * 3 + 2, none⟩ = some (.slice Bk LK cBk) ∧ wr.drew.cell? ⟨gO, q * 3, none⟩ = some (.int .i64 kf) ∧ wr.drew.cell? ⟨gO, q * 3 + 1, none⟩ = some (.int .i64 kt) ∧ wr.drew.cell? ⟨gO, q * 3 + 2, none⟩ = some (.slice BO LK cBO)) := ⟨z0, g0, g1, g2, e0, e1, e2⟩
                have hglt : ∀ (y o : Nat) (v : Value), wr.cell? ⟨y, o, none⟩ = some v → y < wr.heap.size := fun y o v h => World.block_lt_of_cell? wr _ h
                have l1 := hglt _ _ _ z0
                have l2 := hglt _ _ _ g0
                have l3 := hglt _ _ _ e0
                replace hpk := Lib.hid hpk
                clear Xr Or g0 g1 g2 e0 e1 e2 z0 hrk hrO hgk hglt
                go_upto_region 50 with (fail)
                refine wp_region_lex (fun W => (W.cell? ⟨G2, 0, none⟩ = some (.slice (some ⟨gA, 0, none⟩) N2 c2) ∧ W.cell? ⟨gA, q * 3, none⟩ = some (.int .i64 kf) ∧ W.cell? ⟨gA, q * 3 + 1, none⟩ = some (.int .i64 kt) ∧ W.cell? ⟨gA, q * 3 + 2, none⟩ = some (.slice Bk LK cBk) ∧ W.cell? ⟨gO, q * 3, none⟩ = some (.int .i64 kf) ∧ W.cell? ⟨gO, q * 3 + 1, none⟩ = some (.int .i64 kt) ∧ W.cell? ⟨gO, q * 3 + 2, none⟩ = some (.slice BO LK cBO))) [3, 7, 10] [11] [0, 1, 2, 3, 4, 5, 6, 7, 8, 9, 10, 11, 12] (by kernel_rfl) rfl (by kernel_rfl) (by kernel_rfl) (fun _ _ d _ _ h => by cases d <;> exact h) ?_
                repeat (first | (refine lexG_take _ ?_ rfl rfl rfl rfl (fun _ => ?_) ?_; rotate_left; (focus (go_simp; with_reducible rfl)); try simp only [Act.put, List.setIfInBounds_toArray, List.set_cons_zero, List.set_cons_succ]) | (refine lexG_held _ ?_ rfl rfl rfl rfl (by assumption) (fun _ hSw => ?_) ?_; rotate_left; (focus (have h1 := hSw.1; have h2 := hSw.2.1; have h3 := hSw.2.2.1; have h4 := hSw.2.2.2.1; have h5 := hSw.2.2.2.2.1; have h6 := hSw.2.2.2.2.2.1; have h7 := hSw.2.2.2.2.2.2; clear hSw; go_simp; with_reducible rfl)); try simp only [Act.put, List.setIfInBounds_toArray, List.set_cons_zero, List.set_cons_succ]) | (refine lexG_skip _ rfl rfl (by assumption) ?_; try simp only [Act.put, List.setIfInBounds_toArray, List.set_cons_zero, List.set_cons_succ]))
                refine lexG_now _ rfl rfl rfl (fun K0 hK => ?_)
                go_wp2_with fail
                refine hpk.out.mono ?_
                clear hpk
                rintro e w5 ⟨rfl, hb5⟩
                try dsimp only
                have hbr5 := below_then hb5 (below_then (Below.refl wr.heap.size wr).drew hbr)
                have hb55 := below_then hb5 (Below.refl wr.heap.size wr).drew
                have hSP5 : (w5.cell? ⟨G2, 0, none⟩ = some (.slice (some ⟨gA, 0, none⟩) N2 c2) ∧ w5.cell? ⟨gA, q * 3, none⟩ = some (.int .i64 kf) ∧ w5.cell? ⟨gA, q * 3 + 1, none⟩ = some (.int .i64 kt) ∧ w5.cell? ⟨gA, q * 3 + 2, none⟩ = some (.slice Bk LK cBk) ∧ w5.cell? ⟨gO, q * 3, none⟩ = some (.int .i64 kf) ∧ w5.cell? ⟨gO, q * 3 + 1, none⟩ = some (.int .i64 kt) ∧ w5.cell? ⟨gO, q * 3 + 2, none⟩ = some (.slice BO LK cBO)) := ⟨(hb55.cell (p := ⟨G2, _, none⟩) l1).trans hSP.1, (hb55.cell (p := ⟨gA, _, none⟩) l2).trans hSP.2.1, (hb55.cell (p := ⟨gA, _, none⟩) l2).trans hSP.2.2.1, (hb55.cell (p := ⟨gA, _, none⟩) l2).trans hSP.2.2.2.1, (hb55.cell (p := ⟨gO, _, none⟩) l3).trans hSP.2.2.2.2.1, (hb55.cell (p := ⟨gO, _, none⟩) l3).trans hSP.2.2.2.2.2.1, (hb55.cell (p := ⟨gO, _, none⟩) l3).trans hSP.2.2.2.2.2.2⟩
                refine hK _ _ _ (fun _ h => h) hSP5 ?_
                clear hK K0
                try simp only [Act.put, List.setIfInBounds_toArray, List.set_cons_zero, List.set_cons_succ]
                repeat (first | (refine lexG_take _ ?_ rfl rfl rfl rfl (fun _ => ?_) ?_; rotate_left; (focus (go_simp; with_reducible rfl)); try simp only [Act.put, List.setIfInBounds_toArray, List.set_cons_zero, List.set_cons_succ]) | (refine lexG_held _ ?_ rfl rfl rfl rfl (by assumption) (fun _ hSw => ?_) ?_; rotate_left; (focus (have h1 := hSw.1; have h2 := hSw.2.1; have h3 := hSw.2.2.1; have h4 := hSw.2.2.2.1; have h5 := hSw.2.2.2.2.1; have h6 := hSw.2.2.2.2.2.1; have h7 := hSw.2.2.2.2.2.2; clear hSw; go_simp; with_reducible rfl)); try simp only [Act.put, List.setIfInBounds_toArray, List.set_cons_zero, List.set_cons_succ]) | (refine lexG_skip _ rfl rfl (by assumption) ?_; try simp only [Act.put, List.setIfInBounds_toArray, List.set_cons_zero, List.set_cons_succ]))
                refine lexG_nil ?_
                clear hSP hSP5 hb5 hb55 l1 l2 l3
                go_wp2_with fail
                go_roundw
                case rel => exact ⟨q + 1, by omega, by simp, hbr5⟩
                case measure => simp [intOf]; omega
              · have hq' : q = N2 := by omega
                have hd : decide ((q : Int) < (N2 : Int)) = false := decide_eq_false (by omega)
                have Tjwr := (T2.out.below hbr)
                have hxwr := hx2.below hbr hx2.lt
                clear X22 hO2 T1 T
                go_upto_region 52 with (fail)
                have hS0 : Blk wr.drew y10 35 #[.int .u8 (xw : Int), .int .i64 xn, .int .u64 (xm : Int), .int .i64 xf, .int .i64 xt, .slice B LB cB] := hxwr.drewN 1
                refine wp_region_lex (fun W => Blk W y10 35 #[.int .u8 (xw : Int), .int .i64 xn, .int .u64 (xm : Int), .int .i64 xf, .int .i64 xt, .slice B LB cB]) [13, 16, 21, 24] [3, 7, 17, 25] [0, 1, 2, 4, 5, 6, 3, 7, 8, 9, 10, 11, 12, 13, 14, 15, 16, 18, 19, 20, 21, 22, 23, 24, 17, 25, 26, 27] (by kernel_rfl) rfl (by kernel_rfl) (by kernel_rfl) (fun _ _ d _ _ h => by cases d <;> exact h) ?_
                repeat (first | (refine lexG_take _ ?_ rfl rfl rfl rfl (fun _ => ?_) ?_; rotate_left; (focus (go_simp; with_reducible rfl)); try simp only [Act.put, List.setIfInBounds_toArray, List.set_cons_zero, List.set_cons_succ]) | (refine lexG_held _ ?_ rfl rfl rfl rfl (by assumption) (fun _ hSw => ?_) ?_; rotate_left; (focus (have h1 := hSw.cell 3; have h2 := hSw.cell 4; clear hSw; go_simp; with_reducible rfl)); try simp only [Act.put, List.setIfInBounds_toArray, List.set_cons_zero, List.set_cons_succ]) | (refine lexG_skip _ rfl rfl (by assumption) ?_; try simp only [Act.put, List.setIfInBounds_toArray, List.set_cons_zero, List.set_cons_succ]))
                have Tjwd := Tjwr.below (Below.refl wr.heap.size wr).drew
                have hxwd := hS0
                have hj1 : (sideB m ja == sideB m jb) = (sideB m ja == sideB m jb) := rfl
                obtain ⟨r1, hr1⟩ : ∃ q, (sideB m ja == sideB m jb) = q := ⟨_, rfl⟩
                obtain ⟨r2, hr2⟩ : ∃ q, (sideB m xf == sideB m xt) = q := ⟨_, rfl⟩
                have n1 : (r1 != r1) = false := by cases r1 <;> rfl
                have n2 : (r2 != r2) = false := by cases r2 <;> rfl
                refine lexG_now _ rfl rfl rfl (fun K0 hK => ?_)
                go_wp2_with fail
                refine (np_joined Tjwd.S ja jb).mono ?_
                rw [hr1]; rintro e u1 ⟨rfl, hbj⟩
                try dsimp only
                have Tju1 := Tjwd.below hbj
                have hxu1 := hxwd.below hbj hxwd.lt
                refine hK _ _ _ (fun _ h => h) hxu1 ?_
                clear hK K0 hbj
                try simp only [Act.put, List.setIfInBounds_toArray, List.set_cons_zero, List.set_cons_succ]
                repeat (first | (refine lexG_take _ ?_ rfl rfl rfl rfl (fun _ => ?_) ?_; rotate_left; (focus (go_simp; with_reducible rfl)); try simp only [Act.put, List.setIfInBounds_toArray, List.set_cons_zero, List.set_cons_succ]) | (refine lexG_held _ ?_ rfl rfl rfl rfl (by assumption) (fun _ hSw => ?_) ?_; rotate_left; (focus (have h1 := hSw.cell 3; have h2 := hSw.cell 4; clear hSw; go_simp; with_reducible rfl)); try simp only [Act.put, List.setIfInBounds_toArray, List.set_cons_zero, List.set_cons_succ]) | (refine lexG_skip _ rfl rfl (by assumption) ?_; try simp only [Act.put, List.setIfInBounds_toArray, List.set_cons_zero, List.set_cons_succ]))
                refine lexG_now _ rfl rfl rfl (fun K0 hK => ?_)
                go_wp2_with fail
                refine (nd_joined Tju1.Y ja jb).mono ?_
                rw [hr1]; rintro e u2 ⟨rfl, hbj⟩
                try dsimp only
                have Tju2 := Tju1.below hbj
                have hxu2 := hxu1.below hbj hxu1.lt
                refine hK _ _ _ (fun _ h => h) hxu2 ?_
                clear hK K0 hbj
                try simp only [Act.put, List.setIfInBounds_toArray, List.set_cons_zero, List.set_cons_succ]
                repeat (first | (refine lexG_take _ ?_ rfl rfl rfl rfl (fun _ => ?_) ?_; rotate_left; (focus (go_simp; with_reducible rfl)); try simp only [Act.put, List.setIfInBounds_toArray, List.set_cons_zero, List.set_cons_succ]) | (refine lexG_held _ ?_ rfl rfl rfl rfl (by assumption) (fun _ hSw => ?_) ?_; rotate_left; (focus (have h1 := hSw.cell 3; have h2 := hSw.cell 4; clear hSw; go_simp; with_reducible rfl)); try simp only [Act.put, List.setIfInBounds_toArray, List.set_cons_zero, List.set_cons_succ]) | (refine lexG_skip _ rfl rfl (by assumption) ?_; try simp only [Act.put, List.setIfInBounds_toArray, List.set_cons_zero, List.set_cons_succ]))
                refine lexG_now _ rfl rfl rfl (fun K0 hK => ?_)
                go_wp2_with fail
                refine (np_joined Tju2.S xf xt).mono ?_
                rw [hr2]; rintro e u3 ⟨rfl, hbj⟩
                try dsimp only
                have Tju3 := Tju2.below hbj
                have hxu3 := hxu2.below hbj hxu2.lt
                refine hK _ _ _ (fun _ h => h) hxu3 ?_
                clear hK K0 hbj
                try simp only [Act.put, List.setIfInBounds_toArray, List.set_cons_zero, List.set_cons_succ]
                repeat (first | (refine lexG_take _ ?_ rfl rfl rfl rfl (fun _ => ?_) ?_; rotate_left; (focus (go_simp; with_reducible rfl)); try simp only [Act.put, List.setIfInBounds_toArray, List.set_cons_zero, List.set_cons_succ]) | (refine lexG_held _ ?_ rfl rfl rfl rfl (by assumption) (fun _ hSw => ?_) ?_; rotate_left; (focus (have h1 := hSw.cell 3; have h2 := hSw.cell 4; clear hSw; go_simp; with_reducible rfl)); try simp only [Act.put, List.setIfInBounds_toArray, List.set_cons_zero, List.set_cons_succ]) | (refine lexG_skip _ rfl rfl (by assumption) ?_; try simp only [Act.put, List.setIfInBounds_toArray, List.set_cons_zero, List.set_cons_succ]))
                refine lexG_now _ rfl rfl rfl (fun K0 hK => ?_)
                go_wp2_with fail
                refine (nd_joined Tju3.Y xf xt).mono ?_
                rw [hr2]; rintro e u4 ⟨rfl, hbj⟩
                try dsimp only
                have Tju4 := Tju3.below hbj
                have hxu4 := hxu3.below hbj hxu3.lt
                refine hK _ _ _ (fun _ h => h) hxu4 ?_
                clear hK K0 hbj
                try simp only [Act.put, List.setIfInBounds_toArray, List.set_cons_zero, List.set_cons_succ]
                repeat (first | (refine lexG_take _ ?_ rfl rfl rfl rfl (fun _ => ?_) ?_; rotate_left; (focus (go_simp; with_reducible rfl)); try simp only [Act.put, List.setIfInBounds_toArray, List.set_cons_zero, List.set_cons_succ]) | (refine lexG_held _ ?_ rfl rfl rfl rfl (by assumption) (fun _ hSw => ?_) ?_; rotate_left; (focus (have h1 := hSw.cell 3; have h2 := hSw.cell 4; clear hSw; go_simp; with_reducible rfl)); try simp only [Act.put, List.setIfInBounds_toArray, List.set_cons_zero, List.set_cons_succ]) | (refine lexG_skip _ rfl rfl (by assumption) ?_; try simp only [Act.put, List.setIfInBounds_toArray, List.set_cons_zero, List.set_cons_succ]))
                refine lexG_nil ?_
                have Tend := Tju4.free
                replace Tend := Lib.hid Tend
                clear Tjwr Tjwd Tju1 Tju2 Tju3 Tju4 hxwr hxwd hxu1 hxu2 hxu3 hxu4 hS0 T2 hx2
                go_wp2_with fail
                go_roundw
                case rel => exact ⟨j + 1, F, F2, m, ps, by omega, by simp, Tend.out, by rw [hN2.out]; omega⟩
                case measure => simp [intOf]; omega
      · have hj' : j = n := by omega
        have hd : decide ((j : Int) < (n : Int)) = false := decide_eq_false (by omega)
        have hb := T.hb
        clear T
        go_wp2_with fail
        go_ret
        exact ⟨rfl, hb⟩
end Go.Proofs.Ytfhdnehheoligaa
