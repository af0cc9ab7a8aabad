/- Floats' digits: the form with an exponent. (Printed by gen_fg1.py.) -/
import Derived.Test.YtdbmffagibnibaaGreatDoorFf4
import Derived.Deep.CutRange
set_option linter.unusedSimpArgs false
set_option linter.unusedVariables false
namespace Go.Proofs.YtdbmffagibnibaaGreatDoor
open Go.RowKit Go.Sort Go.Lib
set_option maxRecDepth 100000

def signL (neg : Bool) : List UInt8 := if neg then [45] else []
def expL (X : Nat) : List UInt8 := if X < 10 then [48, UInt8.ofNat (48 + X)] else if X < 100 then [UInt8.ofNat (48 + X / 10), UInt8.ofNat (48 + X % 10)] else [UInt8.ofNat (48 + X / 100), UInt8.ofNat (48 + X / 10 % 10), UInt8.ofNat (48 + X % 10)]
def moreL (ds : List UInt8) : List UInt8 := if 1 < ds.length then 46 :: ds.tail else []
def fmtEL (neg : Bool) (ds : List UInt8) (E : Int) : List UInt8 := signL neg ++ [ds.getD 0 0] ++ moreL ds ++ [101] ++ [if E < 0 then 45 else 43] ++ expL E.natAbs
theorem dig_nat (n : Nat) (h : n < 10) : ((UInt8.ofNat (48 + n)).toNat : Int) = 48 + (n : Int) := by
  rw [UInt8.toNat_ofNat']
  omega

theorem FAt.app0 {w0 w w' : World} {D0 : Option Nat} {A A' : Option Addr} {n c c' : Nat} {S : List UInt8} {news : List UInt8} {m : Nat} (h : FAt w0 D0 w A n c S) (hm : news.length = m) (hown : Own w' 5 1 A' (n + m) c' (bys S ++ bys news)) (hgr : w.grownBy w' (bOf A)) (hat : bOf A' = bOf A ∨ bOf A' = some w.heap.size) : FAt w0 D0 w' A' (n + m) c' (S ++ news) := by
  have hs := h.grown.size
  refine ⟨by rw [bys_append]; exact hown, by rw [List.length_append, h.len, hm], h.grown.andThen hgr (fun j hj => ?_), fun q hq => ?_⟩
  · rcases h.mine j hj with e | e
    · exact .inr e
    · exact .inl e
  · rcases hat with e | e
    · exact h.mine q (e ▸ hq)
    · rw [e] at hq
      exact .inr (by have := Option.some.inj hq; omega)
theorem bys_ones (l : List UInt8) : ∀ u ∈ bys l, u.oneCell' = true := by
  intro u hu
  obtain ⟨b, -, rfl⟩ := List.mem_map.1 hu
  rfl
theorem reads_tail {W : World} {Y nd : Nat} {ds : List UInt8} (hdn : ds.length = nd) (h1 : 1 ≤ nd) (hds : ∀ j, j < nd → W.cell? ⟨Y, j, none⟩ = some (byv (ds.getD j 0))) (hY : Y < W.heap.size) : Reads W W.heap.size 1 (some ⟨Y, 1, none⟩) (nd - 1) (bys (ds.tail)) := by
  rw [← List.drop_one]
  refine ⟨by simp [bys, hdn], fun _ => ⟨_, rfl, hY, fun j u hu => ?_⟩⟩
  have hj := (List.getElem?_eq_some_iff.1 hu).1
  have hj2 : j < nd - 1 := by simpa [bys, hdn] using hj
  rw [show (⟨Y, 1, none⟩ : Addr).add j = ⟨Y, 1 + j, none⟩ from by unfold Addr.add; split <;> simp_all, hds (1 + j) (by omega), ← hu]
  simp only [bys, List.getElem?_map, List.getElem?_drop]
  rw [List.getElem?_eq_getElem (by omega), List.getD, List.getElem?_eq_getElem (by omega)]
  rfl
set_option maxHeartbeats 12800000 in
theorem fmtE_walk (neg : Bool) (A0 : Option Addr) (n0 c0 : Nat) (S0 : List UInt8) (Y : Nat) (ds : List UInt8) (nd : Nat) (w : World) (dp E : Int) (hE : dp - 1 = E) (hlo : E < -4 ∨ 6 ≤ E) (hE1 : -900 ≤ E) (hE2 : E ≤ 900)
    (hF0 : FAt w (bOf A0) w A0 n0 c0 S0) (hn0 : n0 ≤ 1000) (hY : Y < w.heap.size) (hYD : bOf A0 ≠ some Y) (hdn : ds.length = nd) (hnd1 : 1 ≤ nd) (hnd2 : nd ≤ 20) (hds : ∀ j, j < nd → w.cell? ⟨Y, j, none⟩ = some (byv (ds.getD j 0))) :
    Calls Tryz.prog 97 #[.slice A0 n0 c0, .bool neg, .slice (some ⟨Y, 0, none⟩) 32 32, .int .i64 dp, .int .i64 (nd : Int), .int .i64 (nd : Int), .int .u8 103, .bool true] w (fun e w' => ∃ A' n' c', e = .returned (.slice A' n' c') ∧ FAt w (bOf A0) w' A' n' c' (S0 ++ fmtEL neg ds E)) := by
  obtain ⟨i0, hi, hz0, hz1, hz2⟩ := info_parts info_u8
  replace hi := Lib.hid hi
  replace hz0 := Lib.hid hz0
  replace hz1 := Lib.hid hz1
  replace hz2 := Lib.hid hz2
  obtain ⟨D0, hD0⟩ : ∃ D, bOf A0 = D := ⟨_, rfl⟩
  rw [hD0] at hF0 hYD ⊢
  replace hD0 := Lib.hid hD0
  have hlen := hF0.len
  have we : IntKind.i64.wrap (dp - 1) = E := by rw [IntKind.wrap_i64]; omega
  have wn : IntKind.i64.wrap ((nd : Int) - 1) = (nd : Int) - 1 := by rw [IntKind.wrap_i64]; omega
  have wf : IntKind.u8.wrap (IntKind.u8.wrap (103 + 101) - 103) = 101 := by decide
  have wf2 : IntKind.u8.wrap (204 - 103) = 101 := by decide
  replace hE := Lib.hid hE
  replace hdn := Lib.hid hdn
  replace hlo := Lib.hid hlo
  obtain ⟨x0, hx0⟩ : ∃ x, ds.getD 0 0 = x := ⟨_, rfl⟩
  have hc0 := hds 0 (by omega)
  rw [hx0] at hc0
  simp only [byv] at hc0
  replace hx0 := Lib.hid hx0
  go_enter Tryz.func97, Tryz.ntmps97
  go_upto_if 36 with (fail)
  go_cut [5, 6, 17, 18] from 37 to 73 (fun x5 x6 x17 x18 wx => x5 = .int .i64 ((nd : Int) - 1) ∧ x6 = .int .u8 101 ∧ x17 = .int .i64 6 ∧ x18 = .int .i64 E ∧ w = wx)
  case first =>
    by_cases hs : E < -4
    · have e1 : decide (E < -4) = true := decide_eq_true hs
      go_wp2_with fail
      go_meet
      exact ⟨rfl, rfl, rfl, rfl, rfl⟩
    · have e1 : decide (E < -4) = false := decide_eq_false hs
      have e2 : decide (6 ≤ E) = true := decide_eq_true (by have := hlo.out; omega)
      go_wp2_with fail
      go_meet
      exact ⟨rfl, rfl, rfl, rfl, rfl⟩
  case rest =>
  obtain ⟨rfl, rfl, rfl, rfl, hwc⟩ := hcut
  generalize wc = w1 at *
  subst hwc
  go_upto_if 78 with (fail)
  obtain ⟨sl, hsl⟩ : ∃ k, (signL neg).length = k := ⟨_, rfl⟩
  have hsl1 : sl ≤ 1 := by rw [← hsl]; cases neg <;> decide
  go_cut [0] from 79 to 81 (fun x0' wx => ∃ A1 c1, x0' = .slice A1 (n0 + sl) c1 ∧ FAt w D0 wx A1 (n0 + sl) c1 (S0 ++ signL neg))
  case first =>
    cases neg
    · go_wp2_with fail
      go_meet
      obtain rfl : 0 = sl := hsl
      exact ⟨A0, c0, rfl, by simpa [signL] using hF0⟩
    · skip
      obtain rfl : 1 = sl := hsl
      have hbyte0 : Hid ((#[Value.int .u8 45] : Array Value).toList = bys [45]) := Lib.hid rfl
      go_wp2_with (at_builtin; go_must (refine wpList_append_mine rfl _ _ 36 36 rfl 5 i0 (.int .u8 0) 1 1 Tryz.underlying36 hi.out hz0.out hz1.out hz2.out rfl rfl (hF0.own.alloc _) rfl (Src.ofReads Tryz.underlying36 _ (Reads.lit _ _ _ _ 1 _ hbyte0.out rfl) (bys_one _)) ?b1 ?b2 ?grow))
      case b1 => unfold maxLen; omega
      case b2 => omega
      case grow =>
        intro A1 c1 w1 hown hgr hat
        have hF1 := hF0.app (news := [45]) (m := 1) rfl hown hgr hat
        clear hown hgr hat hbyte0 hF0
        obtain ⟨n1, hn1⟩ : ∃ n, n0 + 1 = n := ⟨_, rfl⟩
        rw [hn1] at hF1 ⊢
        obtain ⟨S1, hS1⟩ : ∃ S, S0 ++ [45] = S := ⟨_, rfl⟩
        rw [hS1] at hF1
        replace hS1 := Lib.hid hS1
        go_wp2_with fail
        go_meet
        have hS := hS1.out
        rw [← hn1, ← hS] at hF1
        exact ⟨A1, c1, by rw [hn1], hF1⟩
  case rest =>
  obtain ⟨A1, c1, rfl, hF1⟩ := hcut
  generalize wc = w2 at *
  obtain ⟨n1, hn1'⟩ : ∃ n, n0 + sl = n := ⟨_, rfl⟩
  rw [hn1'] at hF1 ⊢
  obtain ⟨S1, hS1⟩ : ∃ S, S0 ++ signL neg = S := ⟨_, rfl⟩
  rw [hS1] at hF1
  replace hS1 := Lib.hid hS1
  have hn1b : n1 ≤ 1001 := by omega
  clear hF0 hn1' hsl
  have hcd := hF1.cell hY hYD hc0
  have hnd0 : ((nd : Int) != 0) = true := by simp; omega
  have hnd0' : decide ((nd : Int) = 0) = false := decide_eq_false (by omega)
  have hbyte1 : Hid ((#[Value.int .u8 (x0.toNat : Int)] : Array Value).toList = bys [x0]) := Lib.hid rfl
  go_wp2_with (at_builtin; go_must (refine wpList_append_mine rfl _ _ 36 36 rfl 5 i0 (.int .u8 0) 1 1 Tryz.underlying36 hi.out hz0.out hz1.out hz2.out rfl rfl (hF1.own.alloc _) rfl (Src.ofReads Tryz.underlying36 _ (Reads.lit _ _ _ _ 1 _ hbyte1.out rfl) (bys_one _)) ?b1 ?b2 ?grow))
  case b1 => unfold maxLen; omega
  case b2 => omega
  case grow =>
    intro A2 c2 w2 hown hgr hat
    have hF2 := hF1.app (news := [x0]) (m := 1) rfl hown hgr hat
    clear hown hgr hat hbyte1 hF1
    obtain ⟨n2, hn2⟩ : ∃ n, n1 + 1 = n := ⟨_, rfl⟩
    rw [hn2] at hF2 ⊢
    obtain ⟨S2, hS2⟩ : ∃ S, S1 ++ [x0] = S := ⟨_, rfl⟩
    rw [hS2] at hF2
    replace hS2 := Lib.hid hS2
    clear hcd
    have hn2b : n2 ≤ 1002 := by omega
    obtain ⟨M, hM⟩ : ∃ M, moreL ds = M := ⟨_, rfl⟩
    obtain ⟨ml, hml⟩ : ∃ k, M.length = k := ⟨_, rfl⟩
    have hmlb : ml ≤ 20 := by
      have := hdn.out
      rw [← hml, ← hM]
      unfold moreL
      split
      · simp; omega
      · simp
    go_upto_if 92 with (fail)
    go_cut [0] from 91 to 119 (fun x0' wx => ∃ A1 c1, x0' = .slice A1 (n2 + ml) c1 ∧ FAt w D0 wx A1 (n2 + ml) c1 (S2 ++ M))
    case first =>
      by_cases hk1 : nd = 1
      · have hd1 : decide ((0 : Int) < (nd : Int) - 1) = false := decide_eq_false (by omega)
        obtain rfl : [] = M := by have := hdn.out; rw [← hM]; unfold moreL; rw [if_neg (by omega)]
        obtain rfl : 0 = ml := hml
        go_wp2_with fail
        go_meet
        exact ⟨A2, c2, rfl, by simpa using hF2⟩
      · have hd1 : decide ((0 : Int) < (nd : Int) - 1) = true := decide_eq_true (by omega)
        obtain rfl : [46] ++ ds.tail = M := by have := hdn.out; rw [← hM]; unfold moreL; rw [if_pos (by omega)]; rfl
        replace hM := Lib.hid hM
        have hmn : 1 + (nd - 1) = ml := by have := hdn.out; rw [← hml]; simp; omega
        have wn1 : IntKind.i64.wrap ((nd : Int) - 1 + 1) = (nd : Int) := by rw [IntKind.wrap_i64]; omega
        have wn2 : (nd : Int) - 1 + 1 = (nd : Int) := by omega
        have hmin : min (nd : Int) (nd : Int) = (nd : Int) := by omega
        have wnn : IntKind.i64.wrap ((nd : Int) - (nd : Int)) = 0 := by rw [IntKind.wrap_i64]; omega
        have d1 : decide ((1 : Int) < (nd : Int)) = true := decide_eq_true (by omega)
        have d1' : decide (1 < nd) = true := decide_eq_true (by omega)
        have hsl32 : nd ≤ 32 := by omega
        have hbyte2 : Hid ((#[Value.int .u8 46] : Array Value).toList = bys [46]) := Lib.hid rfl
        go_wp2_with (at_builtin; go_must (refine wpList_append_mine rfl _ _ 36 36 rfl 5 i0 (.int .u8 0) 1 1 Tryz.underlying36 hi.out hz0.out hz1.out hz2.out rfl rfl (hF2.own.alloc _) rfl (Src.ofReads Tryz.underlying36 _ (Reads.lit _ _ _ _ 1 _ hbyte2.out rfl) (bys_one _)) ?b1 ?b2 ?grow))
        case b1 => unfold maxLen; omega
        case b2 => omega
        case grow =>
          intro A3 c3 w3 hown hgr hat
          have hF3 := hF2.app (news := [46]) (m := 1) rfl hown hgr hat
          clear hown hgr hat hbyte2 hF2
          obtain ⟨n3, hn3⟩ : ∃ n, n2 + 1 = n := ⟨_, rfl⟩
          rw [hn3] at hF3 ⊢
          obtain ⟨S3, hS3⟩ : ∃ S, S2 ++ [46] = S := ⟨_, rfl⟩
          rw [hS3] at hF3
          replace hS3 := Lib.hid hS3
          have hds3 : ∀ j, j < nd → w3.cell? ⟨Y, j, none⟩ = some (byv (ds.getD j 0)) := fun j hj => hF3.cell hY hYD (hds j hj)
          have hsrc3 := reads_tail hdn.out hnd1 hds3 (Nat.lt_of_lt_of_le hY hF3.grown.size)
          have hnml : n2 + 1 + (nd - 1) = n2 + ml := by omega
          go_wp2_with (at_builtin; go_must (refine wpList_append_mine rfl _ _ 36 36 rfl 5 i0 (.int .u8 0) 1 1 Tryz.underlying36 hi.out hz0.out hz1.out hz2.out rfl rfl hF3.own rfl (Src.ofReads Tryz.underlying36 31 hsrc3 (bys_ones _)) ?b1 ?b2 ?grow))
          case b1 => unfold maxLen; omega
          case b2 => omega
          case grow =>
            intro A4 c4 w4 hown hgr hat
            have hF4 := hF3.app0 (news := ds.tail) (m := nd - 1) (by have := hdn.out; simp; omega) hown hgr hat
            clear hown hgr hat hF3 hsrc3 hds3
            obtain ⟨n4, hn4⟩ : ∃ n, n3 + (nd - 1) = n := ⟨_, rfl⟩
            rw [hn4] at hF4 ⊢
            obtain ⟨S4, hS4⟩ : ∃ S, S3 ++ ds.tail = S := ⟨_, rfl⟩
            rw [hS4] at hF4
            replace hS4 := Lib.hid hS4
            go_wp2_with fail
            go_loopw [0, 114] (fun p i wr => p = .slice A4 n4 c4 ∧ i = .int .i64 0 ∧ FAt w D0 wr A4 n4 c4 S4) (fun _ _ _ => 0)
            case atStart => exact ⟨rfl, rfl, hF4⟩
            case round =>
              rename_i hrel
              obtain ⟨rfl, rfl, hFz⟩ := hrel
              clear hF4
              have hF4 := hFz
              clear hFz
              go_wp2_with fail
              go_meet
              have hfin : S4 = S2 ++ ([46] ++ ds.tail) := by rw [← hS4.out, ← hS3.out, List.append_assoc]
              rw [hfin] at hF4
              have hn24 : n4 = n2 + ml := by omega
              rw [hn24] at hF4 ⊢
              exact ⟨A4, c4, rfl, hF4⟩
    case rest =>
    obtain ⟨A5, c5, rfl, hF5⟩ := hcut
    generalize wc = w5 at *
    obtain ⟨n5, hn5⟩ : ∃ n, n2 + ml = n := ⟨_, rfl⟩
    rw [hn5] at hF5 ⊢
    obtain ⟨S5, hS5⟩ : ∃ S, S2 ++ M = S := ⟨_, rfl⟩
    rw [hS5] at hF5
    replace hS5 := Lib.hid hS5
    have hn5b : n5 ≤ 1022 := by omega
    clear hF2 hn5 hml
    replace hM := Lib.hid hM
    have hbyte5 : Hid ((#[Value.int .u8 101] : Array Value).toList = bys [101]) := Lib.hid rfl
    go_wp2_with (at_builtin; go_must (refine wpList_append_mine rfl _ _ 36 36 rfl 5 i0 (.int .u8 0) 1 1 Tryz.underlying36 hi.out hz0.out hz1.out hz2.out rfl rfl (hF5.own.alloc _) rfl (Src.ofReads Tryz.underlying36 _ (Reads.lit _ _ _ _ 1 _ hbyte5.out rfl) (bys_one _)) ?b1 ?b2 ?grow))
    case b1 => unfold maxLen; omega
    case b2 => omega
    case grow =>
      intro A6 c6 w6 hown hgr hat
      have hF6 := hF5.app (news := [101]) (m := 1) rfl hown hgr hat
      clear hown hgr hat hbyte5 hF5
      obtain ⟨n6, hn6⟩ : ∃ n, n5 + 1 = n := ⟨_, rfl⟩
      rw [hn6] at hF6 ⊢
      obtain ⟨S6, hS6⟩ : ∃ S, S5 ++ [101] = S := ⟨_, rfl⟩
      rw [hS6] at hF6
      replace hS6 := Lib.hid hS6
      have hn6b : n6 ≤ 1023 := by omega
      obtain ⟨X, hX⟩ : ∃ X, E.natAbs = X := ⟨_, rfl⟩
      have hX9 : X ≤ 900 := by omega
      obtain ⟨sg, hsg⟩ : ∃ s : UInt8, (if E < 0 then 45 else 43) = s := ⟨_, rfl⟩
      go_upto_if 129 with (fail)
      go_cut [19, 22] from 124 to 131 (fun x19 x22 wx => x19 = .int .u8 (sg.toNat : Int) ∧ x22 = .int .i64 (X : Int) ∧ w6 = wx)
      case first =>
        by_cases hneg : E < 0
        · have hd : decide (E < 0) = true := decide_eq_true hneg
          have wX : IntKind.i64.wrap (-E) = (X : Int) := by rw [IntKind.wrap_i64]; omega
          rw [if_pos hneg] at hsg
          subst hsg
          go_wp2_with fail
          go_meet
          exact ⟨rfl, rfl, rfl⟩
        · have hd : decide (E < 0) = false := decide_eq_false hneg
          have wX := Lib.hid (show E = (X : Int) by omega)
          rw [if_neg hneg] at hsg
          subst hsg
          go_wp2_with fail
          go_meet
          exact ⟨rfl, by rw [wX.out], rfl⟩
      case rest =>
      obtain ⟨rfl, rfl, hwc⟩ := hcut
      generalize wc = w6' at *
      subst hwc
      have hbyte6 : Hid ((#[Value.int .u8 (sg.toNat : Int)] : Array Value).toList = bys [sg]) := Lib.hid rfl
      go_wp2_with (at_builtin; go_must (refine wpList_append_mine rfl _ _ 36 36 rfl 5 i0 (.int .u8 0) 1 1 Tryz.underlying36 hi.out hz0.out hz1.out hz2.out rfl rfl (hF6.own.alloc _) rfl (Src.ofReads Tryz.underlying36 _ (Reads.lit _ _ _ _ 1 _ hbyte6.out rfl) (bys_one _)) ?b1 ?b2 ?grow))
      case b1 => unfold maxLen; omega
      case b2 => omega
      case grow =>
        intro A7 c7 w7 hown hgr hat
        have hF7 := hF6.app (news := [sg]) (m := 1) rfl hown hgr hat
        clear hown hgr hat hbyte6 hF6
        obtain ⟨n7, hn7⟩ : ∃ n, n6 + 1 = n := ⟨_, rfl⟩
        rw [hn7] at hF7 ⊢
        obtain ⟨S7, hS7⟩ : ∃ S, S6 ++ [sg] = S := ⟨_, rfl⟩
        rw [hS7] at hF7
        replace hS7 := Lib.hid hS7
        have hn7b : n7 ≤ 1024 := by omega
        have wX8 : IntKind.i64.wrap (X : Int) = (X : Int) := by rw [IntKind.wrap_i64]; omega
        have hSall : S7 = S0 ++ (signL neg ++ [x0] ++ moreL ds ++ [101] ++ [sg]) := by rw [← hS7.out, ← hS6.out, ← hS5.out, ← hS2.out, ← hS1.out, ← hM.out]; simp
        have hSend : ∀ l, expL X = l → S7 ++ l = S0 ++ fmtEL neg ds E := fun l hl => by
          unfold fmtEL
          rw [hX, hsg, hl, hx0.out, hSall]
          simp
        replace hSend := Lib.hid hSend
        clear hSall
        by_cases h10 : X < 10
        · have hd : decide ((X : Int) < 10) = true := decide_eq_true (by omega)
          have hd' : decide (X < 10) = true := decide_eq_true h10
          have hb := dig_nat X h10
          have hl : expL X = [48, UInt8.ofNat (48 + X)] := by unfold expL; rw [if_pos h10]
          obtain ⟨b, hbb⟩ : ∃ b, UInt8.ofNat (48 + X) = b := ⟨_, rfl⟩
          rw [hbb] at hb hl
          have w1 : IntKind.u8.wrap (IntKind.u8.wrap (X : Int) + 48) = (b.toNat : Int) := by rw [hb]; unfold IntKind.wrap; simp [IntKind.bits, IntKind.signed]; omega
          have w1' : IntKind.u8.wrap ((X : Int) + 48) = (b.toNat : Int) := by rw [hb]; unfold IntKind.wrap; simp [IntKind.bits, IntKind.signed]; omega
          have w0 : IntKind.u8.wrap (X : Int) = (X : Int) := by unfold IntKind.wrap; simp [IntKind.bits, IntKind.signed]; omega
          clear hb
          replace hl := Lib.hid hl
          have hbyte7 : Hid ((#[.int .u8 48, .int .u8 (b.toNat : Int)] : Array Value).toList = bys [48, b]) := Lib.hid rfl
          go_wp2_with (at_builtin; go_must (refine wpList_append_mine rfl _ _ 36 36 rfl 5 i0 (.int .u8 0) 1 1 Tryz.underlying36 hi.out hz0.out hz1.out hz2.out rfl rfl (hF7.own.alloc _) rfl (Src.ofReads Tryz.underlying36 _ (Reads.lit _ _ _ _ 2 _ hbyte7.out rfl) (bys_ones _)) ?b1 ?b2 ?grow))
          case b1 => unfold maxLen; omega
          case b2 => omega
          case grow =>
            intro A8 c8 w8 hown hgr hat
            have hF8 := hF7.app (news := [48, b]) (m := 2) rfl hown hgr hat
            clear hown hgr hat hbyte7 hF7
            rw [hSend.out _ hl.out] at hF8
            go_wp2_with fail
            go_ret
            exact ⟨A8, _, c8, rfl, hF8⟩
        by_cases h100 : X < 100
        · have hd : decide ((X : Int) < 10) = false := decide_eq_false (by omega)
          have hd2 : decide ((X : Int) < 100) = true := decide_eq_true (by omega)
          have hb := dig_nat (X / 10) (by omega)
          have hb2 := dig_nat (X % 10) (by omega)
          have hl : expL X = [UInt8.ofNat (48 + X / 10), UInt8.ofNat (48 + X % 10)] := by unfold expL; rw [if_neg h10, if_pos h100]
          obtain ⟨b, hbb⟩ : ∃ b, UInt8.ofNat (48 + X / 10) = b := ⟨_, rfl⟩
          obtain ⟨b2, hbb2⟩ : ∃ b, UInt8.ofNat (48 + X % 10) = b := ⟨_, rfl⟩
          rw [hbb] at hb hl
          rw [hbb2] at hb2 hl
          obtain ⟨q1, hq1⟩ : ∃ q, X / 10 = q := ⟨_, rfl⟩
          obtain ⟨r1, hr1⟩ : ∃ q, X % 10 = q := ⟨_, rfl⟩
          have t1 : (X : Int).tdiv 10 = (q1 : Int) := by rw [Int.tdiv_eq_ediv_of_nonneg (by omega)]; omega
          have t2 : (X : Int).tmod 10 = (r1 : Int) := by rw [Int.tmod_eq_emod_of_nonneg (by omega)]; omega
          have wq : IntKind.i64.wrap (q1 : Int) = (q1 : Int) := by rw [IntKind.wrap_i64]; omega
          have w1 : IntKind.u8.wrap (IntKind.u8.wrap (q1 : Int) + 48) = (b.toNat : Int) := by rw [hb]; unfold IntKind.wrap; simp [IntKind.bits, IntKind.signed]; omega
          have w1' : IntKind.u8.wrap ((q1 : Int) + 48) = (b.toNat : Int) := by rw [hb]; unfold IntKind.wrap; simp [IntKind.bits, IntKind.signed]; omega
          have w0 : IntKind.u8.wrap (q1 : Int) = (q1 : Int) := by unfold IntKind.wrap; simp [IntKind.bits, IntKind.signed]; omega
          have v1 : IntKind.u8.wrap (IntKind.u8.wrap (r1 : Int) + 48) = (b2.toNat : Int) := by rw [hb2]; unfold IntKind.wrap; simp [IntKind.bits, IntKind.signed]; omega
          have v1' : IntKind.u8.wrap ((r1 : Int) + 48) = (b2.toNat : Int) := by rw [hb2]; unfold IntKind.wrap; simp [IntKind.bits, IntKind.signed]; omega
          have v0 : IntKind.u8.wrap (r1 : Int) = (r1 : Int) := by unfold IntKind.wrap; simp [IntKind.bits, IntKind.signed]; omega
          have vq : IntKind.i64.wrap (r1 : Int) = (r1 : Int) := by rw [IntKind.wrap_i64]; omega
          clear hb hb2
          replace hl := Lib.hid hl
          have hbyte7 : Hid ((#[.int .u8 (b.toNat : Int), .int .u8 (b2.toNat : Int)] : Array Value).toList = bys [b, b2]) := Lib.hid rfl
          go_wp2_with (at_builtin; go_must (refine wpList_append_mine rfl _ _ 36 36 rfl 5 i0 (.int .u8 0) 1 1 Tryz.underlying36 hi.out hz0.out hz1.out hz2.out rfl rfl (hF7.own.alloc _) rfl (Src.ofReads Tryz.underlying36 _ (Reads.lit _ _ _ _ 2 _ hbyte7.out rfl) (bys_ones _)) ?b1 ?b2 ?grow))
          case b1 => unfold maxLen; omega
          case b2 => omega
          case grow =>
            intro A8 c8 w8 hown hgr hat
            have hF8 := hF7.app (news := [b, b2]) (m := 2) rfl hown hgr hat
            clear hown hgr hat hbyte7 hF7
            rw [hSend.out _ hl.out] at hF8
            go_wp2_with fail
            go_ret
            exact ⟨A8, _, c8, rfl, hF8⟩
        · have hd : decide ((X : Int) < 10) = false := decide_eq_false (by omega)
          have hd2 : decide ((X : Int) < 100) = false := decide_eq_false (by omega)
          have hb := dig_nat (X / 100) (by omega)
          have hb2 := dig_nat (X / 10 % 10) (by omega)
          have hb3 := dig_nat (X % 10) (by omega)
          have hl : expL X = [UInt8.ofNat (48 + X / 100), UInt8.ofNat (48 + X / 10 % 10), UInt8.ofNat (48 + X % 10)] := by unfold expL; rw [if_neg h10, if_neg h100]
          obtain ⟨b, hbb⟩ : ∃ b, UInt8.ofNat (48 + X / 100) = b := ⟨_, rfl⟩
          obtain ⟨b2, hbb2⟩ : ∃ b, UInt8.ofNat (48 + X / 10 % 10) = b := ⟨_, rfl⟩
          obtain ⟨b3, hbb3⟩ : ∃ b, UInt8.ofNat (48 + X % 10) = b := ⟨_, rfl⟩
          rw [hbb] at hb hl
          rw [hbb2] at hb2 hl
          rw [hbb3] at hb3 hl
          obtain ⟨q1, hq1⟩ : ∃ q, X / 100 = q := ⟨_, rfl⟩
          obtain ⟨q2, hq2⟩ : ∃ q, X / 10 = q := ⟨_, rfl⟩
          obtain ⟨r1, hr1⟩ : ∃ q, X % 10 = q := ⟨_, rfl⟩
          obtain ⟨r2, hr2⟩ : ∃ q, q2 % 10 = q := ⟨_, rfl⟩
          rw [hq2] at hb2
          have t1 : (X : Int).tdiv 100 = (q1 : Int) := by rw [Int.tdiv_eq_ediv_of_nonneg (by omega)]; omega
          have t1b : (X : Int).tdiv 10 = (q2 : Int) := by rw [Int.tdiv_eq_ediv_of_nonneg (by omega)]; omega
          have t2 : (X : Int).tmod 10 = (r1 : Int) := by rw [Int.tmod_eq_emod_of_nonneg (by omega)]; omega
          have t3 : (q2 : Int).tmod 10 = (r2 : Int) := by rw [Int.tmod_eq_emod_of_nonneg (by omega)]; omega
          have wq : IntKind.i64.wrap (q1 : Int) = (q1 : Int) := by rw [IntKind.wrap_i64]; omega
          have wq2 : IntKind.i64.wrap (q2 : Int) = (q2 : Int) := by rw [IntKind.wrap_i64]; omega
          have w1 : IntKind.u8.wrap (IntKind.u8.wrap (q1 : Int) + 48) = (b.toNat : Int) := by rw [hb]; unfold IntKind.wrap; simp [IntKind.bits, IntKind.signed]; omega
          have w1' : IntKind.u8.wrap ((q1 : Int) + 48) = (b.toNat : Int) := by rw [hb]; unfold IntKind.wrap; simp [IntKind.bits, IntKind.signed]; omega
          have w0 : IntKind.u8.wrap (q1 : Int) = (q1 : Int) := by unfold IntKind.wrap; simp [IntKind.bits, IntKind.signed]; omega
          have u0 : IntKind.u8.wrap (q2 : Int) = (q2 : Int) := by unfold IntKind.wrap; simp [IntKind.bits, IntKind.signed]; omega
          have u2 : IntKind.u8.wrap (r2 : Int) = (r2 : Int) := by unfold IntKind.wrap; simp [IntKind.bits, IntKind.signed]; omega
          have u1' : IntKind.u8.wrap ((r2 : Int) + 48) = (b2.toNat : Int) := by rw [hb2]; unfold IntKind.wrap; simp [IntKind.bits, IntKind.signed]; omega
          have v1 : IntKind.u8.wrap (IntKind.u8.wrap (r1 : Int) + 48) = (b3.toNat : Int) := by rw [hb3]; unfold IntKind.wrap; simp [IntKind.bits, IntKind.signed]; omega
          have v1' : IntKind.u8.wrap ((r1 : Int) + 48) = (b3.toNat : Int) := by rw [hb3]; unfold IntKind.wrap; simp [IntKind.bits, IntKind.signed]; omega
          have v0 : IntKind.u8.wrap (r1 : Int) = (r1 : Int) := by unfold IntKind.wrap; simp [IntKind.bits, IntKind.signed]; omega
          have vq : IntKind.i64.wrap (r1 : Int) = (r1 : Int) := by rw [IntKind.wrap_i64]; omega
          clear hb hb2 hb3
          replace hl := Lib.hid hl
          have hbyte7 : Hid ((#[.int .u8 (b.toNat : Int), .int .u8 (b2.toNat : Int), .int .u8 (b3.toNat : Int)] : Array Value).toList = bys [b, b2, b3]) := Lib.hid rfl
          go_wp2_with (at_builtin; go_must (refine wpList_append_mine rfl _ _ 36 36 rfl 5 i0 (.int .u8 0) 1 1 Tryz.underlying36 hi.out hz0.out hz1.out hz2.out rfl rfl (hF7.own.alloc _) rfl (Src.ofReads Tryz.underlying36 _ (Reads.lit _ _ _ _ 3 _ hbyte7.out rfl) (bys_ones _)) ?b1 ?b2 ?grow))
          case b1 => unfold maxLen; omega
          case b2 => omega
          case grow =>
            intro A8 c8 w8 hown hgr hat
            have hF8 := hF7.app (news := [b, b2, b3]) (m := 3) rfl hown hgr hat
            clear hown hgr hat hbyte7 hF7
            rw [hSend.out _ hl.out] at hF8
            go_wp2_with fail
            go_ret
            exact ⟨A8, _, c8, rfl, hF8⟩
end Go.Proofs.YtdbmffagibnibaaGreatDoor
