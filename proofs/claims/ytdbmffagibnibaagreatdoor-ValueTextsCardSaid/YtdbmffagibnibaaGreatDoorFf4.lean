/- Floats' digits: their plain form. (Printed by gen_ff4.py.) -/
import Derived.Test.YtdbmffagibnibaaGreatDoorFf3
import Derived.Test.YtdbmffagibnibaaGreatDoorGrow
set_option linter.unusedSimpArgs false
set_option linter.unusedVariables false
namespace Go.Proofs.YtdbmffagibnibaaGreatDoor
open Go.RowKit Go.Sort Go.Lib
set_option maxRecDepth 100000

theorem info_u8 : (Tryz.prog.info? 5).map (fun i => (i.zero, i.size, i.bytes)) = some (some (.int .u8 0), 1, 1) := by kernel_rfl
theorem info_parts {P : Program} {T : TypeId} {z : Value} {s b : Nat} (h : (P.info? T).map (fun i => (i.zero, i.size, i.bytes)) = some (some z, s, b)) : ∃ i, P.info? T = some i ∧ i.zero = some z ∧ i.size = s ∧ i.bytes = b := by
  cases hi : P.info? T with
  | none => rw [hi] at h; cases h
  | some i =>
    rw [hi] at h
    simp only [Option.map_some, Option.some.injEq, Prod.mk.injEq] at h
    exact ⟨i, rfl, h.1, h.2.1, h.2.2⟩

/-- A buffer that the call writes: its bytes; what else it may have touched: the block D0 and new ones. -/
structure FAt (w0 : World) (D0 : Option Nat) (w : World) (A : Option Addr) (n c : Nat) (S : List UInt8) : Prop where
  own : Own w 5 1 A n c (bys S)
  len : S.length = n
  grown : w0.grownBy w D0
  mine : ∀ q, bOf A = some q → D0 = some q ∨ w0.heap.size ≤ q
theorem FAt.app {w0 w w' : World} {D0 : Option Nat} {A A' : Option Addr} {n c c' : Nat} {S : List UInt8} {o : Obj} {news : List UInt8} {m : Nat} (h : FAt w0 D0 w A n c S) (hm : news.length = m) (hown : Own w' 5 1 A' (n + m) c' (bys S ++ bys news)) (hgr : (w.alloc o).grownBy w' (bOf A)) (hat : bOf A' = bOf A ∨ bOf A' = some (w.heap.size + 1)) : FAt w0 D0 w' A' (n + m) c' (S ++ news) := by
  have hs := h.grown.size
  have h1 : w0.grownBy (w.alloc o) D0 := h.grown.andThen (World.grownBy_alloc w o none) (fun j hj => by cases hj)
  refine ⟨by rw [bys_append]; exact hown, by rw [List.length_append, h.len, hm], h1.andThen hgr (fun j hj => ?_), fun q hq => ?_⟩
  · rcases h.mine j hj with e | e
    · exact .inr e
    · exact .inl e
  · rcases hat with e | e
    · exact h.mine q (e ▸ hq)
    · rw [e] at hq
      exact .inr (by have := Option.some.inj hq; omega)
theorem FAt.cell {w0 w : World} {D0 : Option Nat} {A : Option Addr} {n c : Nat} {S : List UInt8} (h : FAt w0 D0 w A n c S) {Y j : Nat} {v : Value} (hY : Y < w0.heap.size) (hD : D0 ≠ some Y) (hc : w0.cell? ⟨Y, j, none⟩ = some v) : w.cell? ⟨Y, j, none⟩ = some v :=
  (h.grown.cell_far ⟨Y, j, none⟩ hY (fun e => hD e.symm)).trans hc

/-- A float's digits, plainly. -/
def fmtFL (neg : Bool) (ds : List UInt8) (dp : Int) : List UInt8 :=
  (if neg then [45] else []) ++
    (if 0 < dp then (if (ds.length : Int) ≤ dp then ds ++ List.replicate (dp.toNat - ds.length) 48 else ds.take dp.toNat ++ 46 :: ds.drop dp.toNat)
     else 48 :: 46 :: (List.replicate (-dp).toNat 48 ++ ds))

theorem take_more (l : List UInt8) (k : Nat) (h : k < l.length) : l.take k ++ [l.getD k 0] = l.take (k + 1) := by
  rw [List.take_succ_eq_append_getElem h, List.getD, List.getElem?_eq_getElem h, Option.getD_some]
theorem repl_more (k : Nat) : List.replicate k (48 : UInt8) ++ [48] = List.replicate (k + 1) 48 := List.replicate_succ'.symm

set_option maxHeartbeats 6400000 in
theorem fmtF_I (A0 : Option Addr) (n0 c0 : Nat) (S0 : List UInt8) (Y : Nat) (ds : List UInt8) (nd : Nat) (w : World) (q : Nat) (hq : 0 < q) (hq6 : q ≤ 6) (hnq : nd ≤ q)
    (hF0 : FAt w (bOf A0) w A0 n0 c0 S0) (hn0 : n0 ≤ 1000) (hY : Y < w.heap.size) (hYD : bOf A0 ≠ some Y) (hdn : ds.length = nd) (hn1 : 1 ≤ nd) (hn2 : nd ≤ 20) (hds : ∀ j, j < nd → w.cell? ⟨Y, j, none⟩ = some (byv (ds.getD j 0))) :
    Calls Tryz.prog 97 #[.slice A0 n0 c0, .bool false, .slice (some ⟨Y, 0, none⟩) 32 32, .int .i64 (q : Int), .int .i64 (nd : Int), .int .i64 (nd : Int), .int .u8 103, .bool true] w (fun e w' => ∃ A' n' c', e = .returned (.slice A' n' c') ∧ FAt w (bOf A0) w' A' n' c' (S0 ++ fmtFL false ds (q : Int))) := by
  obtain ⟨i0, hi, hz0, hz1, hz2⟩ := info_parts info_u8
  replace hi := Lib.hid hi
  replace hz0 := Lib.hid hz0
  replace hz1 := Lib.hid hz1
  replace hz2 := Lib.hid hz2
  obtain ⟨D0, hD0⟩ : ∃ D, bOf A0 = D := ⟨_, rfl⟩
  rw [hD0] at hF0 hYD ⊢
  replace hD0 := Lib.hid hD0
  replace hdn := Lib.hid hdn
  have hdl := hdn.out
  replace hds := hds
  have we : IntKind.i64.wrap ((q : Int) - 1) = (q : Int) - 1 := by rw [IntKind.wrap_i64]; omega
  have e1 : decide ((q : Int) - 1 < -4) = false := decide_eq_false (by omega)
  have e2 : decide ((6 : Int) ≤ (q : Int) - 1) = false := decide_eq_false (by omega)
  obtain ⟨z, hz⟩ : ∃ z, q - nd = z := ⟨_, rfl⟩
  have hmin : min (nd : Int) (q : Int) = (nd : Int) := by omega
  have hmax : max ((nd : Int) - (q : Int)) 0 = 0 := by omega
  have wz : IntKind.i64.wrap ((q : Int) - (nd : Int)) = (z : Int) := by rw [IntKind.wrap_i64]; omega
  have e3 : decide ((q : Int) < (nd : Int)) = false := decide_eq_false (by omega)
  have e4 : decide (q < nd) = false := decide_eq_false (by omega)
  go_enter Tryz.func97, Tryz.ntmps97
  go_wp2_with fail
  go_loopw [0, 191] (fun p i wr => ∃ (k : Nat) (A' : Option Addr) (c' : Nat), k ≤ nd ∧ p = .slice A' (n0 + k) c' ∧ i = .int .i64 (k : Int) ∧ FAt w D0 wr A' (n0 + k) c' (S0 ++ (ds.drop (0)).take (k))) (fun _ i _ => nd - (RowKit.intOf i).toNat)
  case atStart => exact ⟨0, A0, c0, Nat.zero_le _, rfl, rfl, by simpa using hF0⟩
  case round =>
    rename_i hrel
    obtain ⟨k, A', c', hk, rfl, rfl, hFk⟩ := hrel
    by_cases hlt : k < nd
    · have hkw : IntKind.i64.wrap ((k : Int) + 1) = (k : Int) + 1 := by rw [IntKind.wrap_i64]; omega
      have hkd : decide ((k : Int) < ((nd : Nat) : Int)) = true := decide_eq_true (by omega)
      have hx0 := hFk.cell hY hYD (hds (0 + k) (by omega))
      obtain ⟨x, hx⟩ : ∃ x, ds.getD (0 + k) 0 = x := ⟨_, rfl⟩
      rw [hx] at hx0
      simp only [byv] at hx0
      replace hx := Lib.hid hx
      simp only [Nat.zero_add] at hx0 hx
      have hoff : IntKind.i64.wrap (k : Int) = (k : Int) := by rw [IntKind.wrap_i64]; omega
      have hbyte : Hid ((#[Value.int .u8 (x.toNat : Int)] : Array Value).toList = bys [x]) := Lib.hid rfl
      go_wp2_with (at_builtin; go_must (refine wpList_append_mine rfl _ _ 36 36 rfl 5 i0 (.int .u8 0) 1 1 Tryz.underlying36 hi.out hz0.out hz1.out hz2.out rfl rfl (hFk.own.alloc _) rfl (Src.ofReads Tryz.underlying36 _ (Reads.lit _ _ _ _ 1 _ hbyte.out rfl) (bys_one _)) ?b1 ?b2 ?grow))
      case b1 => unfold maxLen; omega
      case b2 => omega
      case grow =>
        intro A2 c2 w2 hown hgr hat
        have hF2 := hFk.app (news := [x]) (m := 1) rfl hown hgr hat
        clear hown hgr hat hbyte hFk
        rw [List.append_assoc, show (ds.drop (0)).take (k) ++ [x] = (ds.drop (0)).take (k + 1) from by rw [← take_more _ _ (by rw [List.length_drop]; omega), ← hx.out]; simp [List.getD, List.getElem?_drop, Nat.add_comm]] at hF2
        go_wp2_with fail
        go_roundw
        case rel => exact ⟨k + 1, A2, c2, by omega, by rw [Nat.add_assoc], by go_num, by rw [← Nat.add_assoc]; exact hF2⟩
        case measure => simp [RowKit.intOf]; omega
    · obtain rfl : nd = k := by omega
      have hF1 := hFk
      clear hFk hF0
      obtain ⟨n1, hn1⟩ : ∃ n, n0 + nd = n := ⟨_, rfl⟩
      rw [hn1] at hF1 ⊢
      obtain ⟨S1, hS1⟩ : ∃ S, S0 ++ (ds.drop (0)).take (nd) = S := ⟨_, rfl⟩
      rw [hS1] at hF1
      replace hS1 := Lib.hid hS1
      obtain ⟨A1, hA1⟩ : ∃ A, A' = A := ⟨_, rfl⟩
      rw [hA1] at hF1 ⊢
      obtain ⟨c1, hc1⟩ : ∃ c, c' = c := ⟨_, rfl⟩
      rw [hc1] at hF1 ⊢
      go_wp2_with fail
      go_loopw [0, 203] (fun p i wr => ∃ (k : Nat) (A' : Option Addr) (c' : Nat), k ≤ z ∧ p = .slice A' (n1 + k) c' ∧ i = .int .i64 (k : Int) ∧ FAt w D0 wr A' (n1 + k) c' (S1 ++ List.replicate (k) 48)) (fun _ i _ => z - (RowKit.intOf i).toNat)
      case atStart => exact ⟨0, A1, c1, Nat.zero_le _, rfl, rfl, by simpa using hF1⟩
      case round =>
        rename_i hrel
        obtain ⟨k, A', c', hk, rfl, rfl, hFk⟩ := hrel
        by_cases hlt : k < z
        · have hkw : IntKind.i64.wrap ((k : Int) + 1) = (k : Int) + 1 := by rw [IntKind.wrap_i64]; omega
          have hkd : decide ((k : Int) < ((z : Nat) : Int)) = true := decide_eq_true (by omega)
          have hbyte : Hid ((#[Value.int .u8 48] : Array Value).toList = bys [48]) := Lib.hid rfl
          go_wp2_with (at_builtin; go_must (refine wpList_append_mine rfl _ _ 36 36 rfl 5 i0 (.int .u8 0) 1 1 Tryz.underlying36 hi.out hz0.out hz1.out hz2.out rfl rfl (hFk.own.alloc _) rfl (Src.ofReads Tryz.underlying36 _ (Reads.lit _ _ _ _ 1 _ hbyte.out rfl) (bys_one _)) ?b1 ?b2 ?grow))
          case b1 => unfold maxLen; omega
          case b2 => omega
          case grow =>
            intro A2 c2 w2 hown hgr hat
            have hF2 := hFk.app (news := [48]) (m := 1) rfl hown hgr hat
            clear hown hgr hat hbyte hFk
            rw [List.append_assoc, repl_more] at hF2
            go_wp2_with fail
            go_roundw
            case rel => exact ⟨k + 1, A2, c2, by omega, by rw [Nat.add_assoc], by go_num, by rw [← Nat.add_assoc]; exact hF2⟩
            case measure => simp [RowKit.intOf]; omega
        · obtain rfl : z = k := by omega
          have hF2 := hFk
          clear hFk hF1
          obtain ⟨n2, hn2⟩ : ∃ n, n1 + z = n := ⟨_, rfl⟩
          rw [hn2] at hF2 ⊢
          obtain ⟨S2, hS2⟩ : ∃ S, S1 ++ List.replicate (z) 48 = S := ⟨_, rfl⟩
          rw [hS2] at hF2
          replace hS2 := Lib.hid hS2
          obtain ⟨A2, hA2⟩ : ∃ A, A' = A := ⟨_, rfl⟩
          rw [hA2] at hF2 ⊢
          obtain ⟨c2, hc2⟩ : ∃ c, c' = c := ⟨_, rfl⟩
          rw [hc2] at hF2 ⊢
          go_wp2_with fail
          go_ret
          have hS : S2 = S0 ++ fmtFL false ds (q : Int) := by
            rw [← hS2.out, ← hS1.out]
            unfold fmtFL
            rw [if_pos (show (0 : Int) < (q : Int) by omega), if_pos (show (ds.length : Int) ≤ (q : Int) by omega), Int.toNat_natCast, hdl, ← hz]
            simp [List.take_of_length_le, hdl, hz]
          rw [hS] at hF2
          exact ⟨A2, n2, c2, rfl, hF2⟩
set_option maxHeartbeats 6400000 in
theorem fmtF_In (A0 : Option Addr) (n0 c0 : Nat) (S0 : List UInt8) (Y : Nat) (ds : List UInt8) (nd : Nat) (w : World) (q : Nat) (hq : 0 < q) (hq6 : q ≤ 6) (hnq : nd ≤ q)
    (hF0 : FAt w (bOf A0) w A0 n0 c0 S0) (hn0 : n0 ≤ 1000) (hY : Y < w.heap.size) (hYD : bOf A0 ≠ some Y) (hdn : ds.length = nd) (hn1 : 1 ≤ nd) (hn2 : nd ≤ 20) (hds : ∀ j, j < nd → w.cell? ⟨Y, j, none⟩ = some (byv (ds.getD j 0))) :
    Calls Tryz.prog 97 #[.slice A0 n0 c0, .bool true, .slice (some ⟨Y, 0, none⟩) 32 32, .int .i64 (q : Int), .int .i64 (nd : Int), .int .i64 (nd : Int), .int .u8 103, .bool true] w (fun e w' => ∃ A' n' c', e = .returned (.slice A' n' c') ∧ FAt w (bOf A0) w' A' n' c' (S0 ++ fmtFL true ds (q : Int))) := by
  obtain ⟨i0, hi, hz0, hz1, hz2⟩ := info_parts info_u8
  replace hi := Lib.hid hi
  replace hz0 := Lib.hid hz0
  replace hz1 := Lib.hid hz1
  replace hz2 := Lib.hid hz2
  obtain ⟨D0, hD0⟩ : ∃ D, bOf A0 = D := ⟨_, rfl⟩
  rw [hD0] at hF0 hYD ⊢
  replace hD0 := Lib.hid hD0
  replace hdn := Lib.hid hdn
  have hdl := hdn.out
  replace hds := hds
  have we : IntKind.i64.wrap ((q : Int) - 1) = (q : Int) - 1 := by rw [IntKind.wrap_i64]; omega
  have e1 : decide ((q : Int) - 1 < -4) = false := decide_eq_false (by omega)
  have e2 : decide ((6 : Int) ≤ (q : Int) - 1) = false := decide_eq_false (by omega)
  obtain ⟨z, hz⟩ : ∃ z, q - nd = z := ⟨_, rfl⟩
  have hmin : min (nd : Int) (q : Int) = (nd : Int) := by omega
  have hmax : max ((nd : Int) - (q : Int)) 0 = 0 := by omega
  have wz : IntKind.i64.wrap ((q : Int) - (nd : Int)) = (z : Int) := by rw [IntKind.wrap_i64]; omega
  have e3 : decide ((q : Int) < (nd : Int)) = false := decide_eq_false (by omega)
  have e4 : decide (q < nd) = false := decide_eq_false (by omega)
  go_enter Tryz.func97, Tryz.ntmps97
  have hbyte0 : Hid ((#[Value.int .u8 45] : Array Value).toList = bys [45]) := Lib.hid rfl
  go_wp2_with (at_builtin; go_must (refine wpList_append_mine rfl _ _ 36 36 rfl 5 i0 (.int .u8 0) 1 1 Tryz.underlying36 hi.out hz0.out hz1.out hz2.out rfl rfl (hF0.own.alloc _) rfl (Src.ofReads Tryz.underlying36 _ (Reads.lit _ _ _ _ 1 _ hbyte0.out rfl) (bys_one _)) ?b1 ?b2 ?grow))
  case b1 => unfold maxLen; omega
  case b2 => omega
  case grow =>
    intro A1 c1 w1 hown hgr hat
    have hF1 := hF0.app (news := [45]) (m := 1) rfl hown hgr hat
    clear hown hgr hat hbyte0 hF0
    obtain ⟨n1, hn1⟩ : ∃ n, n0 + 1 = n := ⟨_, rfl⟩
    rw [hn1] at hF1 ⊢
    obtain ⟨S1, hS1⟩ : ∃ S, S0 ++ [45] = S := ⟨_, rfl⟩
    rw [hS1] at hF1
    replace hS1 := Lib.hid hS1
    go_wp2_with fail
    go_loopw [0, 191] (fun p i wr => ∃ (k : Nat) (A' : Option Addr) (c' : Nat), k ≤ nd ∧ p = .slice A' (n1 + k) c' ∧ i = .int .i64 (k : Int) ∧ FAt w D0 wr A' (n1 + k) c' (S1 ++ (ds.drop (0)).take (k))) (fun _ i _ => nd - (RowKit.intOf i).toNat)
    case atStart => exact ⟨0, A1, c1, Nat.zero_le _, rfl, rfl, by simpa using hF1⟩
    case round =>
      rename_i hrel
      obtain ⟨k, A', c', hk, rfl, rfl, hFk⟩ := hrel
      by_cases hlt : k < nd
      · have hkw : IntKind.i64.wrap ((k : Int) + 1) = (k : Int) + 1 := by rw [IntKind.wrap_i64]; omega
        have hkd : decide ((k : Int) < ((nd : Nat) : Int)) = true := decide_eq_true (by omega)
        have hx0 := hFk.cell hY hYD (hds (0 + k) (by omega))
        obtain ⟨x, hx⟩ : ∃ x, ds.getD (0 + k) 0 = x := ⟨_, rfl⟩
        rw [hx] at hx0
        simp only [byv] at hx0
        replace hx := Lib.hid hx
        simp only [Nat.zero_add] at hx0 hx
        have hoff : IntKind.i64.wrap (k : Int) = (k : Int) := by rw [IntKind.wrap_i64]; omega
        have hbyte : Hid ((#[Value.int .u8 (x.toNat : Int)] : Array Value).toList = bys [x]) := Lib.hid rfl
        go_wp2_with (at_builtin; go_must (refine wpList_append_mine rfl _ _ 36 36 rfl 5 i0 (.int .u8 0) 1 1 Tryz.underlying36 hi.out hz0.out hz1.out hz2.out rfl rfl (hFk.own.alloc _) rfl (Src.ofReads Tryz.underlying36 _ (Reads.lit _ _ _ _ 1 _ hbyte.out rfl) (bys_one _)) ?b1 ?b2 ?grow))
        case b1 => unfold maxLen; omega
        case b2 => omega
        case grow =>
          intro A2 c2 w2 hown hgr hat
          have hF2 := hFk.app (news := [x]) (m := 1) rfl hown hgr hat
          clear hown hgr hat hbyte hFk
          rw [List.append_assoc, show (ds.drop (0)).take (k) ++ [x] = (ds.drop (0)).take (k + 1) from by rw [← take_more _ _ (by rw [List.length_drop]; omega), ← hx.out]; simp [List.getD, List.getElem?_drop, Nat.add_comm]] at hF2
          go_wp2_with fail
          go_roundw
          case rel => exact ⟨k + 1, A2, c2, by omega, by rw [Nat.add_assoc], by go_num, by rw [← Nat.add_assoc]; exact hF2⟩
          case measure => simp [RowKit.intOf]; omega
      · obtain rfl : nd = k := by omega
        have hF2 := hFk
        clear hFk hF1
        obtain ⟨n2, hn2⟩ : ∃ n, n1 + nd = n := ⟨_, rfl⟩
        rw [hn2] at hF2 ⊢
        obtain ⟨S2, hS2⟩ : ∃ S, S1 ++ (ds.drop (0)).take (nd) = S := ⟨_, rfl⟩
        rw [hS2] at hF2
        replace hS2 := Lib.hid hS2
        obtain ⟨A2, hA2⟩ : ∃ A, A' = A := ⟨_, rfl⟩
        rw [hA2] at hF2 ⊢
        obtain ⟨c2, hc2⟩ : ∃ c, c' = c := ⟨_, rfl⟩
        rw [hc2] at hF2 ⊢
        go_wp2_with fail
        go_loopw [0, 203] (fun p i wr => ∃ (k : Nat) (A' : Option Addr) (c' : Nat), k ≤ z ∧ p = .slice A' (n2 + k) c' ∧ i = .int .i64 (k : Int) ∧ FAt w D0 wr A' (n2 + k) c' (S2 ++ List.replicate (k) 48)) (fun _ i _ => z - (RowKit.intOf i).toNat)
        case atStart => exact ⟨0, A2, c2, Nat.zero_le _, rfl, rfl, by simpa using hF2⟩
        case round =>
          rename_i hrel
          obtain ⟨k, A', c', hk, rfl, rfl, hFk⟩ := hrel
          by_cases hlt : k < z
          · have hkw : IntKind.i64.wrap ((k : Int) + 1) = (k : Int) + 1 := by rw [IntKind.wrap_i64]; omega
            have hkd : decide ((k : Int) < ((z : Nat) : Int)) = true := decide_eq_true (by omega)
            have hbyte : Hid ((#[Value.int .u8 48] : Array Value).toList = bys [48]) := Lib.hid rfl
            go_wp2_with (at_builtin; go_must (refine wpList_append_mine rfl _ _ 36 36 rfl 5 i0 (.int .u8 0) 1 1 Tryz.underlying36 hi.out hz0.out hz1.out hz2.out rfl rfl (hFk.own.alloc _) rfl (Src.ofReads Tryz.underlying36 _ (Reads.lit _ _ _ _ 1 _ hbyte.out rfl) (bys_one _)) ?b1 ?b2 ?grow))
            case b1 => unfold maxLen; omega
            case b2 => omega
            case grow =>
              intro A2 c2 w2 hown hgr hat
              have hF2 := hFk.app (news := [48]) (m := 1) rfl hown hgr hat
              clear hown hgr hat hbyte hFk
              rw [List.append_assoc, repl_more] at hF2
              go_wp2_with fail
              go_roundw
              case rel => exact ⟨k + 1, A2, c2, by omega, by rw [Nat.add_assoc], by go_num, by rw [← Nat.add_assoc]; exact hF2⟩
              case measure => simp [RowKit.intOf]; omega
          · obtain rfl : z = k := by omega
            have hF3 := hFk
            clear hFk hF2
            obtain ⟨n3, hn3⟩ : ∃ n, n2 + z = n := ⟨_, rfl⟩
            rw [hn3] at hF3 ⊢
            obtain ⟨S3, hS3⟩ : ∃ S, S2 ++ List.replicate (z) 48 = S := ⟨_, rfl⟩
            rw [hS3] at hF3
            replace hS3 := Lib.hid hS3
            obtain ⟨A3, hA3⟩ : ∃ A, A' = A := ⟨_, rfl⟩
            rw [hA3] at hF3 ⊢
            obtain ⟨c3, hc3⟩ : ∃ c, c' = c := ⟨_, rfl⟩
            rw [hc3] at hF3 ⊢
            go_wp2_with fail
            go_ret
            have hS : S3 = S0 ++ fmtFL true ds (q : Int) := by
              rw [← hS3.out, ← hS2.out, ← hS1.out]
              unfold fmtFL
              rw [if_pos (show (0 : Int) < (q : Int) by omega), if_pos (show (ds.length : Int) ≤ (q : Int) by omega), Int.toNat_natCast, hdl, ← hz]
              simp [List.take_of_length_le, hdl, hz]
            rw [hS] at hF3
            exact ⟨A3, n3, c3, rfl, hF3⟩
set_option maxHeartbeats 6400000 in
theorem fmtF_II (A0 : Option Addr) (n0 c0 : Nat) (S0 : List UInt8) (Y : Nat) (ds : List UInt8) (nd : Nat) (w : World) (q : Nat) (hq : 0 < q) (hq6 : q ≤ 6) (hnq : q < nd)
    (hF0 : FAt w (bOf A0) w A0 n0 c0 S0) (hn0 : n0 ≤ 1000) (hY : Y < w.heap.size) (hYD : bOf A0 ≠ some Y) (hdn : ds.length = nd) (hn1 : 1 ≤ nd) (hn2 : nd ≤ 20) (hds : ∀ j, j < nd → w.cell? ⟨Y, j, none⟩ = some (byv (ds.getD j 0))) :
    Calls Tryz.prog 97 #[.slice A0 n0 c0, .bool false, .slice (some ⟨Y, 0, none⟩) 32 32, .int .i64 (q : Int), .int .i64 (nd : Int), .int .i64 (nd : Int), .int .u8 103, .bool true] w (fun e w' => ∃ A' n' c', e = .returned (.slice A' n' c') ∧ FAt w (bOf A0) w' A' n' c' (S0 ++ fmtFL false ds (q : Int))) := by
  obtain ⟨i0, hi, hz0, hz1, hz2⟩ := info_parts info_u8
  replace hi := Lib.hid hi
  replace hz0 := Lib.hid hz0
  replace hz1 := Lib.hid hz1
  replace hz2 := Lib.hid hz2
  obtain ⟨D0, hD0⟩ : ∃ D, bOf A0 = D := ⟨_, rfl⟩
  rw [hD0] at hF0 hYD ⊢
  replace hD0 := Lib.hid hD0
  replace hdn := Lib.hid hdn
  have hdl := hdn.out
  replace hds := hds
  have we : IntKind.i64.wrap ((q : Int) - 1) = (q : Int) - 1 := by rw [IntKind.wrap_i64]; omega
  have e1 : decide ((q : Int) - 1 < -4) = false := decide_eq_false (by omega)
  have e2 : decide ((6 : Int) ≤ (q : Int) - 1) = false := decide_eq_false (by omega)
  obtain ⟨z, hz⟩ : ∃ z, nd - q = z := ⟨_, rfl⟩
  have hmin : min (nd : Int) (q : Int) = (q : Int) := by omega
  have hmax : max (z : Int) 0 = (z : Int) := by omega
  have zpos : decide ((0 : Int) < (z : Int)) = true := decide_eq_true (by omega)
  have zpos' : decide (0 < z) = true := decide_eq_true (by omega)
  have m1 : max (0 : Int) (-(q : Int)) = 0 := by omega
  have m2 : min (z : Int) 0 = 0 := by omega
  have m3 : max (0 : Int) (z : Int) = (z : Int) := by omega
  have wzz : IntKind.i64.wrap (z : Int) = (z : Int) := by rw [IntKind.wrap_i64]; omega
  have wq : IntKind.i64.wrap (q : Int) = (q : Int) := by rw [IntKind.wrap_i64]; omega
  have wnq : IntKind.i64.wrap (-(q : Int)) = -(q : Int) := by rw [IntKind.wrap_i64]; omega
  have qpos : decide (0 < q) = true := decide_eq_true (by omega)
  have wz : IntKind.i64.wrap ((nd : Int) - (q : Int)) = (z : Int) := by rw [IntKind.wrap_i64]; omega
  have e3 : decide ((q : Int) < (nd : Int)) = true := decide_eq_true (by omega)
  have e4 : decide (q < nd) = true := decide_eq_true (by omega)
  go_enter Tryz.func97, Tryz.ntmps97
  go_wp2_with fail
  go_loopw [0, 191] (fun p i wr => ∃ (k : Nat) (A' : Option Addr) (c' : Nat), k ≤ q ∧ p = .slice A' (n0 + k) c' ∧ i = .int .i64 (k : Int) ∧ FAt w D0 wr A' (n0 + k) c' (S0 ++ (ds.drop (0)).take (k))) (fun _ i _ => q - (RowKit.intOf i).toNat)
  case atStart => exact ⟨0, A0, c0, Nat.zero_le _, rfl, rfl, by simpa using hF0⟩
  case round =>
    rename_i hrel
    obtain ⟨k, A', c', hk, rfl, rfl, hFk⟩ := hrel
    by_cases hlt : k < q
    · have hkw : IntKind.i64.wrap ((k : Int) + 1) = (k : Int) + 1 := by rw [IntKind.wrap_i64]; omega
      have hkd : decide ((k : Int) < ((q : Nat) : Int)) = true := decide_eq_true (by omega)
      have hx0 := hFk.cell hY hYD (hds (0 + k) (by omega))
      obtain ⟨x, hx⟩ : ∃ x, ds.getD (0 + k) 0 = x := ⟨_, rfl⟩
      rw [hx] at hx0
      simp only [byv] at hx0
      replace hx := Lib.hid hx
      simp only [Nat.zero_add] at hx0 hx
      have hoff : IntKind.i64.wrap (k : Int) = (k : Int) := by rw [IntKind.wrap_i64]; omega
      have hbyte : Hid ((#[Value.int .u8 (x.toNat : Int)] : Array Value).toList = bys [x]) := Lib.hid rfl
      go_wp2_with (at_builtin; go_must (refine wpList_append_mine rfl _ _ 36 36 rfl 5 i0 (.int .u8 0) 1 1 Tryz.underlying36 hi.out hz0.out hz1.out hz2.out rfl rfl (hFk.own.alloc _) rfl (Src.ofReads Tryz.underlying36 _ (Reads.lit _ _ _ _ 1 _ hbyte.out rfl) (bys_one _)) ?b1 ?b2 ?grow))
      case b1 => unfold maxLen; omega
      case b2 => omega
      case grow =>
        intro A2 c2 w2 hown hgr hat
        have hF2 := hFk.app (news := [x]) (m := 1) rfl hown hgr hat
        clear hown hgr hat hbyte hFk
        rw [List.append_assoc, show (ds.drop (0)).take (k) ++ [x] = (ds.drop (0)).take (k + 1) from by rw [← take_more _ _ (by rw [List.length_drop]; omega), ← hx.out]; simp [List.getD, List.getElem?_drop, Nat.add_comm]] at hF2
        go_wp2_with fail
        go_roundw
        case rel => exact ⟨k + 1, A2, c2, by omega, by rw [Nat.add_assoc], by go_num, by rw [← Nat.add_assoc]; exact hF2⟩
        case measure => simp [RowKit.intOf]; omega
    · obtain rfl : q = k := by omega
      have hF1 := hFk
      clear hFk hF0
      obtain ⟨n1, hn1⟩ : ∃ n, n0 + q = n := ⟨_, rfl⟩
      rw [hn1] at hF1 ⊢
      obtain ⟨S1, hS1⟩ : ∃ S, S0 ++ (ds.drop (0)).take (q) = S := ⟨_, rfl⟩
      rw [hS1] at hF1
      replace hS1 := Lib.hid hS1
      obtain ⟨A1, hA1⟩ : ∃ A, A' = A := ⟨_, rfl⟩
      rw [hA1] at hF1 ⊢
      obtain ⟨c1, hc1⟩ : ∃ c, c' = c := ⟨_, rfl⟩
      rw [hc1] at hF1 ⊢
      go_wp2_with fail
      go_loopw [0, 203] (fun p i wr => p = .slice A1 n1 c1 ∧ i = .int .i64 0 ∧ FAt w D0 wr A1 n1 c1 S1) (fun _ _ _ => 0)
      case atStart => exact ⟨rfl, rfl, hF1⟩
      case round =>
        rename_i hrel
        obtain ⟨rfl, rfl, hFz⟩ := hrel
        clear hF1
        have hF1 := hFz
        clear hFz
        have hbyte1 : Hid ((#[Value.int .u8 46] : Array Value).toList = bys [46]) := Lib.hid rfl
        go_wp2_with (at_builtin; go_must (refine wpList_append_mine rfl _ _ 36 36 rfl 5 i0 (.int .u8 0) 1 1 Tryz.underlying36 hi.out hz0.out hz1.out hz2.out rfl rfl (hF1.own.alloc _) rfl (Src.ofReads Tryz.underlying36 _ (Reads.lit _ _ _ _ 1 _ hbyte1.out rfl) (bys_one _)) ?b1 ?b2 ?grow))
        case b1 => unfold maxLen; omega
        case b2 => omega
        case grow =>
          intro A2 c2 w2 hown hgr hat
          have hF2 := hF1.app (news := [46]) (m := 1) rfl hown hgr hat
          clear hown hgr hat hbyte1 hF1
          obtain ⟨n2, hn2⟩ : ∃ n, n1 + 1 = n := ⟨_, rfl⟩
          rw [hn2] at hF2 ⊢
          obtain ⟨S2, hS2⟩ : ∃ S, S1 ++ [46] = S := ⟨_, rfl⟩
          rw [hS2] at hF2
          replace hS2 := Lib.hid hS2
          go_wp2_with fail
          go_loopw [0, 240] (fun p i wr => p = .slice A2 n2 c2 ∧ i = .int .i64 0 ∧ FAt w D0 wr A2 n2 c2 S2) (fun _ _ _ => 0)
          case atStart => exact ⟨rfl, rfl, hF2⟩
          case round =>
            rename_i hrel
            obtain ⟨rfl, rfl, hFz⟩ := hrel
            clear hF2
            have hF2 := hFz
            clear hFz
            go_wp2_with fail
            go_loopw [0, 247] (fun p i wr => ∃ (k : Nat) (A' : Option Addr) (c' : Nat), k ≤ z ∧ p = .slice A' (n2 + k) c' ∧ i = .int .i64 (k : Int) ∧ FAt w D0 wr A' (n2 + k) c' (S2 ++ (ds.drop (q)).take (k))) (fun _ i _ => z - (RowKit.intOf i).toNat)
            case atStart => exact ⟨0, A2, c2, Nat.zero_le _, rfl, rfl, by simpa using hF2⟩
            case round =>
              rename_i hrel
              obtain ⟨k, A', c', hk, rfl, rfl, hFk⟩ := hrel
              by_cases hlt : k < z
              · have hkw : IntKind.i64.wrap ((k : Int) + 1) = (k : Int) + 1 := by rw [IntKind.wrap_i64]; omega
                have hkd : decide ((k : Int) < ((z : Nat) : Int)) = true := decide_eq_true (by omega)
                have hx0 := hFk.cell hY hYD (hds (q + k) (by omega))
                obtain ⟨x, hx⟩ : ∃ x, ds.getD (q + k) 0 = x := ⟨_, rfl⟩
                rw [hx] at hx0
                simp only [byv] at hx0
                replace hx := Lib.hid hx
                have hoff : IntKind.i64.wrap (((q : Nat) : Int) + (k : Int)) = (((q + k : Nat)) : Int) := by rw [IntKind.wrap_i64]; omega
                have hoffN : (((q + k : Nat)) : Int) = ((q : Nat) : Int) + (k : Int) := by omega
                have hbyte : Hid ((#[Value.int .u8 (x.toNat : Int)] : Array Value).toList = bys [x]) := Lib.hid rfl
                go_wp2_with (at_builtin; go_must (refine wpList_append_mine rfl _ _ 36 36 rfl 5 i0 (.int .u8 0) 1 1 Tryz.underlying36 hi.out hz0.out hz1.out hz2.out rfl rfl (hFk.own.alloc _) rfl (Src.ofReads Tryz.underlying36 _ (Reads.lit _ _ _ _ 1 _ hbyte.out rfl) (bys_one _)) ?b1 ?b2 ?grow))
                case b1 => unfold maxLen; omega
                case b2 => omega
                case grow =>
                  intro A2 c2 w2 hown hgr hat
                  have hF2 := hFk.app (news := [x]) (m := 1) rfl hown hgr hat
                  clear hown hgr hat hbyte hFk
                  rw [List.append_assoc, show (ds.drop (q)).take (k) ++ [x] = (ds.drop (q)).take (k + 1) from by rw [← take_more _ _ (by rw [List.length_drop]; omega), ← hx.out]; simp [List.getD, List.getElem?_drop, Nat.add_comm]] at hF2
                  go_wp2_with fail
                  go_roundw
                  case rel => exact ⟨k + 1, A2, c2, by omega, by rw [Nat.add_assoc], by go_num, by rw [← Nat.add_assoc]; exact hF2⟩
                  case measure => simp [RowKit.intOf]; omega
              · obtain rfl : z = k := by omega
                have hF3 := hFk
                clear hFk hF2
                obtain ⟨n3, hn3⟩ : ∃ n, n2 + z = n := ⟨_, rfl⟩
                rw [hn3] at hF3 ⊢
                obtain ⟨S3, hS3⟩ : ∃ S, S2 ++ (ds.drop (q)).take (z) = S := ⟨_, rfl⟩
                rw [hS3] at hF3
                replace hS3 := Lib.hid hS3
                obtain ⟨A3, hA3⟩ : ∃ A, A' = A := ⟨_, rfl⟩
                rw [hA3] at hF3 ⊢
                obtain ⟨c3, hc3⟩ : ∃ c, c' = c := ⟨_, rfl⟩
                rw [hc3] at hF3 ⊢
                go_wp2_with fail
                go_loopw [0, 261] (fun p i wr => p = .slice A3 n3 c3 ∧ i = .int .i64 0 ∧ FAt w D0 wr A3 n3 c3 S3) (fun _ _ _ => 0)
                case atStart => exact ⟨rfl, rfl, hF3⟩
                case round =>
                  rename_i hrel
                  obtain ⟨rfl, rfl, hFz⟩ := hrel
                  clear hF3
                  have hF3 := hFz
                  clear hFz
                  go_wp2_with fail
                  go_ret
                  have hS : S3 = S0 ++ fmtFL false ds (q : Int) := by
                    rw [← hS3.out, ← hS2.out, ← hS1.out]
                    unfold fmtFL
                    rw [if_pos (show (0 : Int) < (q : Int) by omega), if_neg (show ¬ (ds.length : Int) ≤ (q : Int) by omega), Int.toNat_natCast]
                    simp [List.take_of_length_le, hdl, hz]
                  rw [hS] at hF3
                  exact ⟨A3, n3, c3, rfl, hF3⟩
set_option maxHeartbeats 6400000 in
theorem fmtF_IIn (A0 : Option Addr) (n0 c0 : Nat) (S0 : List UInt8) (Y : Nat) (ds : List UInt8) (nd : Nat) (w : World) (q : Nat) (hq : 0 < q) (hq6 : q ≤ 6) (hnq : q < nd)
    (hF0 : FAt w (bOf A0) w A0 n0 c0 S0) (hn0 : n0 ≤ 1000) (hY : Y < w.heap.size) (hYD : bOf A0 ≠ some Y) (hdn : ds.length = nd) (hn1 : 1 ≤ nd) (hn2 : nd ≤ 20) (hds : ∀ j, j < nd → w.cell? ⟨Y, j, none⟩ = some (byv (ds.getD j 0))) :
    Calls Tryz.prog 97 #[.slice A0 n0 c0, .bool true, .slice (some ⟨Y, 0, none⟩) 32 32, .int .i64 (q : Int), .int .i64 (nd : Int), .int .i64 (nd : Int), .int .u8 103, .bool true] w (fun e w' => ∃ A' n' c', e = .returned (.slice A' n' c') ∧ FAt w (bOf A0) w' A' n' c' (S0 ++ fmtFL true ds (q : Int))) := by
  obtain ⟨i0, hi, hz0, hz1, hz2⟩ := info_parts info_u8
  replace hi := Lib.hid hi
  replace hz0 := Lib.hid hz0
  replace hz1 := Lib.hid hz1
  replace hz2 := Lib.hid hz2
  obtain ⟨D0, hD0⟩ : ∃ D, bOf A0 = D := ⟨_, rfl⟩
  rw [hD0] at hF0 hYD ⊢
  replace hD0 := Lib.hid hD0
  replace hdn := Lib.hid hdn
  have hdl := hdn.out
  replace hds := hds
  have we : IntKind.i64.wrap ((q : Int) - 1) = (q : Int) - 1 := by rw [IntKind.wrap_i64]; omega
  have e1 : decide ((q : Int) - 1 < -4) = false := decide_eq_false (by omega)
  have e2 : decide ((6 : Int) ≤ (q : Int) - 1) = false := decide_eq_false (by omega)
  obtain ⟨z, hz⟩ : ∃ z, nd - q = z := ⟨_, rfl⟩
  have hmin : min (nd : Int) (q : Int) = (q : Int) := by omega
  have hmax : max (z : Int) 0 = (z : Int) := by omega
  have zpos : decide ((0 : Int) < (z : Int)) = true := decide_eq_true (by omega)
  have zpos' : decide (0 < z) = true := decide_eq_true (by omega)
  have m1 : max (0 : Int) (-(q : Int)) = 0 := by omega
  have m2 : min (z : Int) 0 = 0 := by omega
  have m3 : max (0 : Int) (z : Int) = (z : Int) := by omega
  have wzz : IntKind.i64.wrap (z : Int) = (z : Int) := by rw [IntKind.wrap_i64]; omega
  have wq : IntKind.i64.wrap (q : Int) = (q : Int) := by rw [IntKind.wrap_i64]; omega
  have wnq : IntKind.i64.wrap (-(q : Int)) = -(q : Int) := by rw [IntKind.wrap_i64]; omega
  have qpos : decide (0 < q) = true := decide_eq_true (by omega)
  have wz : IntKind.i64.wrap ((nd : Int) - (q : Int)) = (z : Int) := by rw [IntKind.wrap_i64]; omega
  have e3 : decide ((q : Int) < (nd : Int)) = true := decide_eq_true (by omega)
  have e4 : decide (q < nd) = true := decide_eq_true (by omega)
  go_enter Tryz.func97, Tryz.ntmps97
  have hbyte0 : Hid ((#[Value.int .u8 45] : Array Value).toList = bys [45]) := Lib.hid rfl
  go_wp2_with (at_builtin; go_must (refine wpList_append_mine rfl _ _ 36 36 rfl 5 i0 (.int .u8 0) 1 1 Tryz.underlying36 hi.out hz0.out hz1.out hz2.out rfl rfl (hF0.own.alloc _) rfl (Src.ofReads Tryz.underlying36 _ (Reads.lit _ _ _ _ 1 _ hbyte0.out rfl) (bys_one _)) ?b1 ?b2 ?grow))
  case b1 => unfold maxLen; omega
  case b2 => omega
  case grow =>
    intro A1 c1 w1 hown hgr hat
    have hF1 := hF0.app (news := [45]) (m := 1) rfl hown hgr hat
    clear hown hgr hat hbyte0 hF0
    obtain ⟨n1, hn1⟩ : ∃ n, n0 + 1 = n := ⟨_, rfl⟩
    rw [hn1] at hF1 ⊢
    obtain ⟨S1, hS1⟩ : ∃ S, S0 ++ [45] = S := ⟨_, rfl⟩
    rw [hS1] at hF1
    replace hS1 := Lib.hid hS1
    go_wp2_with fail
    go_loopw [0, 191] (fun p i wr => ∃ (k : Nat) (A' : Option Addr) (c' : Nat), k ≤ q ∧ p = .slice A' (n1 + k) c' ∧ i = .int .i64 (k : Int) ∧ FAt w D0 wr A' (n1 + k) c' (S1 ++ (ds.drop (0)).take (k))) (fun _ i _ => q - (RowKit.intOf i).toNat)
    case atStart => exact ⟨0, A1, c1, Nat.zero_le _, rfl, rfl, by simpa using hF1⟩
    case round =>
      rename_i hrel
      obtain ⟨k, A', c', hk, rfl, rfl, hFk⟩ := hrel
      by_cases hlt : k < q
      · have hkw : IntKind.i64.wrap ((k : Int) + 1) = (k : Int) + 1 := by rw [IntKind.wrap_i64]; omega
        have hkd : decide ((k : Int) < ((q : Nat) : Int)) = true := decide_eq_true (by omega)
        have hx0 := hFk.cell hY hYD (hds (0 + k) (by omega))
        obtain ⟨x, hx⟩ : ∃ x, ds.getD (0 + k) 0 = x := ⟨_, rfl⟩
        rw [hx] at hx0
        simp only [byv] at hx0
        replace hx := Lib.hid hx
        simp only [Nat.zero_add] at hx0 hx
        have hoff : IntKind.i64.wrap (k : Int) = (k : Int) := by rw [IntKind.wrap_i64]; omega
        have hbyte : Hid ((#[Value.int .u8 (x.toNat : Int)] : Array Value).toList = bys [x]) := Lib.hid rfl
        go_wp2_with (at_builtin; go_must (refine wpList_append_mine rfl _ _ 36 36 rfl 5 i0 (.int .u8 0) 1 1 Tryz.underlying36 hi.out hz0.out hz1.out hz2.out rfl rfl (hFk.own.alloc _) rfl (Src.ofReads Tryz.underlying36 _ (Reads.lit _ _ _ _ 1 _ hbyte.out rfl) (bys_one _)) ?b1 ?b2 ?grow))
        case b1 => unfold maxLen; omega
        case b2 => omega
        case grow =>
          intro A2 c2 w2 hown hgr hat
          have hF2 := hFk.app (news := [x]) (m := 1) rfl hown hgr hat
          clear hown hgr hat hbyte hFk
          rw [List.append_assoc, show (ds.drop (0)).take (k) ++ [x] = (ds.drop (0)).take (k + 1) from by rw [← take_more _ _ (by rw [List.length_drop]; omega), ← hx.out]; simp [List.getD, List.getElem?_drop, Nat.add_comm]] at hF2
          go_wp2_with fail
          go_roundw
          case rel => exact ⟨k + 1, A2, c2, by omega, by rw [Nat.add_assoc], by go_num, by rw [← Nat.add_assoc]; exact hF2⟩
          case measure => simp [RowKit.intOf]; omega
      · obtain rfl : q = k := by omega
        have hF2 := hFk
        clear hFk hF1
        obtain ⟨n2, hn2⟩ : ∃ n, n1 + q = n := ⟨_, rfl⟩
        rw [hn2] at hF2 ⊢
        obtain ⟨S2, hS2⟩ : ∃ S, S1 ++ (ds.drop (0)).take (q) = S := ⟨_, rfl⟩
        rw [hS2] at hF2
        replace hS2 := Lib.hid hS2
        obtain ⟨A2, hA2⟩ : ∃ A, A' = A := ⟨_, rfl⟩
        rw [hA2] at hF2 ⊢
        obtain ⟨c2, hc2⟩ : ∃ c, c' = c := ⟨_, rfl⟩
        rw [hc2] at hF2 ⊢
        go_wp2_with fail
        go_loopw [0, 203] (fun p i wr => p = .slice A2 n2 c2 ∧ i = .int .i64 0 ∧ FAt w D0 wr A2 n2 c2 S2) (fun _ _ _ => 0)
        case atStart => exact ⟨rfl, rfl, hF2⟩
        case round =>
          rename_i hrel
          obtain ⟨rfl, rfl, hFz⟩ := hrel
          clear hF2
          have hF2 := hFz
          clear hFz
          have hbyte2 : Hid ((#[Value.int .u8 46] : Array Value).toList = bys [46]) := Lib.hid rfl
          go_wp2_with (at_builtin; go_must (refine wpList_append_mine rfl _ _ 36 36 rfl 5 i0 (.int .u8 0) 1 1 Tryz.underlying36 hi.out hz0.out hz1.out hz2.out rfl rfl (hF2.own.alloc _) rfl (Src.ofReads Tryz.underlying36 _ (Reads.lit _ _ _ _ 1 _ hbyte2.out rfl) (bys_one _)) ?b1 ?b2 ?grow))
          case b1 => unfold maxLen; omega
          case b2 => omega
          case grow =>
            intro A3 c3 w3 hown hgr hat
            have hF3 := hF2.app (news := [46]) (m := 1) rfl hown hgr hat
            clear hown hgr hat hbyte2 hF2
            obtain ⟨n3, hn3⟩ : ∃ n, n2 + 1 = n := ⟨_, rfl⟩
            rw [hn3] at hF3 ⊢
            obtain ⟨S3, hS3⟩ : ∃ S, S2 ++ [46] = S := ⟨_, rfl⟩
            rw [hS3] at hF3
            replace hS3 := Lib.hid hS3
            go_wp2_with fail
            go_loopw [0, 240] (fun p i wr => p = .slice A3 n3 c3 ∧ i = .int .i64 0 ∧ FAt w D0 wr A3 n3 c3 S3) (fun _ _ _ => 0)
            case atStart => exact ⟨rfl, rfl, hF3⟩
            case round =>
              rename_i hrel
              obtain ⟨rfl, rfl, hFz⟩ := hrel
              clear hF3
              have hF3 := hFz
              clear hFz
              go_wp2_with fail
              go_loopw [0, 247] (fun p i wr => ∃ (k : Nat) (A' : Option Addr) (c' : Nat), k ≤ z ∧ p = .slice A' (n3 + k) c' ∧ i = .int .i64 (k : Int) ∧ FAt w D0 wr A' (n3 + k) c' (S3 ++ (ds.drop (q)).take (k))) (fun _ i _ => z - (RowKit.intOf i).toNat)
              case atStart => exact ⟨0, A3, c3, Nat.zero_le _, rfl, rfl, by simpa using hF3⟩
              case round =>
                rename_i hrel
                obtain ⟨k, A', c', hk, rfl, rfl, hFk⟩ := hrel
                by_cases hlt : k < z
                · have hkw : IntKind.i64.wrap ((k : Int) + 1) = (k : Int) + 1 := by rw [IntKind.wrap_i64]; omega
                  have hkd : decide ((k : Int) < ((z : Nat) : Int)) = true := decide_eq_true (by omega)
                  have hx0 := hFk.cell hY hYD (hds (q + k) (by omega))
                  obtain ⟨x, hx⟩ : ∃ x, ds.getD (q + k) 0 = x := ⟨_, rfl⟩
                  rw [hx] at hx0
                  simp only [byv] at hx0
                  replace hx := Lib.hid hx
                  have hoff : IntKind.i64.wrap (((q : Nat) : Int) + (k : Int)) = (((q + k : Nat)) : Int) := by rw [IntKind.wrap_i64]; omega
                  have hoffN : (((q + k : Nat)) : Int) = ((q : Nat) : Int) + (k : Int) := by omega
                  have hbyte : Hid ((#[Value.int .u8 (x.toNat : Int)] : Array Value).toList = bys [x]) := Lib.hid rfl
                  go_wp2_with (at_builtin; go_must (refine wpList_append_mine rfl _ _ 36 36 rfl 5 i0 (.int .u8 0) 1 1 Tryz.underlying36 hi.out hz0.out hz1.out hz2.out rfl rfl (hFk.own.alloc _) rfl (Src.ofReads Tryz.underlying36 _ (Reads.lit _ _ _ _ 1 _ hbyte.out rfl) (bys_one _)) ?b1 ?b2 ?grow))
                  case b1 => unfold maxLen; omega
                  case b2 => omega
                  case grow =>
                    intro A2 c2 w2 hown hgr hat
                    have hF2 := hFk.app (news := [x]) (m := 1) rfl hown hgr hat
                    clear hown hgr hat hbyte hFk
                    rw [List.append_assoc, show (ds.drop (q)).take (k) ++ [x] = (ds.drop (q)).take (k + 1) from by rw [← take_more _ _ (by rw [List.length_drop]; omega), ← hx.out]; simp [List.getD, List.getElem?_drop, Nat.add_comm]] at hF2
                    go_wp2_with fail
                    go_roundw
                    case rel => exact ⟨k + 1, A2, c2, by omega, by rw [Nat.add_assoc], by go_num, by rw [← Nat.add_assoc]; exact hF2⟩
                    case measure => simp [RowKit.intOf]; omega
                · obtain rfl : z = k := by omega
                  have hF4 := hFk
                  clear hFk hF3
                  obtain ⟨n4, hn4⟩ : ∃ n, n3 + z = n := ⟨_, rfl⟩
                  rw [hn4] at hF4 ⊢
                  obtain ⟨S4, hS4⟩ : ∃ S, S3 ++ (ds.drop (q)).take (z) = S := ⟨_, rfl⟩
                  rw [hS4] at hF4
                  replace hS4 := Lib.hid hS4
                  obtain ⟨A4, hA4⟩ : ∃ A, A' = A := ⟨_, rfl⟩
                  rw [hA4] at hF4 ⊢
                  obtain ⟨c4, hc4⟩ : ∃ c, c' = c := ⟨_, rfl⟩
                  rw [hc4] at hF4 ⊢
                  go_wp2_with fail
                  go_loopw [0, 261] (fun p i wr => p = .slice A4 n4 c4 ∧ i = .int .i64 0 ∧ FAt w D0 wr A4 n4 c4 S4) (fun _ _ _ => 0)
                  case atStart => exact ⟨rfl, rfl, hF4⟩
                  case round =>
                    rename_i hrel
                    obtain ⟨rfl, rfl, hFz⟩ := hrel
                    clear hF4
                    have hF4 := hFz
                    clear hFz
                    go_wp2_with fail
                    go_ret
                    have hS : S4 = S0 ++ fmtFL true ds (q : Int) := by
                      rw [← hS4.out, ← hS3.out, ← hS2.out, ← hS1.out]
                      unfold fmtFL
                      rw [if_pos (show (0 : Int) < (q : Int) by omega), if_neg (show ¬ (ds.length : Int) ≤ (q : Int) by omega), Int.toNat_natCast]
                      simp [List.take_of_length_le, hdl, hz]
                    rw [hS] at hF4
                    exact ⟨A4, n4, c4, rfl, hF4⟩
set_option maxHeartbeats 6400000 in
theorem fmtF_III (A0 : Option Addr) (n0 c0 : Nat) (S0 : List UInt8) (Y : Nat) (ds : List UInt8) (nd : Nat) (w : World) (q : Nat) (hq6 : q ≤ 3)
    (hF0 : FAt w (bOf A0) w A0 n0 c0 S0) (hn0 : n0 ≤ 1000) (hY : Y < w.heap.size) (hYD : bOf A0 ≠ some Y) (hdn : ds.length = nd) (hn1 : 1 ≤ nd) (hn2 : nd ≤ 20) (hds : ∀ j, j < nd → w.cell? ⟨Y, j, none⟩ = some (byv (ds.getD j 0))) :
    Calls Tryz.prog 97 #[.slice A0 n0 c0, .bool false, .slice (some ⟨Y, 0, none⟩) 32 32, .int .i64 (-(q : Int)), .int .i64 (nd : Int), .int .i64 (nd : Int), .int .u8 103, .bool true] w (fun e w' => ∃ A' n' c', e = .returned (.slice A' n' c') ∧ FAt w (bOf A0) w' A' n' c' (S0 ++ fmtFL false ds (-(q : Int)))) := by
  obtain ⟨i0, hi, hz0, hz1, hz2⟩ := info_parts info_u8
  replace hi := Lib.hid hi
  replace hz0 := Lib.hid hz0
  replace hz1 := Lib.hid hz1
  replace hz2 := Lib.hid hz2
  obtain ⟨D0, hD0⟩ : ∃ D, bOf A0 = D := ⟨_, rfl⟩
  rw [hD0] at hF0 hYD ⊢
  replace hD0 := Lib.hid hD0
  replace hdn := Lib.hid hdn
  have hdl := hdn.out
  replace hds := hds
  have we : IntKind.i64.wrap (-(q : Int) - 1) = -(q : Int) - 1 := by rw [IntKind.wrap_i64]; omega
  have e1 : decide (-(q : Int) - 1 < -4) = false := decide_eq_false (by omega)
  have e2 : decide ((6 : Int) ≤ -(q : Int) - 1) = false := decide_eq_false (by omega)
  have e3 : decide (-(q : Int) < (nd : Int)) = true := decide_eq_true (by omega)
  obtain ⟨z, hz⟩ : ∃ z, nd + q = z := ⟨_, rfl⟩
  have wp : IntKind.i64.wrap ((nd : Int) - -(q : Int)) = (z : Int) := by rw [IntKind.wrap_i64]; omega
  have wp2 : IntKind.i64.wrap ((nd : Int) + (q : Int)) = (z : Int) := by rw [IntKind.wrap_i64]; omega
  have hmax : max (z : Int) 0 = (z : Int) := by omega
  have zpos : decide ((0 : Int) < (z : Int)) = true := decide_eq_true (by omega)
  have zpos' : decide (0 < z) = true := decide_eq_true (by omega)
  have e5 : decide ((0 : Int) < -(q : Int)) = false := decide_eq_false (by omega)
  have m1 : max (0 : Int) (q : Int) = (q : Int) := by omega
  have m2 : min (z : Int) (q : Int) = (q : Int) := by omega
  have m3 : max (0 : Int) (nd : Int) = (nd : Int) := by omega
  have wq : IntKind.i64.wrap (q : Int) = (q : Int) := by rw [IntKind.wrap_i64]; omega
  have wqq : IntKind.i64.wrap (- -(q : Int)) = (q : Int) := by rw [IntKind.wrap_i64]; omega
  have wo : IntKind.i64.wrap (-(q : Int) + (q : Int)) = 0 := by rw [IntKind.wrap_i64]; omega
  have wzq : IntKind.i64.wrap ((z : Int) - (q : Int)) = (nd : Int) := by rw [IntKind.wrap_i64]; omega
  have wnd : IntKind.i64.wrap (nd : Int) = (nd : Int) := by rw [IntKind.wrap_i64]; omega
  have npos : decide ((nd : Int) = 0) = false := decide_eq_false (by omega)
  go_enter Tryz.func97, Tryz.ntmps97
  have hbyte0 : Hid ((#[Value.int .u8 48] : Array Value).toList = bys [48]) := Lib.hid rfl
  go_wp2_with (at_builtin; go_must (refine wpList_append_mine rfl _ _ 36 36 rfl 5 i0 (.int .u8 0) 1 1 Tryz.underlying36 hi.out hz0.out hz1.out hz2.out rfl rfl (hF0.own.alloc _) rfl (Src.ofReads Tryz.underlying36 _ (Reads.lit _ _ _ _ 1 _ hbyte0.out rfl) (bys_one _)) ?b1 ?b2 ?grow))
  case b1 => unfold maxLen; omega
  case b2 => omega
  case grow =>
    intro A1 c1 w1 hown hgr hat
    have hF1 := hF0.app (news := [48]) (m := 1) rfl hown hgr hat
    clear hown hgr hat hbyte0 hF0
    obtain ⟨n1, hn1⟩ : ∃ n, n0 + 1 = n := ⟨_, rfl⟩
    rw [hn1] at hF1 ⊢
    obtain ⟨S1, hS1⟩ : ∃ S, S0 ++ [48] = S := ⟨_, rfl⟩
    rw [hS1] at hF1
    replace hS1 := Lib.hid hS1
    have hbyte1 : Hid ((#[Value.int .u8 46] : Array Value).toList = bys [46]) := Lib.hid rfl
    go_wp2_with (at_builtin; go_must (refine wpList_append_mine rfl _ _ 36 36 rfl 5 i0 (.int .u8 0) 1 1 Tryz.underlying36 hi.out hz0.out hz1.out hz2.out rfl rfl (hF1.own.alloc _) rfl (Src.ofReads Tryz.underlying36 _ (Reads.lit _ _ _ _ 1 _ hbyte1.out rfl) (bys_one _)) ?b1 ?b2 ?grow))
    case b1 => unfold maxLen; omega
    case b2 => omega
    case grow =>
      intro A2 c2 w2 hown hgr hat
      have hF2 := hF1.app (news := [46]) (m := 1) rfl hown hgr hat
      clear hown hgr hat hbyte1 hF1
      obtain ⟨n2, hn2⟩ : ∃ n, n1 + 1 = n := ⟨_, rfl⟩
      rw [hn2] at hF2 ⊢
      obtain ⟨S2, hS2⟩ : ∃ S, S1 ++ [46] = S := ⟨_, rfl⟩
      rw [hS2] at hF2
      replace hS2 := Lib.hid hS2
      go_wp2_with fail
      go_loopw [0, 240] (fun p i wr => ∃ (k : Nat) (A' : Option Addr) (c' : Nat), k ≤ q ∧ p = .slice A' (n2 + k) c' ∧ i = .int .i64 (k : Int) ∧ FAt w D0 wr A' (n2 + k) c' (S2 ++ List.replicate (k) 48)) (fun _ i _ => q - (RowKit.intOf i).toNat)
      case atStart => exact ⟨0, A2, c2, Nat.zero_le _, rfl, rfl, by simpa using hF2⟩
      case round =>
        rename_i hrel
        obtain ⟨k, A', c', hk, rfl, rfl, hFk⟩ := hrel
        by_cases hlt : k < q
        · have hkw : IntKind.i64.wrap ((k : Int) + 1) = (k : Int) + 1 := by rw [IntKind.wrap_i64]; omega
          have hkd : decide ((k : Int) < ((q : Nat) : Int)) = true := decide_eq_true (by omega)
          have hbyte : Hid ((#[Value.int .u8 48] : Array Value).toList = bys [48]) := Lib.hid rfl
          go_wp2_with (at_builtin; go_must (refine wpList_append_mine rfl _ _ 36 36 rfl 5 i0 (.int .u8 0) 1 1 Tryz.underlying36 hi.out hz0.out hz1.out hz2.out rfl rfl (hFk.own.alloc _) rfl (Src.ofReads Tryz.underlying36 _ (Reads.lit _ _ _ _ 1 _ hbyte.out rfl) (bys_one _)) ?b1 ?b2 ?grow))
          case b1 => unfold maxLen; omega
          case b2 => omega
          case grow =>
            intro A2 c2 w2 hown hgr hat
            have hF2 := hFk.app (news := [48]) (m := 1) rfl hown hgr hat
            clear hown hgr hat hbyte hFk
            rw [List.append_assoc, repl_more] at hF2
            go_wp2_with fail
            go_roundw
            case rel => exact ⟨k + 1, A2, c2, by omega, by rw [Nat.add_assoc], by go_num, by rw [← Nat.add_assoc]; exact hF2⟩
            case measure => simp [RowKit.intOf]; omega
        · obtain rfl : q = k := by omega
          have hF3 := hFk
          clear hFk hF2
          obtain ⟨n3, hn3⟩ : ∃ n, n2 + q = n := ⟨_, rfl⟩
          rw [hn3] at hF3 ⊢
          obtain ⟨S3, hS3⟩ : ∃ S, S2 ++ List.replicate (q) 48 = S := ⟨_, rfl⟩
          rw [hS3] at hF3
          replace hS3 := Lib.hid hS3
          obtain ⟨A3, hA3⟩ : ∃ A, A' = A := ⟨_, rfl⟩
          rw [hA3] at hF3 ⊢
          obtain ⟨c3, hc3⟩ : ∃ c, c' = c := ⟨_, rfl⟩
          rw [hc3] at hF3 ⊢
          go_wp2_with fail
          go_loopw [0, 247] (fun p i wr => ∃ (k : Nat) (A' : Option Addr) (c' : Nat), k ≤ nd ∧ p = .slice A' (n3 + k) c' ∧ i = .int .i64 (k : Int) ∧ FAt w D0 wr A' (n3 + k) c' (S3 ++ (ds.drop (0)).take (k))) (fun _ i _ => nd - (RowKit.intOf i).toNat)
          case atStart => exact ⟨0, A3, c3, Nat.zero_le _, rfl, rfl, by simpa using hF3⟩
          case round =>
            rename_i hrel
            obtain ⟨k, A', c', hk, rfl, rfl, hFk⟩ := hrel
            by_cases hlt : k < nd
            · have hkw : IntKind.i64.wrap ((k : Int) + 1) = (k : Int) + 1 := by rw [IntKind.wrap_i64]; omega
              have hkd : decide ((k : Int) < ((nd : Nat) : Int)) = true := decide_eq_true (by omega)
              have hx0 := hFk.cell hY hYD (hds (0 + k) (by omega))
              obtain ⟨x, hx⟩ : ∃ x, ds.getD (0 + k) 0 = x := ⟨_, rfl⟩
              rw [hx] at hx0
              simp only [byv] at hx0
              replace hx := Lib.hid hx
              simp only [Nat.zero_add] at hx0 hx
              have hoff : IntKind.i64.wrap (k : Int) = (k : Int) := by rw [IntKind.wrap_i64]; omega
              have hbyte : Hid ((#[Value.int .u8 (x.toNat : Int)] : Array Value).toList = bys [x]) := Lib.hid rfl
              go_wp2_with (at_builtin; go_must (refine wpList_append_mine rfl _ _ 36 36 rfl 5 i0 (.int .u8 0) 1 1 Tryz.underlying36 hi.out hz0.out hz1.out hz2.out rfl rfl (hFk.own.alloc _) rfl (Src.ofReads Tryz.underlying36 _ (Reads.lit _ _ _ _ 1 _ hbyte.out rfl) (bys_one _)) ?b1 ?b2 ?grow))
              case b1 => unfold maxLen; omega
              case b2 => omega
              case grow =>
                intro A2 c2 w2 hown hgr hat
                have hF2 := hFk.app (news := [x]) (m := 1) rfl hown hgr hat
                clear hown hgr hat hbyte hFk
                rw [List.append_assoc, show (ds.drop (0)).take (k) ++ [x] = (ds.drop (0)).take (k + 1) from by rw [← take_more _ _ (by rw [List.length_drop]; omega), ← hx.out]; simp [List.getD, List.getElem?_drop, Nat.add_comm]] at hF2
                go_wp2_with fail
                go_roundw
                case rel => exact ⟨k + 1, A2, c2, by omega, by rw [Nat.add_assoc], by go_num, by rw [← Nat.add_assoc]; exact hF2⟩
                case measure => simp [RowKit.intOf]; omega
            · obtain rfl : nd = k := by omega
              have hF4 := hFk
              clear hFk hF3
              obtain ⟨n4, hn4⟩ : ∃ n, n3 + nd = n := ⟨_, rfl⟩
              rw [hn4] at hF4 ⊢
              obtain ⟨S4, hS4⟩ : ∃ S, S3 ++ (ds.drop (0)).take (nd) = S := ⟨_, rfl⟩
              rw [hS4] at hF4
              replace hS4 := Lib.hid hS4
              obtain ⟨A4, hA4⟩ : ∃ A, A' = A := ⟨_, rfl⟩
              rw [hA4] at hF4 ⊢
              obtain ⟨c4, hc4⟩ : ∃ c, c' = c := ⟨_, rfl⟩
              rw [hc4] at hF4 ⊢
              go_wp2_with fail
              go_loopw [0, 261] (fun p i wr => p = .slice A4 n4 c4 ∧ i = .int .i64 0 ∧ FAt w D0 wr A4 n4 c4 S4) (fun _ _ _ => 0)
              case atStart => exact ⟨rfl, rfl, hF4⟩
              case round =>
                rename_i hrel
                obtain ⟨rfl, rfl, hFz⟩ := hrel
                clear hF4
                have hF4 := hFz
                clear hFz
                go_wp2_with fail
                go_ret
                have hS : S4 = S0 ++ fmtFL false ds (-(q : Int)) := by
                  rw [← hS4.out, ← hS3.out, ← hS2.out, ← hS1.out]
                  unfold fmtFL
                  rw [if_neg (show ¬ (0 : Int) < -(q : Int) by omega), show (-(-(q : Int))).toNat = q by omega]
                  simp [List.take_of_length_le, hdl]
                rw [hS] at hF4
                exact ⟨A4, n4, c4, rfl, hF4⟩
set_option maxHeartbeats 6400000 in
theorem fmtF_IIIn (A0 : Option Addr) (n0 c0 : Nat) (S0 : List UInt8) (Y : Nat) (ds : List UInt8) (nd : Nat) (w : World) (q : Nat) (hq6 : q ≤ 3)
    (hF0 : FAt w (bOf A0) w A0 n0 c0 S0) (hn0 : n0 ≤ 1000) (hY : Y < w.heap.size) (hYD : bOf A0 ≠ some Y) (hdn : ds.length = nd) (hn1 : 1 ≤ nd) (hn2 : nd ≤ 20) (hds : ∀ j, j < nd → w.cell? ⟨Y, j, none⟩ = some (byv (ds.getD j 0))) :
    Calls Tryz.prog 97 #[.slice A0 n0 c0, .bool true, .slice (some ⟨Y, 0, none⟩) 32 32, .int .i64 (-(q : Int)), .int .i64 (nd : Int), .int .i64 (nd : Int), .int .u8 103, .bool true] w (fun e w' => ∃ A' n' c', e = .returned (.slice A' n' c') ∧ FAt w (bOf A0) w' A' n' c' (S0 ++ fmtFL true ds (-(q : Int)))) := by
  obtain ⟨i0, hi, hz0, hz1, hz2⟩ := info_parts info_u8
  replace hi := Lib.hid hi
  replace hz0 := Lib.hid hz0
  replace hz1 := Lib.hid hz1
  replace hz2 := Lib.hid hz2
  obtain ⟨D0, hD0⟩ : ∃ D, bOf A0 = D := ⟨_, rfl⟩
  rw [hD0] at hF0 hYD ⊢
  replace hD0 := Lib.hid hD0
  replace hdn := Lib.hid hdn
  have hdl := hdn.out
  replace hds := hds
  have we : IntKind.i64.wrap (-(q : Int) - 1) = -(q : Int) - 1 := by rw [IntKind.wrap_i64]; omega
  have e1 : decide (-(q : Int) - 1 < -4) = false := decide_eq_false (by omega)
  have e2 : decide ((6 : Int) ≤ -(q : Int) - 1) = false := decide_eq_false (by omega)
  have e3 : decide (-(q : Int) < (nd : Int)) = true := decide_eq_true (by omega)
  obtain ⟨z, hz⟩ : ∃ z, nd + q = z := ⟨_, rfl⟩
  have wp : IntKind.i64.wrap ((nd : Int) - -(q : Int)) = (z : Int) := by rw [IntKind.wrap_i64]; omega
  have wp2 : IntKind.i64.wrap ((nd : Int) + (q : Int)) = (z : Int) := by rw [IntKind.wrap_i64]; omega
  have hmax : max (z : Int) 0 = (z : Int) := by omega
  have zpos : decide ((0 : Int) < (z : Int)) = true := decide_eq_true (by omega)
  have zpos' : decide (0 < z) = true := decide_eq_true (by omega)
  have e5 : decide ((0 : Int) < -(q : Int)) = false := decide_eq_false (by omega)
  have m1 : max (0 : Int) (q : Int) = (q : Int) := by omega
  have m2 : min (z : Int) (q : Int) = (q : Int) := by omega
  have m3 : max (0 : Int) (nd : Int) = (nd : Int) := by omega
  have wq : IntKind.i64.wrap (q : Int) = (q : Int) := by rw [IntKind.wrap_i64]; omega
  have wqq : IntKind.i64.wrap (- -(q : Int)) = (q : Int) := by rw [IntKind.wrap_i64]; omega
  have wo : IntKind.i64.wrap (-(q : Int) + (q : Int)) = 0 := by rw [IntKind.wrap_i64]; omega
  have wzq : IntKind.i64.wrap ((z : Int) - (q : Int)) = (nd : Int) := by rw [IntKind.wrap_i64]; omega
  have wnd : IntKind.i64.wrap (nd : Int) = (nd : Int) := by rw [IntKind.wrap_i64]; omega
  have npos : decide ((nd : Int) = 0) = false := decide_eq_false (by omega)
  go_enter Tryz.func97, Tryz.ntmps97
  have hbyte0 : Hid ((#[Value.int .u8 45] : Array Value).toList = bys [45]) := Lib.hid rfl
  go_wp2_with (at_builtin; go_must (refine wpList_append_mine rfl _ _ 36 36 rfl 5 i0 (.int .u8 0) 1 1 Tryz.underlying36 hi.out hz0.out hz1.out hz2.out rfl rfl (hF0.own.alloc _) rfl (Src.ofReads Tryz.underlying36 _ (Reads.lit _ _ _ _ 1 _ hbyte0.out rfl) (bys_one _)) ?b1 ?b2 ?grow))
  case b1 => unfold maxLen; omega
  case b2 => omega
  case grow =>
    intro A1 c1 w1 hown hgr hat
    have hF1 := hF0.app (news := [45]) (m := 1) rfl hown hgr hat
    clear hown hgr hat hbyte0 hF0
    obtain ⟨n1, hn1⟩ : ∃ n, n0 + 1 = n := ⟨_, rfl⟩
    rw [hn1] at hF1 ⊢
    obtain ⟨S1, hS1⟩ : ∃ S, S0 ++ [45] = S := ⟨_, rfl⟩
    rw [hS1] at hF1
    replace hS1 := Lib.hid hS1
    have hbyte1 : Hid ((#[Value.int .u8 48] : Array Value).toList = bys [48]) := Lib.hid rfl
    go_wp2_with (at_builtin; go_must (refine wpList_append_mine rfl _ _ 36 36 rfl 5 i0 (.int .u8 0) 1 1 Tryz.underlying36 hi.out hz0.out hz1.out hz2.out rfl rfl (hF1.own.alloc _) rfl (Src.ofReads Tryz.underlying36 _ (Reads.lit _ _ _ _ 1 _ hbyte1.out rfl) (bys_one _)) ?b1 ?b2 ?grow))
    case b1 => unfold maxLen; omega
    case b2 => omega
    case grow =>
      intro A2 c2 w2 hown hgr hat
      have hF2 := hF1.app (news := [48]) (m := 1) rfl hown hgr hat
      clear hown hgr hat hbyte1 hF1
      obtain ⟨n2, hn2⟩ : ∃ n, n1 + 1 = n := ⟨_, rfl⟩
      rw [hn2] at hF2 ⊢
      obtain ⟨S2, hS2⟩ : ∃ S, S1 ++ [48] = S := ⟨_, rfl⟩
      rw [hS2] at hF2
      replace hS2 := Lib.hid hS2
      have hbyte2 : Hid ((#[Value.int .u8 46] : Array Value).toList = bys [46]) := Lib.hid rfl
      go_wp2_with (at_builtin; go_must (refine wpList_append_mine rfl _ _ 36 36 rfl 5 i0 (.int .u8 0) 1 1 Tryz.underlying36 hi.out hz0.out hz1.out hz2.out rfl rfl (hF2.own.alloc _) rfl (Src.ofReads Tryz.underlying36 _ (Reads.lit _ _ _ _ 1 _ hbyte2.out rfl) (bys_one _)) ?b1 ?b2 ?grow))
      case b1 => unfold maxLen; omega
      case b2 => omega
      case grow =>
        intro A3 c3 w3 hown hgr hat
        have hF3 := hF2.app (news := [46]) (m := 1) rfl hown hgr hat
        clear hown hgr hat hbyte2 hF2
        obtain ⟨n3, hn3⟩ : ∃ n, n2 + 1 = n := ⟨_, rfl⟩
        rw [hn3] at hF3 ⊢
        obtain ⟨S3, hS3⟩ : ∃ S, S2 ++ [46] = S := ⟨_, rfl⟩
        rw [hS3] at hF3
        replace hS3 := Lib.hid hS3
        go_wp2_with fail
        go_loopw [0, 240] (fun p i wr => ∃ (k : Nat) (A' : Option Addr) (c' : Nat), k ≤ q ∧ p = .slice A' (n3 + k) c' ∧ i = .int .i64 (k : Int) ∧ FAt w D0 wr A' (n3 + k) c' (S3 ++ List.replicate (k) 48)) (fun _ i _ => q - (RowKit.intOf i).toNat)
        case atStart => exact ⟨0, A3, c3, Nat.zero_le _, rfl, rfl, by simpa using hF3⟩
        case round =>
          rename_i hrel
          obtain ⟨k, A', c', hk, rfl, rfl, hFk⟩ := hrel
          by_cases hlt : k < q
          · have hkw : IntKind.i64.wrap ((k : Int) + 1) = (k : Int) + 1 := by rw [IntKind.wrap_i64]; omega
            have hkd : decide ((k : Int) < ((q : Nat) : Int)) = true := decide_eq_true (by omega)
            have hbyte : Hid ((#[Value.int .u8 48] : Array Value).toList = bys [48]) := Lib.hid rfl
            go_wp2_with (at_builtin; go_must (refine wpList_append_mine rfl _ _ 36 36 rfl 5 i0 (.int .u8 0) 1 1 Tryz.underlying36 hi.out hz0.out hz1.out hz2.out rfl rfl (hFk.own.alloc _) rfl (Src.ofReads Tryz.underlying36 _ (Reads.lit _ _ _ _ 1 _ hbyte.out rfl) (bys_one _)) ?b1 ?b2 ?grow))
            case b1 => unfold maxLen; omega
            case b2 => omega
            case grow =>
              intro A2 c2 w2 hown hgr hat
              have hF2 := hFk.app (news := [48]) (m := 1) rfl hown hgr hat
              clear hown hgr hat hbyte hFk
              rw [List.append_assoc, repl_more] at hF2
              go_wp2_with fail
              go_roundw
              case rel => exact ⟨k + 1, A2, c2, by omega, by rw [Nat.add_assoc], by go_num, by rw [← Nat.add_assoc]; exact hF2⟩
              case measure => simp [RowKit.intOf]; omega
          · obtain rfl : q = k := by omega
            have hF4 := hFk
            clear hFk hF3
            obtain ⟨n4, hn4⟩ : ∃ n, n3 + q = n := ⟨_, rfl⟩
            rw [hn4] at hF4 ⊢
            obtain ⟨S4, hS4⟩ : ∃ S, S3 ++ List.replicate (q) 48 = S := ⟨_, rfl⟩
            rw [hS4] at hF4
            replace hS4 := Lib.hid hS4
            obtain ⟨A4, hA4⟩ : ∃ A, A' = A := ⟨_, rfl⟩
            rw [hA4] at hF4 ⊢
            obtain ⟨c4, hc4⟩ : ∃ c, c' = c := ⟨_, rfl⟩
            rw [hc4] at hF4 ⊢
            go_wp2_with fail
            go_loopw [0, 247] (fun p i wr => ∃ (k : Nat) (A' : Option Addr) (c' : Nat), k ≤ nd ∧ p = .slice A' (n4 + k) c' ∧ i = .int .i64 (k : Int) ∧ FAt w D0 wr A' (n4 + k) c' (S4 ++ (ds.drop (0)).take (k))) (fun _ i _ => nd - (RowKit.intOf i).toNat)
            case atStart => exact ⟨0, A4, c4, Nat.zero_le _, rfl, rfl, by simpa using hF4⟩
            case round =>
              rename_i hrel
              obtain ⟨k, A', c', hk, rfl, rfl, hFk⟩ := hrel
              by_cases hlt : k < nd
              · have hkw : IntKind.i64.wrap ((k : Int) + 1) = (k : Int) + 1 := by rw [IntKind.wrap_i64]; omega
                have hkd : decide ((k : Int) < ((nd : Nat) : Int)) = true := decide_eq_true (by omega)
                have hx0 := hFk.cell hY hYD (hds (0 + k) (by omega))
                obtain ⟨x, hx⟩ : ∃ x, ds.getD (0 + k) 0 = x := ⟨_, rfl⟩
                rw [hx] at hx0
                simp only [byv] at hx0
                replace hx := Lib.hid hx
                simp only [Nat.zero_add] at hx0 hx
                have hoff : IntKind.i64.wrap (k : Int) = (k : Int) := by rw [IntKind.wrap_i64]; omega
                have hbyte : Hid ((#[Value.int .u8 (x.toNat : Int)] : Array Value).toList = bys [x]) := Lib.hid rfl
                go_wp2_with (at_builtin; go_must (refine wpList_append_mine rfl _ _ 36 36 rfl 5 i0 (.int .u8 0) 1 1 Tryz.underlying36 hi.out hz0.out hz1.out hz2.out rfl rfl (hFk.own.alloc _) rfl (Src.ofReads Tryz.underlying36 _ (Reads.lit _ _ _ _ 1 _ hbyte.out rfl) (bys_one _)) ?b1 ?b2 ?grow))
                case b1 => unfold maxLen; omega
                case b2 => omega
                case grow =>
                  intro A2 c2 w2 hown hgr hat
                  have hF2 := hFk.app (news := [x]) (m := 1) rfl hown hgr hat
                  clear hown hgr hat hbyte hFk
                  rw [List.append_assoc, show (ds.drop (0)).take (k) ++ [x] = (ds.drop (0)).take (k + 1) from by rw [← take_more _ _ (by rw [List.length_drop]; omega), ← hx.out]; simp [List.getD, List.getElem?_drop, Nat.add_comm]] at hF2
                  go_wp2_with fail
                  go_roundw
                  case rel => exact ⟨k + 1, A2, c2, by omega, by rw [Nat.add_assoc], by go_num, by rw [← Nat.add_assoc]; exact hF2⟩
                  case measure => simp [RowKit.intOf]; omega
              · obtain rfl : nd = k := by omega
                have hF5 := hFk
                clear hFk hF4
                obtain ⟨n5, hn5⟩ : ∃ n, n4 + nd = n := ⟨_, rfl⟩
                rw [hn5] at hF5 ⊢
                obtain ⟨S5, hS5⟩ : ∃ S, S4 ++ (ds.drop (0)).take (nd) = S := ⟨_, rfl⟩
                rw [hS5] at hF5
                replace hS5 := Lib.hid hS5
                obtain ⟨A5, hA5⟩ : ∃ A, A' = A := ⟨_, rfl⟩
                rw [hA5] at hF5 ⊢
                obtain ⟨c5, hc5⟩ : ∃ c, c' = c := ⟨_, rfl⟩
                rw [hc5] at hF5 ⊢
                go_wp2_with fail
                go_loopw [0, 261] (fun p i wr => p = .slice A5 n5 c5 ∧ i = .int .i64 0 ∧ FAt w D0 wr A5 n5 c5 S5) (fun _ _ _ => 0)
                case atStart => exact ⟨rfl, rfl, hF5⟩
                case round =>
                  rename_i hrel
                  obtain ⟨rfl, rfl, hFz⟩ := hrel
                  clear hF5
                  have hF5 := hFz
                  clear hFz
                  go_wp2_with fail
                  go_ret
                  have hS : S5 = S0 ++ fmtFL true ds (-(q : Int)) := by
                    rw [← hS5.out, ← hS4.out, ← hS3.out, ← hS2.out, ← hS1.out]
                    unfold fmtFL
                    rw [if_neg (show ¬ (0 : Int) < -(q : Int) by omega), show (-(-(q : Int))).toNat = q by omega]
                    simp [List.take_of_length_le, hdl]
                  rw [hS] at hF5
                  exact ⟨A5, n5, c5, rfl, hF5⟩
end Go.Proofs.YtdbmffagibnibaaGreatDoor
