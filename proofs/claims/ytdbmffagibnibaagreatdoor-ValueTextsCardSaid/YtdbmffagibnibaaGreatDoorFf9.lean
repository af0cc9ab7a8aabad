/- value.Text at [1, 0.5, "a"]. -/
import Derived.Test.YtdbmffagibnibaaGreatDoorFf8
import Derived.Test.YtdbmffagibnibaaGreatDoorOrdR
import Derived.Test.YtdbmffagibnibaaGreatDoorOrdT
import Derived.Test.YtdbmffagibnibaaGreatDoorProgClean
set_option linter.unusedSimpArgs false
set_option linter.unusedVariables false
namespace Go.Proofs.YtdbmffagibnibaaGreatDoor
open Go.RowKit Go.Sort Go.Lib
set_option maxRecDepth 100000

def strs (ls : List (List UInt8)) : List Value := ls.map fun l => Value.string (bstr l)
theorem info_str : (Tryz.prog.info? 9).map (fun i => (i.zero, i.size, i.bytes)) = some (some (.string ByteArray.empty), 1, 16) := by kernel_rfl
/-- The cells of the list's three values. -/
abbrev row3 : Array Value := #[.int .i64 1, .int .i64 1, .float .f64 0, .string ⟨#[]⟩, .slice none 0 0, .int .i64 2, .int .i64 0, .float .f64 4602678819172646912, .string ⟨#[]⟩, .slice none 0 0, .int .i64 3, .int .i64 0, .float .f64 0, .string ⟨#[97]⟩, .slice none 0 0]
abbrev texts3 : List (List UInt8) := [[49], [48, 46, 53], [34, 97, 34]]
theorem text_elem (k : Nat) (hk : k < 3) (w : World) (hT : TabW w) (hQ : QuoteW w) : ∃ (a b : Int) (c : Nat) (d : ByteArray), (row3[k * 5]? = some (.int .i64 a) ∧ row3[k * 5 + 1]? = some (.int .i64 b) ∧ row3[k * 5 + 2]? = some (.float .f64 c) ∧ row3[k * 5 + 3]? = some (.string d) ∧ row3[k * 5 + 4]? = some (.slice none 0 0)) ∧ Calls Tryz.prog 22 #[.agg #[.int .i64 a, .int .i64 b, .float .f64 c, .string d, .slice none 0 0]] w (fun r w' => r = .returned (.string (bstr (texts3.getD k []))) ∧ Below w.heap.size w w') := by
  rcases (show k = 0 ∨ k = 1 ∨ k = 2 by omega) with rfl | rfl | rfl
  · exact ⟨_, _, _, _, ⟨rfl, rfl, rfl, rfl, rfl⟩, text_one w⟩
  · exact ⟨_, _, _, _, ⟨rfl, rfl, rfl, rfl, rfl⟩, text_half w hT⟩
  · exact ⟨_, _, _, _, ⟨rfl, rfl, rfl, rfl, rfl⟩, text_a w hQ⟩
theorem join3 {A : Option Addr} {c : Nat} {w : World} (ho : Own w 9 1 A 3 c (strs texts3)) :
    Calls Tryz.prog 47 #[.slice A 3 c, .string ⟨#[44, 32]⟩] w (fun e w' => e = .returned (.string (bstr [49, 44, 32, 48, 46, 53, 44, 32, 34, 97, 34])) ∧ Below w.heap.size w w') := by
  obtain ⟨ad, hA, hadB, hcells⟩ := ho.reads_.2 (by omega)
  have hcap := ho.le_cap
  obtain ⟨q, cur, hA2, -⟩ : ∃ q cur, A = some ⟨q, 0, none⟩ ∧ Blk w q 9 cur := by
    rcases ho.2 with ⟨_, h0, _⟩ | ⟨q, cur, e, hb, _⟩
    · omega
    · exact ⟨q, cur, e, hb⟩
  subst hA2
  obtain rfl := Option.some.inj hA
  have h := Tryz.strings_Join q 0 c (texts3.map bstr) ⟨#[44, 32]⟩ w (fun j x hx => by
    have := hcells j (.string x) (by
      rw [List.getElem?_map] at hx
      unfold strs
      rw [List.getElem?_map]
      cases h : texts3[j]? with
      | none => rw [h] at hx; cases hx
      | some l => rw [h] at hx; simp only [Option.map_some] at hx ⊢; rw [Option.some.inj hx])
    rw [Nat.zero_add, ← this, add_row]) (by have := hadB; exact this) (by decide) hcap (by decide +kernel)
  rw [show (⟨(Lib.join ((texts3.map bstr).map (·.data.toList)) (⟨#[44, 32]⟩ : ByteArray).data.toList).toArray⟩ : ByteArray) = bstr [49, 44, 32, 48, 46, 53, 44, 32, 34, 97, 34] from by rfl] at h
  exact h

set_option maxHeartbeats 6400000 in
theorem text_list (L c : Nat) (w : World) (hT : TabW w) (hQ : QuoteW w) (hR : Blk w L 25 row3) :
    Calls Tryz.prog 22 #[.agg #[.int .i64 4, .int .i64 0, .float .f64 0, .string ⟨#[]⟩, .slice (some ⟨L, 0, none⟩) 3 c]] w (fun e w' => e = .returned (.string (bstr [91, 49, 44, 32, 48, 46, 53, 44, 32, 34, 97, 34, 93])) ∧ Below w.heap.size w w') := by
  obtain ⟨i0, hi, hz0, hz1, hz2⟩ := info_parts info_str
  replace hi := Lib.hid hi
  replace hz0 := Lib.hid hz0
  replace hz1 := Lib.hid hz1
  replace hz2 := Lib.hid hz2
  have hbx := Blk.new w 25 #[.int .i64 4, .int .i64 0, .float .f64 0, .string ⟨#[]⟩, .slice (some ⟨L, 0, none⟩) 3 c]
  have hb1 := (Below.refl w.heap.size w).alloc (Nat.le_refl _) (.cells #[.int .i64 4, .int .i64 0, .float .f64 0, .string ⟨#[]⟩, .slice (some ⟨L, 0, none⟩) 3 c] 25)
  have hLl := hR.lt
  replace hR := Lib.hid hR
  replace hT := Lib.hid hT
  replace hQ := Lib.hid hQ
  obtain ⟨N0, hN0⟩ : ∃ N, w.heap.size = N := ⟨_, rfl⟩
  rw [hN0] at hbx
  replace hN0 := Lib.hid hN0
  have hsf := fun a k x m w => run_store_float (P := Tryz.prog) a k x m w
  go_enter Tryz.func22, Tryz.ntmps22
  go_upto_region 1 with (fail)
  try rw [hN0.out]
  generalize w.alloc (.cells #[.int .i64 4, .int .i64 0, .float .f64 0, .string ⟨#[]⟩, .slice (some ⟨L, 0, none⟩) 3 c] 25) = w1 at *
  have k0 := hbx.cell 0
  have k4 := hbx.cell 4
  go_wp2_with fail
  clear k0 k4
  go_loopw [3, 28] (fun p i wr => ∃ (k : Nat) (A' : Option Addr) (c' : Nat), k ≤ 3 ∧ p = .slice A' k c' ∧ i = .int .i64 (k : Int) ∧ Own wr 9 1 A' k c' (strs (texts3.take k)) ∧ Below w.heap.size w wr ∧ ∀ q, bOf A' = some q → w.heap.size ≤ q) (fun _ i _ => 3 - (RowKit.intOf i).toNat)
  case atStart => exact ⟨0, none, 0, by omega, rfl, rfl, Own.none_, hb1, fun _ h => by cases h⟩
  case round =>
    rename_i hrel
    obtain ⟨k, A', c', hk, rfl, rfl, ho, hbr, hgr⟩ := hrel
    have hw0 : w.heap.size ≤ wr.heap.size := hbr.size
    by_cases hlt : k < 3
    · have hkw : IntKind.i64.wrap ((k : Int) + 1) = (k : Int) + 1 := by rw [IntKind.wrap_i64]; omega
      have hkd : decide ((k : Int) < 3) = true := decide_eq_true (by omega)
      have hRr := hR.out.below hbr hLl
      have htake : Hid (strs (texts3.take (k + 1)) = strs (texts3.take k) ++ strs [texts3.getD k []]) := Lib.hid (by
        rcases (show k = 0 ∨ k = 1 ∨ k = 2 by omega) with rfl | rfl | rfl <;> rfl)
      obtain ⟨a, b, cc, d, ⟨q0, q1, q2, q3, q4⟩, -⟩ := text_elem k hlt w hT.out hQ.out
      have htx : ∀ W, Below w.heap.size w W → Calls Tryz.prog 22 #[.agg #[.int .i64 a, .int .i64 b, .float .f64 cc, .string d, .slice none 0 0]] W (fun r w' => r = .returned (.string (bstr (texts3.getD k []))) ∧ Below W.heap.size W w') := fun W hW => by
        obtain ⟨a', b', c', d', ⟨p0, p1, p2, p3, p4⟩, h⟩ := text_elem k hlt W (hT.out.next hW) (hQ.out.next hW)
        have g0 := Option.some.inj (p0.symm.trans q0)
        have g1 := Option.some.inj (p1.symm.trans q1)
        have g2 := Option.some.inj (p2.symm.trans q2)
        have g3 := Option.some.inj (p3.symm.trans q3)
        rw [g0, g1, g2, g3] at h
        exact h
      obtain ⟨T, hTT⟩ : ∃ T, texts3.getD k [] = T := ⟨_, rfl⟩
      rw [hTT] at htx htake
      have e0 := (hRr.cell (k * 5)).trans q0
      have e1 := (hRr.cell (k * 5 + 1)).trans q1
      have e2 := (hRr.cell (k * 5 + 2)).trans q2
      have e3 := (hRr.cell (k * 5 + 3)).trans q3
      have e4 := (hRr.cell (k * 5 + 4)).trans q4
      clear q0 q1 q2 q3 q4 hTT hRr
      replace htx := Lib.hid htx
      have hz := Blk.new wr 25 #[.int .i64 a, .int .i64 b, .float .f64 cc, .string d, .slice none 0 0]
      have hbz := (Below.refl wr.heap.size wr).alloc (Nat.le_refl _) (.cells #[.int .i64 a, .int .i64 b, .float .f64 cc, .string d, .slice none 0 0] 25)
      have hoz := ho.below hbz (Nat.le_refl _)
      have hbrz := below_then hbz hbr
      obtain ⟨z, ez⟩ : ∃ z, wr.heap.size = z := ⟨_, rfl⟩
      rw [ez] at hz
      replace ez := Lib.hid ez
      clear hbz ho
      go_upto_region 13 with (fail)
      try rw [ez.out]
      generalize wr.alloc (.cells #[.int .i64 a, .int .i64 b, .float .f64 cc, .string d, .slice none 0 0] 25) = w2 at *
      clear e0 e1 e2 e3 e4
      have e0 := hz.cell 0
      have e1 := hz.cell 1
      have e2 := hz.cell 2
      have e3 := hz.cell 3
      have e4 := hz.cell 4
      have hsrcl : Hid ((#[Value.string (bstr T)] : Array Value).toList = strs [T]) := Lib.hid rfl
      go_wp2_with fail
      refine (htx.out _ hbrz).mono ?_
      clear e0 e1 e2 e3 e4 htx
      rintro e w3 ⟨rfl, hb3⟩
      dsimp only
      have ho3 := hoz.below hb3 (Nat.le_refl _)
      have hbr3 := below_then hb3 hbrz
      clear hoz hbrz hb3
      go_wp2_with (at_builtin; go_must (refine wpList_append_mine rfl _ _ 61 61 rfl 9 i0 _ 1 16 Tryz.underlying61 hi.out hz0.out hz1.out hz2.out rfl rfl (ho3.alloc _) rfl (Src.ofReads Tryz.underlying61 _ (Reads.lit _ _ _ _ 1 _ hsrcl.out rfl) (by intro u hu; simp only [strs, List.map_cons, List.map_nil, List.mem_cons, List.not_mem_nil, or_false] at hu; subst hu; rfl)) ?b1 ?b2 ?grow))
      case b1 => unfold maxLen; omega
      case b2 => omega
      case grow =>
        intro A2 c2 w4 hown hgr2 hat
        have hgx : ∀ q, bOf A2 = some q → w.heap.size ≤ q := fun q hq => by
          have := hbr3.size
          rcases hat with h7 | h7 <;> rw [h7] at hq
          · exact hgr q hq
          · simp at hq; omega
        rw [← htake.out] at hown
        go_wp2_with fail
        go_roundw
        case rel =>
          exact ⟨k + 1, A2, c2, by omega, rfl, by go_num, hown, (hbr3.alloc hbr3.size _).grown hgr2 (Nat.le_trans hbr3.size (by simp)) (fun q hq => hgr q hq), hgx⟩
        case measure => simp [RowKit.intOf]; omega
    · obtain rfl : k = 3 := by omega
      have hj := join3 (c := c') (A := A') ho
      replace hj := Lib.hid hj
      have j1 : ∀ W, (Op.stringOp .add ⟨#[91]⟩ (bstr [49, 44, 32, 48, 46, 53, 44, 32, 34, 97, 34])).run Tryz.prog W = .ok (.string (bstr [91, 49, 44, 32, 48, 46, 53, 44, 32, 34, 97, 34])) W := fun W => run_bstr_add W [91] [49, 44, 32, 48, 46, 53, 44, 32, 34, 97, 34] (by decide)
      have j2 : ∀ W, (Op.stringOp .add (bstr [91, 49, 44, 32, 48, 46, 53, 44, 32, 34, 97, 34]) ⟨#[93]⟩).run Tryz.prog W = .ok (.string (bstr [91, 49, 44, 32, 48, 46, 53, 44, 32, 34, 97, 34, 93])) W := fun W => run_bstr_add W [91, 49, 44, 32, 48, 46, 53, 44, 32, 34, 97, 34] [93] (by decide)
      go_wp2_with fail
      refine hj.out.mono ?_
      rintro e w3 ⟨rfl, hb3⟩
      dsimp only
      go_wp2_with fail
      go_ret
      exact ⟨rfl, below_then hb3 hbr⟩
end Go.Proofs.YtdbmffagibnibaaGreatDoor
