/- Vote: need, decide. -/
import Derived.Test.YtiajbcfelhlapaaVote1
namespace Go.Proofs.Ytiajbcfelhlapaa
open Go.RowKit

theorem results_ct {P : Program} {fn : Func} {p u : Tmp} {ty : TypeId} (h : fn.results = #[.cell p ty, .tmp u]) (tmps : Array Value) (w : World) (g : Nat) (t : TypeId) (cs : Array Value) (fr : Nat × Nat) (d : TypeDesc) (v : Value)
    (hp : tmps.getD p undef = .pointer (some ⟨g, 0, none⟩)) (hv : tmps.getD u undef = v) (hg : w.heap[g]? = some (.cells cs t fr))
    (hu : P.underlying ty = some d) (hd : (match d with | .struct _ | .array _ _ => true | _ => false) = true) (hi : (P.info? ty).map (·.size) = some cs.size) :
    (results fn tmps).run P w = .ok (.tuple #[.agg cs, v]) w := by
  rw [results_cell_tmp h, hp, hv]
  simp [asAddr, run_loadVar_row w g t ty cs fr d hg hu hd hi, Result.andThen]

theorem need_flat (nn : Int) (w : World) (h1 : 1 ≤ nn) (h7 : nn ≤ 7) : Calls Try.prog 46 #[.int .i64 nn] w fun e w' => e = .returned (.int .i64 (nn / 2 + 1)) ∧ w = w' := by
  have e1 : (if nn < 1 then 1 else nn) = nn := if_neg (by omega)
  have e2 : (if 7 < nn then 7 else nn) = nn := if_neg (by omega)
  have hq : Int.tdiv nn 2 = nn / 2 := Int.tdiv_eq_ediv_of_nonneg (by omega)
  go_enter Try.func46, Try.ntmps46
  go_wp2
  go_ret
  exact ⟨by simp [hq], rfl⟩

def wins (need : Int) (L : List FR) (x : FR) : Bool := decide (need ≤ (countL L x.e x.k x.i : Int))
theorem find_next {L : List FR} {p : FR → Bool} {j : Nat} (hlt : j < L.length) (h : (L.take j).find? p = none) (hp : p L[j] = false) : (L.take (j + 1)).find? p = none := by
  rw [List.take_succ_eq_append_getElem hlt, List.find?_append, h]
  simp [hp]
theorem find_here {L : List FR} {p : FR → Bool} {j : Nat} (hlt : j < L.length) (h : (L.take j).find? p = none) (hp : p L[j] = true) : L.find? p = some L[j] := by
  conv => lhs; rw [← List.take_append_drop (j + 1) L]
  rw [List.find?_append, List.take_succ_eq_append_getElem hlt, List.find?_append, h]
  simp [hp]

/-- What decide tells. -/
def Decides (w : World) (c s n : Int) (D : Option FR) (e : Ending) (w' : World) : Prop :=
  (match D with
  | some x => e = .returned (.tuple #[.agg #[.int .u32 c, .int .u32 s, .int .u16 n, .int .i64 x.e, .int .i64 x.k, .int .i64 x.i, .float .f64 x.f, .string ⟨#[]⟩, .slice none 0 0], .bool true]) ∧ FlatC x.k x.i x.f
  | none => e = .returned (.tuple #[.agg #[.int .u32 0, .int .u32 0, .int .u16 0, .int .i64 0, .int .i64 0, .int .i64 0, .float .f64 0, .string ⟨#[]⟩, .slice none 0 0], .bool false])) ∧ Below w.heap.size w w'

def needOf (pol nn : Int) : Int := if pol = 1 then nn / 2 + 1 else if pol = 2 then nn else 1

set_option maxHeartbeats 3200000 in
theorem decide_flat (p B : Nat) (c s n nn pol : Int) (L : List FR) (A : Option Addr) (cl : Nat) (xs : List Value) (w : World) (p3 : w.cell? ⟨p, 3, none⟩ = some (.int .i64 nn)) (p4 : w.cell? ⟨p, 4, none⟩ = some (.int .i64 pol)) (p6 : w.cell? ⟨p, 6, none⟩ = some (.slice A L.length cl)) (hrow : LRow w B c s n L A xs) (hB : B ≤ w.heap.size) (hL : L.length ≤ 1000) (h1 : 1 ≤ nn) (h7 : nn ≤ 7) :
    Calls Try.prog 31 #[.pointer (some ⟨p, 0, none⟩)] w (Decides w c s n (L.find? (wins (needOf pol nn) L))) := by
  have hsf := fun a k x m w => run_store_float (P := Try.prog) a k x m w
  have hpl := World.block_lt_of_cell? w _ p3
  obtain ⟨need, hneed⟩ : ∃ need, needOf pol nn = need := ⟨_, rfl⟩
  rw [hneed]
  have hn1 : 1 ≤ need ∧ need ≤ 7 := by rw [← hneed]; unfold needOf; split; omega; split <;> omega
  obtain ⟨D, hD⟩ : ∃ D, L.find? (wins need L) = D := ⟨_, rfl⟩
  rw [hD]
  replace hD := Lib.hid hD
  have hb0 := (Below.refl w.heap.size w).alloc (Nat.le_refl _) (.cells #[.int .u32 0, .int .u32 0, .int .u16 0, .int .i64 0, .int .i64 0, .int .i64 0, .float .f64 0, .string ⟨#[]⟩, .slice none 0 0] 32)
  have hz1 := Blk.new w 32 #[.int .u32 0, .int .u32 0, .int .u16 0, .int .i64 0, .int .i64 0, .int .i64 0, .float .f64 0, .string ⟨#[]⟩, .slice none 0 0]
  have hpl1 : p < (w.alloc (.cells #[.int .u32 0, .int .u32 0, .int .u16 0, .int .i64 0, .int .i64 0, .int .i64 0, .float .f64 0, .string ⟨#[]⟩, .slice none 0 0] 32)).heap.size := Nat.lt_of_lt_of_le hpl hb0.size
  replace p3 := (hb0.cell (p := ⟨p, 3, none⟩) hpl).trans p3
  replace p4 := (hb0.cell (p := ⟨p, 4, none⟩) hpl).trans p4
  replace p6 := (hb0.cell (p := ⟨p, 6, none⟩) hpl).trans p6
  have hB1 : B ≤ (w.alloc (.cells #[.int .u32 0, .int .u32 0, .int .u16 0, .int .i64 0, .int .i64 0, .int .i64 0, .float .f64 0, .string ⟨#[]⟩, .slice none 0 0] 32)).heap.size := Nat.le_trans hB hb0.size
  replace hrow : LRow (w.alloc (.cells #[.int .u32 0, .int .u32 0, .int .u16 0, .int .i64 0, .int .i64 0, .int .i64 0, .float .f64 0, .string ⟨#[]⟩, .slice none 0 0] 32)) B c s n L A xs := ⟨hrow.hr.below (hb0.mono hB), hrow.hx⟩
  by_cases hp1 : pol = 1
  · have hne : need = nn / 2 + 1 := by rw [← hneed]; unfold needOf; rw [if_pos hp1]
    have hnd := fun w => need_flat nn w h1 h7
    rw [← hne] at hnd
    clear hneed hne
    subst hp1
    go_enter Try.func31, Try.ntmps31
    go_wp2_with fail
    refine (hnd _).mono ?_
    clear hnd
    rintro e9 w9 ⟨rfl, rfl⟩
    dsimp only
    go_wp2_with fail
    generalize w.alloc (.cells #[.int .u32 0, .int .u32 0, .int .u16 0, .int .i64 0, .int .i64 0, .int .i64 0, .float .f64 0, .string ⟨#[]⟩, .slice none 0 0] 32) = w1 at *
    go_loopw [29] (fun ii wr => ∃ j : Nat, j ≤ L.length ∧ ii = .int .i64 (j : Int) ∧ (L.take j).find? (wins need L) = none ∧ Below w1.heap.size w1 wr) (fun ii _ => L.length - (intOf ii).toNat)
    case atStart => exact ⟨0, Nat.zero_le _, rfl, rfl, Below.refl _ _⟩
    case round =>
      obtain ⟨j, hj, rfl, hno, hb⟩ := hrel
      replace hno := Lib.hid hno
      have hzr := hz1.below hb hz1.lt
      have p3r := (hb.cell (p := ⟨p, 3, none⟩) hpl1).trans p3
      have p4r := (hb.cell (p := ⟨p, 4, none⟩) hpl1).trans p4
      have p6r := (hb.cell (p := ⟨p, 6, none⟩) hpl1).trans p6
      by_cases hlt : j < L.length
      · have hgk : L[j]? = some L[j] := List.getElem?_eq_getElem hlt
        have hrow2 : LRow wr B c s n L A xs := ⟨hrow.hr.below (hb.mono hB1), hrow.hx⟩
        obtain ⟨ad, hA, -, hfx, g0, g1, g2, g3, g4, g5, g6, g7, g8⟩ := hrow2.elem hgk
        subst hA
        have hnx := find_next (p := wins need L) hlt hno.out
        have hhr := find_here (p := wins need L) hlt hno.out
        have hwin : wins need L L[j] = decide (need ≤ (countL L L[j].e L[j].k L[j].i : Int)) := rfl
        generalize L[j] = x at *
        obtain ⟨z, hz⟩ : ∃ z, countL L x.e x.k x.i = z := ⟨_, rfl⟩
        rw [hz] at hwin
        have hzl : z ≤ 1000 := by
          have h1 : countL L x.e x.k x.i ≤ L.length := List.countP_le_length
          omega
        have hb1 := hb.alloc hb.size (.cells #[.int .u32 c, .int .u32 s, .int .u16 n, .int .i64 x.e, .int .i64 x.k, .int .i64 x.i, .float .f64 x.f, .string ⟨#[]⟩, .slice none 0 0] 32)
        have hbx2 := Blk.new wr 32 #[.int .u32 c, .int .u32 s, .int .u16 n, .int .i64 x.e, .int .i64 x.k, .int .i64 x.i, .float .f64 x.f, .string ⟨#[]⟩, .slice none 0 0]
        have hz3 := hzr.alloc (.cells #[.int .u32 c, .int .u32 s, .int .u16 n, .int .i64 x.e, .int .i64 x.k, .int .i64 x.i, .float .f64 x.f, .string ⟨#[]⟩, .slice none 0 0] 32)
        have hlk := fun w2 (hb2 : Below w1.heap.size w1 w2) => like_flat p B c s n x.e x.k x.i x.f L (some ad) cl xs w2 ((hb2.cell (p := ⟨p, 6, none⟩) hpl1).trans p6) ⟨hrow.hr.below (hb2.mono hB1), hrow.hx⟩ (Nat.le_trans hB1 hb2.size) hL hfx.flat
        rw [hz] at hlk
        replace hlk := Lib.hid (hlk _ hb1)
        have r0 := hbx2.cell 0
        have r1 := hbx2.cell 1
        have r2 := hbx2.cell 2
        have r3 := hbx2.cell 3
        have r4 := hbx2.cell 4
        have r5 := hbx2.cell 5
        have r6 := hbx2.cell 6
        have r7 := hbx2.cell 7
        have r8 := hbx2.cell 8
        replace hnx := Lib.hid hnx
        replace hhr := Lib.hid hhr
        clear hz hgk hrow2
        go_wp2_with fail
        refine hlk.out.mono ?_
        clear hlk
        rintro e9 w3 ⟨rfl, hb3⟩
        dsimp only
        have hb3' := below_then hb3 hb1
        have hbx3 := hbx2.below hb3 hbx2.lt
        have hz4 := hz3.below hb3 hz3.lt
        clear g0 g1 g2 g3 g4 g5 g6 g7 g8 r0 r1 r2 r3 r4 r5 r6 r7 r8
        by_cases hge : need ≤ (z : Int)
        · have hw : wins need L x = true := by rw [hwin, decide_eq_true hge]
          have hf := hhr.out hw
          have r0 := hbx3.cell 0
          have r1 := hbx3.cell 1
          have r2 := hbx3.cell 2
          have r3 := hbx3.cell 3
          have r4 := hbx3.cell 4
          have r5 := hbx3.cell 5
          have r6 := hbx3.cell 6
          have r7 := hbx3.cell 7
          have r8 := hbx3.cell 8
          have hz5 := hz4.row #[.int .u32 c, .int .u32 s, .int .u16 n, .int .i64 x.e, .int .i64 x.k, .int .i64 x.i, .float .f64 x.f, .string ⟨#[]⟩, .slice none 0 0]
          have hb6 := below_row (hb0.trans (hb3'.mono hb0.size)) (g := w.heap.size) (Nat.le_refl _) #[.int .u32 c, .int .u32 s, .int .u16 n, .int .i64 x.e, .int .i64 x.k, .int .i64 x.i, .float .f64 x.f, .string ⟨#[]⟩, .slice none 0 0]
          clear hb1 hbx2 hz3
          go_wp2_with (refine store_row_gen rfl 32 (Operand.tmp 2) _ rfl w.heap.size #[.int .u32 c, .int .u32 s, .int .u16 n, .int .i64 x.e, .int .i64 x.k, .int .i64 x.i, .float .f64 x.f, .string ⟨#[]⟩, .slice none 0 0] rfl rfl 32 _ hz4 (by kernel_rfl) rfl (by simp [Value.oneCell']) (fun w6 hw6 => ?_); rw [← hw6] at hz5 hb6; clear hw6)
          refine bodyPost_ret (v := .tuple #[.agg #[.int .u32 c, .int .u32 s, .int .u16 n, .int .i64 x.e, .int .i64 x.k, .int .i64 x.i, .float .f64 x.f, .string ⟨#[]⟩, .slice none 0 0], .bool true]) ?hr rfl ?_
          case hr => exact results_ct rfl _ _ w.heap.size 32 _ (0, 0) _ _ rfl rfl hz5 Try.underlying32 rfl (by kernel_rfl)
          rw [← hD.out, hf]
          exact ⟨⟨rfl, hfx⟩, hb6⟩
        · have hw : wins need L x = false := by rw [hwin, decide_eq_false hge]
          have hf := Lib.hid (hnx.out hw)
          have hlt' : (z : Int) < need := by omega
          clear hb1 hbx2 hz3 hbx3
          go_wp2_with fail
          go_roundw
          case rel => exact ⟨j + 1, by omega, by simp, hf.out, by assumption⟩
          case measure => simp [intOf]; omega
      · have hj' : j = L.length := by omega
        subst hj'
        rw [List.take_length] at hno
        have hz5 := hzr.row #[.int .u32 0, .int .u32 0, .int .u16 0, .int .i64 0, .int .i64 0, .int .i64 0, .float .f64 0, .string ⟨#[]⟩, .slice none 0 0]
        have hb6 := below_row (hb0.trans (hb.mono hb0.size)) (g := w.heap.size) (Nat.le_refl _) #[.int .u32 0, .int .u32 0, .int .u16 0, .int .i64 0, .int .i64 0, .int .i64 0, .float .f64 0, .string ⟨#[]⟩, .slice none 0 0]
        go_wp2_with (refine store_row_gen rfl 32 (Operand.tmp 2) _ rfl w.heap.size #[.int .u32 0, .int .u32 0, .int .u16 0, .int .i64 0, .int .i64 0, .int .i64 0, .float .f64 0, .string ⟨#[]⟩, .slice none 0 0] (by simp [go_sem]) (by simp [go_sem]) 32 _ hzr (by kernel_rfl) rfl (by simp [Value.oneCell']) (fun w6 hw6 => ?_); rw [← hw6] at hz5 hb6; clear hw6)
        refine bodyPost_ret (v := .tuple #[.agg #[.int .u32 0, .int .u32 0, .int .u16 0, .int .i64 0, .int .i64 0, .int .i64 0, .float .f64 0, .string ⟨#[]⟩, .slice none 0 0], .bool false]) ?hr rfl ?_
        case hr => exact results_ct rfl _ _ w.heap.size 32 _ (0, 0) _ _ rfl rfl hz5 Try.underlying32 rfl (by kernel_rfl)
        rw [← hD.out, hno.out]
        exact ⟨rfl, hb6⟩


  by_cases hp2 : pol = 2
  · have hne : need = nn := by rw [← hneed]; unfold needOf; rw [if_neg hp1, if_pos hp2]
    clear hneed
    subst hp2 hne
    go_enter Try.func31, Try.ntmps31
    go_wp2_with fail
    generalize w.alloc (.cells #[.int .u32 0, .int .u32 0, .int .u16 0, .int .i64 0, .int .i64 0, .int .i64 0, .float .f64 0, .string ⟨#[]⟩, .slice none 0 0] 32) = w1 at *
    go_loopw [29] (fun ii wr => ∃ j : Nat, j ≤ L.length ∧ ii = .int .i64 (j : Int) ∧ (L.take j).find? (wins need L) = none ∧ Below w1.heap.size w1 wr) (fun ii _ => L.length - (intOf ii).toNat)
    case atStart => exact ⟨0, Nat.zero_le _, rfl, rfl, Below.refl _ _⟩
    case round =>
      obtain ⟨j, hj, rfl, hno, hb⟩ := hrel
      replace hno := Lib.hid hno
      have hzr := hz1.below hb hz1.lt
      have p3r := (hb.cell (p := ⟨p, 3, none⟩) hpl1).trans p3
      have p4r := (hb.cell (p := ⟨p, 4, none⟩) hpl1).trans p4
      have p6r := (hb.cell (p := ⟨p, 6, none⟩) hpl1).trans p6
      by_cases hlt : j < L.length
      · have hgk : L[j]? = some L[j] := List.getElem?_eq_getElem hlt
        have hrow2 : LRow wr B c s n L A xs := ⟨hrow.hr.below (hb.mono hB1), hrow.hx⟩
        obtain ⟨ad, hA, -, hfx, g0, g1, g2, g3, g4, g5, g6, g7, g8⟩ := hrow2.elem hgk
        subst hA
        have hnx := find_next (p := wins need L) hlt hno.out
        have hhr := find_here (p := wins need L) hlt hno.out
        have hwin : wins need L L[j] = decide (need ≤ (countL L L[j].e L[j].k L[j].i : Int)) := rfl
        generalize L[j] = x at *
        obtain ⟨z, hz⟩ : ∃ z, countL L x.e x.k x.i = z := ⟨_, rfl⟩
        rw [hz] at hwin
        have hzl : z ≤ 1000 := by
          have h1 : countL L x.e x.k x.i ≤ L.length := List.countP_le_length
          omega
        have hb1 := hb.alloc hb.size (.cells #[.int .u32 c, .int .u32 s, .int .u16 n, .int .i64 x.e, .int .i64 x.k, .int .i64 x.i, .float .f64 x.f, .string ⟨#[]⟩, .slice none 0 0] 32)
        have hbx2 := Blk.new wr 32 #[.int .u32 c, .int .u32 s, .int .u16 n, .int .i64 x.e, .int .i64 x.k, .int .i64 x.i, .float .f64 x.f, .string ⟨#[]⟩, .slice none 0 0]
        have hz3 := hzr.alloc (.cells #[.int .u32 c, .int .u32 s, .int .u16 n, .int .i64 x.e, .int .i64 x.k, .int .i64 x.i, .float .f64 x.f, .string ⟨#[]⟩, .slice none 0 0] 32)
        have hlk := fun w2 (hb2 : Below w1.heap.size w1 w2) => like_flat p B c s n x.e x.k x.i x.f L (some ad) cl xs w2 ((hb2.cell (p := ⟨p, 6, none⟩) hpl1).trans p6) ⟨hrow.hr.below (hb2.mono hB1), hrow.hx⟩ (Nat.le_trans hB1 hb2.size) hL hfx.flat
        rw [hz] at hlk
        replace hlk := Lib.hid (hlk _ hb1)
        have r0 := hbx2.cell 0
        have r1 := hbx2.cell 1
        have r2 := hbx2.cell 2
        have r3 := hbx2.cell 3
        have r4 := hbx2.cell 4
        have r5 := hbx2.cell 5
        have r6 := hbx2.cell 6
        have r7 := hbx2.cell 7
        have r8 := hbx2.cell 8
        replace hnx := Lib.hid hnx
        replace hhr := Lib.hid hhr
        clear hz hgk hrow2
        go_wp2_with fail
        refine hlk.out.mono ?_
        clear hlk
        rintro e9 w3 ⟨rfl, hb3⟩
        dsimp only
        have hb3' := below_then hb3 hb1
        have hbx3 := hbx2.below hb3 hbx2.lt
        have hz4 := hz3.below hb3 hz3.lt
        clear g0 g1 g2 g3 g4 g5 g6 g7 g8 r0 r1 r2 r3 r4 r5 r6 r7 r8
        by_cases hge : need ≤ (z : Int)
        · have hw : wins need L x = true := by rw [hwin, decide_eq_true hge]
          have hf := hhr.out hw
          have r0 := hbx3.cell 0
          have r1 := hbx3.cell 1
          have r2 := hbx3.cell 2
          have r3 := hbx3.cell 3
          have r4 := hbx3.cell 4
          have r5 := hbx3.cell 5
          have r6 := hbx3.cell 6
          have r7 := hbx3.cell 7
          have r8 := hbx3.cell 8
          have hz5 := hz4.row #[.int .u32 c, .int .u32 s, .int .u16 n, .int .i64 x.e, .int .i64 x.k, .int .i64 x.i, .float .f64 x.f, .string ⟨#[]⟩, .slice none 0 0]
          have hb6 := below_row (hb0.trans (hb3'.mono hb0.size)) (g := w.heap.size) (Nat.le_refl _) #[.int .u32 c, .int .u32 s, .int .u16 n, .int .i64 x.e, .int .i64 x.k, .int .i64 x.i, .float .f64 x.f, .string ⟨#[]⟩, .slice none 0 0]
          clear hb1 hbx2 hz3
          go_wp2_with (refine store_row_gen rfl 32 (Operand.tmp 2) _ rfl w.heap.size #[.int .u32 c, .int .u32 s, .int .u16 n, .int .i64 x.e, .int .i64 x.k, .int .i64 x.i, .float .f64 x.f, .string ⟨#[]⟩, .slice none 0 0] rfl rfl 32 _ hz4 (by kernel_rfl) rfl (by simp [Value.oneCell']) (fun w6 hw6 => ?_); rw [← hw6] at hz5 hb6; clear hw6)
          refine bodyPost_ret (v := .tuple #[.agg #[.int .u32 c, .int .u32 s, .int .u16 n, .int .i64 x.e, .int .i64 x.k, .int .i64 x.i, .float .f64 x.f, .string ⟨#[]⟩, .slice none 0 0], .bool true]) ?hr rfl ?_
          case hr => exact results_ct rfl _ _ w.heap.size 32 _ (0, 0) _ _ rfl rfl hz5 Try.underlying32 rfl (by kernel_rfl)
          rw [← hD.out, hf]
          exact ⟨⟨rfl, hfx⟩, hb6⟩
        · have hw : wins need L x = false := by rw [hwin, decide_eq_false hge]
          have hf := Lib.hid (hnx.out hw)
          have hlt' : (z : Int) < need := by omega
          clear hb1 hbx2 hz3 hbx3
          go_wp2_with fail
          go_roundw
          case rel => exact ⟨j + 1, by omega, by simp, hf.out, by assumption⟩
          case measure => simp [intOf]; omega
      · have hj' : j = L.length := by omega
        subst hj'
        rw [List.take_length] at hno
        have hz5 := hzr.row #[.int .u32 0, .int .u32 0, .int .u16 0, .int .i64 0, .int .i64 0, .int .i64 0, .float .f64 0, .string ⟨#[]⟩, .slice none 0 0]
        have hb6 := below_row (hb0.trans (hb.mono hb0.size)) (g := w.heap.size) (Nat.le_refl _) #[.int .u32 0, .int .u32 0, .int .u16 0, .int .i64 0, .int .i64 0, .int .i64 0, .float .f64 0, .string ⟨#[]⟩, .slice none 0 0]
        go_wp2_with (refine store_row_gen rfl 32 (Operand.tmp 2) _ rfl w.heap.size #[.int .u32 0, .int .u32 0, .int .u16 0, .int .i64 0, .int .i64 0, .int .i64 0, .float .f64 0, .string ⟨#[]⟩, .slice none 0 0] (by simp [go_sem]) (by simp [go_sem]) 32 _ hzr (by kernel_rfl) rfl (by simp [Value.oneCell']) (fun w6 hw6 => ?_); rw [← hw6] at hz5 hb6; clear hw6)
        refine bodyPost_ret (v := .tuple #[.agg #[.int .u32 0, .int .u32 0, .int .u16 0, .int .i64 0, .int .i64 0, .int .i64 0, .float .f64 0, .string ⟨#[]⟩, .slice none 0 0], .bool false]) ?hr rfl ?_
        case hr => exact results_ct rfl _ _ w.heap.size 32 _ (0, 0) _ _ rfl rfl hz5 Try.underlying32 rfl (by kernel_rfl)
        rw [← hD.out, hno.out]
        exact ⟨rfl, hb6⟩


  · have hne : need = 1 := by rw [← hneed]; unfold needOf; rw [if_neg hp1, if_neg hp2]
    have q1 : (pol == 1) = false := beq_eq_false_iff_ne.2 hp1
    have q2 : (pol == 2) = false := beq_eq_false_iff_ne.2 hp2
    clear hneed hp1 hp2
    subst hne
    go_enter Try.func31, Try.ntmps31
    go_wp2_with fail
    generalize w.alloc (.cells #[.int .u32 0, .int .u32 0, .int .u16 0, .int .i64 0, .int .i64 0, .int .i64 0, .float .f64 0, .string ⟨#[]⟩, .slice none 0 0] 32) = w1 at *
    go_loopw [29] (fun ii wr => ∃ j : Nat, j ≤ L.length ∧ ii = .int .i64 (j : Int) ∧ (L.take j).find? (wins 1 L) = none ∧ Below w1.heap.size w1 wr) (fun ii _ => L.length - (intOf ii).toNat)
    case atStart => exact ⟨0, Nat.zero_le _, rfl, rfl, Below.refl _ _⟩
    case round =>
      obtain ⟨j, hj, rfl, hno, hb⟩ := hrel
      replace hno := Lib.hid hno
      have hzr := hz1.below hb hz1.lt
      have p3r := (hb.cell (p := ⟨p, 3, none⟩) hpl1).trans p3
      have p4r := (hb.cell (p := ⟨p, 4, none⟩) hpl1).trans p4
      have p6r := (hb.cell (p := ⟨p, 6, none⟩) hpl1).trans p6
      by_cases hlt : j < L.length
      · have hgk : L[j]? = some L[j] := List.getElem?_eq_getElem hlt
        have hrow2 : LRow wr B c s n L A xs := ⟨hrow.hr.below (hb.mono hB1), hrow.hx⟩
        obtain ⟨ad, hA, -, hfx, g0, g1, g2, g3, g4, g5, g6, g7, g8⟩ := hrow2.elem hgk
        subst hA
        have hnx := find_next (p := wins 1 L) hlt hno.out
        have hhr := find_here (p := wins 1 L) hlt hno.out
        have hwin : wins 1 L L[j] = decide (1 ≤ (countL L L[j].e L[j].k L[j].i : Int)) := rfl
        generalize L[j] = x at *
        obtain ⟨z, hz⟩ : ∃ z, countL L x.e x.k x.i = z := ⟨_, rfl⟩
        rw [hz] at hwin
        have hzl : z ≤ 1000 := by
          have h1 : countL L x.e x.k x.i ≤ L.length := List.countP_le_length
          omega
        have hb1 := hb.alloc hb.size (.cells #[.int .u32 c, .int .u32 s, .int .u16 n, .int .i64 x.e, .int .i64 x.k, .int .i64 x.i, .float .f64 x.f, .string ⟨#[]⟩, .slice none 0 0] 32)
        have hbx2 := Blk.new wr 32 #[.int .u32 c, .int .u32 s, .int .u16 n, .int .i64 x.e, .int .i64 x.k, .int .i64 x.i, .float .f64 x.f, .string ⟨#[]⟩, .slice none 0 0]
        have hz3 := hzr.alloc (.cells #[.int .u32 c, .int .u32 s, .int .u16 n, .int .i64 x.e, .int .i64 x.k, .int .i64 x.i, .float .f64 x.f, .string ⟨#[]⟩, .slice none 0 0] 32)
        have hlk := fun w2 (hb2 : Below w1.heap.size w1 w2) => like_flat p B c s n x.e x.k x.i x.f L (some ad) cl xs w2 ((hb2.cell (p := ⟨p, 6, none⟩) hpl1).trans p6) ⟨hrow.hr.below (hb2.mono hB1), hrow.hx⟩ (Nat.le_trans hB1 hb2.size) hL hfx.flat
        rw [hz] at hlk
        replace hlk := Lib.hid (hlk _ hb1)
        have r0 := hbx2.cell 0
        have r1 := hbx2.cell 1
        have r2 := hbx2.cell 2
        have r3 := hbx2.cell 3
        have r4 := hbx2.cell 4
        have r5 := hbx2.cell 5
        have r6 := hbx2.cell 6
        have r7 := hbx2.cell 7
        have r8 := hbx2.cell 8
        replace hnx := Lib.hid hnx
        replace hhr := Lib.hid hhr
        clear hz hgk hrow2
        go_wp2_with fail
        refine hlk.out.mono ?_
        clear hlk
        rintro e9 w3 ⟨rfl, hb3⟩
        dsimp only
        have hb3' := below_then hb3 hb1
        have hbx3 := hbx2.below hb3 hbx2.lt
        have hz4 := hz3.below hb3 hz3.lt
        clear g0 g1 g2 g3 g4 g5 g6 g7 g8 r0 r1 r2 r3 r4 r5 r6 r7 r8
        by_cases hge : 1 ≤ (z : Int)
        · have hw : wins 1 L x = true := by rw [hwin, decide_eq_true hge]
          have hf := hhr.out hw
          have r0 := hbx3.cell 0
          have r1 := hbx3.cell 1
          have r2 := hbx3.cell 2
          have r3 := hbx3.cell 3
          have r4 := hbx3.cell 4
          have r5 := hbx3.cell 5
          have r6 := hbx3.cell 6
          have r7 := hbx3.cell 7
          have r8 := hbx3.cell 8
          have hz5 := hz4.row #[.int .u32 c, .int .u32 s, .int .u16 n, .int .i64 x.e, .int .i64 x.k, .int .i64 x.i, .float .f64 x.f, .string ⟨#[]⟩, .slice none 0 0]
          have hb6 := below_row (hb0.trans (hb3'.mono hb0.size)) (g := w.heap.size) (Nat.le_refl _) #[.int .u32 c, .int .u32 s, .int .u16 n, .int .i64 x.e, .int .i64 x.k, .int .i64 x.i, .float .f64 x.f, .string ⟨#[]⟩, .slice none 0 0]
          clear hb1 hbx2 hz3
          go_wp2_with (refine store_row_gen rfl 32 (Operand.tmp 2) _ rfl w.heap.size #[.int .u32 c, .int .u32 s, .int .u16 n, .int .i64 x.e, .int .i64 x.k, .int .i64 x.i, .float .f64 x.f, .string ⟨#[]⟩, .slice none 0 0] rfl rfl 32 _ hz4 (by kernel_rfl) rfl (by simp [Value.oneCell']) (fun w6 hw6 => ?_); rw [← hw6] at hz5 hb6; clear hw6)
          refine bodyPost_ret (v := .tuple #[.agg #[.int .u32 c, .int .u32 s, .int .u16 n, .int .i64 x.e, .int .i64 x.k, .int .i64 x.i, .float .f64 x.f, .string ⟨#[]⟩, .slice none 0 0], .bool true]) ?hr rfl ?_
          case hr => exact results_ct rfl _ _ w.heap.size 32 _ (0, 0) _ _ rfl rfl hz5 Try.underlying32 rfl (by kernel_rfl)
          rw [← hD.out, hf]
          exact ⟨⟨rfl, hfx⟩, hb6⟩
        · have hw : wins 1 L x = false := by rw [hwin, decide_eq_false hge]
          have hf := Lib.hid (hnx.out hw)
          have hlt' : (z : Int) < 1 := by omega
          clear hb1 hbx2 hz3 hbx3
          go_wp2_with fail
          go_roundw
          case rel => exact ⟨j + 1, by omega, by simp, hf.out, by assumption⟩
          case measure => simp [intOf]; omega
      · have hj' : j = L.length := by omega
        subst hj'
        rw [List.take_length] at hno
        have hz5 := hzr.row #[.int .u32 0, .int .u32 0, .int .u16 0, .int .i64 0, .int .i64 0, .int .i64 0, .float .f64 0, .string ⟨#[]⟩, .slice none 0 0]
        have hb6 := below_row (hb0.trans (hb.mono hb0.size)) (g := w.heap.size) (Nat.le_refl _) #[.int .u32 0, .int .u32 0, .int .u16 0, .int .i64 0, .int .i64 0, .int .i64 0, .float .f64 0, .string ⟨#[]⟩, .slice none 0 0]
        go_wp2_with (refine store_row_gen rfl 32 (Operand.tmp 2) _ rfl w.heap.size #[.int .u32 0, .int .u32 0, .int .u16 0, .int .i64 0, .int .i64 0, .int .i64 0, .float .f64 0, .string ⟨#[]⟩, .slice none 0 0] (by simp [go_sem]) (by simp [go_sem]) 32 _ hzr (by kernel_rfl) rfl (by simp [Value.oneCell']) (fun w6 hw6 => ?_); rw [← hw6] at hz5 hb6; clear hw6)
        refine bodyPost_ret (v := .tuple #[.agg #[.int .u32 0, .int .u32 0, .int .u16 0, .int .i64 0, .int .i64 0, .int .i64 0, .float .f64 0, .string ⟨#[]⟩, .slice none 0 0], .bool false]) ?hr rfl ?_
        case hr => exact results_ct rfl _ _ w.heap.size 32 _ (0, 0) _ _ rfl rfl hz5 Try.underlying32 rfl (by kernel_rfl)
        rw [← hD.out, hno.out]
        exact ⟨rfl, hb6⟩


end Go.Proofs.Ytiajbcfelhlapaa
