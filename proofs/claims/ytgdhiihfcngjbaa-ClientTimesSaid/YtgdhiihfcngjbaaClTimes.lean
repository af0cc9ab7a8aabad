/- ClientTimes: when a call goes again, when it is given up. -/
import Derived.Test.YtgdhiihfcngjbaaClMany
set_option linter.unusedSimpArgs false
set_option linter.unusedVariables false
namespace Go.Proofs.Ytgdhiihfcngjbaa
open Go.RowKit
set_option maxRecDepth 100000

def tOp : OpD := ⟨1, 1, 0, (⟨#[103]⟩ : ByteArray).toList, (⟨#[109]⟩ : ByteArray).toList, []⟩
def tDead : CliD := ⟨1, 1, [], [⟨1, 1, 0, 40, zeroV⟩]⟩
/-- After i ticks: nobody took the calls; somebody took them each time, ahead of taking and behind it. -/
def tsN (i : Nat) : CliD := if i < 3000 then ⟨1, 1, [⟨tOp, i, decide (10 ≤ i)⟩], []⟩ else tDead
def tsU (i : Nat) : CliD := if i < 3000 then ⟨1, 1, [⟨tOp, i, i % 10 == 0⟩], []⟩ else tDead
def tsT (i : Nat) : CliD := if i < 3000 then ⟨1, 1, [⟨tOp, i, false⟩], []⟩ else tDead
def ts (take : Bool) (i : Nat) : CliD := if take then tsT i else tsN i
theorem tick_dead : tickD tDead = tDead := rfl
theorem tick_one (i : Nat) (b : Bool) : tickD ⟨1, 1, [⟨tOp, i, b⟩], []⟩ = if i + 1 < 3000 then ⟨1, 1, [⟨tOp, i + 1, b || (i + 1) % 10 == 0⟩], []⟩ else tDead := by
  by_cases h : i + 1 < 3000
  · rw [if_pos h]
    have hk : keepO ⟨tOp, i, b⟩ = true := decide_eq_true h
    simp [tickD, hk, tickO]
  · rw [if_neg h]
    have hk : keepO ⟨tOp, i, b⟩ = false := decide_eq_false h
    simp [tickD, hk, goneO, tDead]
    exact ⟨rfl, rfl, rfl⟩
theorem tick_N (i : Nat) : tickD (tsN i) = tsN (i + 1) := by
  unfold tsN
  by_cases h : i < 3000
  · rw [if_pos h, tick_one]
    by_cases h2 : i + 1 < 3000
    · rw [if_pos h2, if_pos h2]
      congr 3
      by_cases h3 : 10 ≤ i
      · rw [decide_eq_true h3, decide_eq_true (by omega)]; rfl
      · rw [decide_eq_false h3, Bool.false_or]
        by_cases h4 : i = 9
        · subst h4; rfl
        · rw [decide_eq_false (by omega)]
          exact beq_eq_false_iff_ne.2 (by omega)
    · rw [if_neg h2, if_neg h2]
  · rw [if_neg h, if_neg (by omega), tick_dead]
theorem tick_T (i : Nat) : tickD (tsT i) = tsU (i + 1) := by
  unfold tsT tsU
  by_cases h : i < 3000
  · rw [if_pos h, tick_one]
    rfl
  · rw [if_neg h, if_neg (by omega), tick_dead]
theorem out_U (i : Nat) : outD (tsU i) = tsT i := by
  unfold tsT tsU
  by_cases h : i < 3000
  · rw [if_pos h, if_pos h]; rfl
  · rw [if_neg h, if_neg h]; rfl
theorem outL_U (i : Nat) : (outL (tsU i)).length = if i % 10 = 0 ∧ i < 3000 then 1 else 0 := by
  unfold tsU
  by_cases h : i < 3000
  · rw [if_pos h]
    by_cases h2 : i % 10 = 0
    · rw [if_pos ⟨h2, h⟩]; simp [outL, h2]
    · rw [if_neg (fun e => h2 e.1)]; simp [outL, h2]
  · rw [if_neg h, if_neg (fun e => h e.2)]; rfl
theorem ts_age (take : Bool) (i : Nat) : ∀ x ∈ (ts take i).op, x.age < 1000000 := by
  intro x hx
  cases take
  · simp only [ts, tsN] at hx
    by_cases h : i < 3000
    · simp [h] at hx; subst hx; show i < _; omega
    · simp [h, tDead] at hx
  · simp only [ts, tsT] at hx
    by_cases h : i < 3000
    · simp [h] at hx; subst hx; show i < _; omega
    · simp [h, tDead] at hx
theorem ts_rp (take : Bool) (i : Nat) : (ts take i).rp.length ≤ 1 := by
  cases take
  · simp only [ts, tsN]; by_cases h : i < 3000 <;> simp [h, tDead]
  · simp only [ts, tsT]; by_cases h : i < 3000 <;> simp [h, tDead]
theorem ts_live (take : Bool) {i : Nat} (h : i < 3000) : (ts take i).rp = [] ∧ (ts take i).op.length = 1 := by
  cases take
  · simp [ts, tsN, h]
  · simp [ts, tsT, h]
theorem ts_dead (take : Bool) {i : Nat} (h : ¬ i < 3000) : ts take i = tDead := by
  cases take
  · simp [ts, tsN, h]
  · simp [ts, tsT, h]
theorem t0E : callE ⟨1, 0, [], []⟩ (⟨#[103]⟩ : ByteArray) (⟨#[109]⟩ : ByteArray) [] = 0 := goodE (by decide)
theorem t0D : callD ⟨1, 0, [], []⟩ (⟨#[103]⟩ : ByteArray) (⟨#[109]⟩ : ByteArray) [] = ⟨1, 1, [⟨tOp, 0, true⟩], []⟩ := by unfold callD; rw [if_pos t0E]; rfl
theorem t0C : callC ⟨1, 0, [], []⟩ (⟨#[103]⟩ : ByteArray) (⟨#[109]⟩ : ByteArray) [] = 1 := by unfold callC; rw [if_pos t0E]
theorem t0S : callS ⟨1, 0, [], []⟩ (⟨#[103]⟩ : ByteArray) (⟨#[109]⟩ : ByteArray) [] = 1 := by unfold callS; rw [if_pos t0E]
theorem ts_zero (take : Bool) : outD ⟨1, 1, [⟨tOp, 0, true⟩], []⟩ = ts take 0 := by cases take <;> rfl

set_option maxHeartbeats 6400000 in
theorem clientTimes_walk (n : Int) (take : Bool) (w : World) (h0 : 0 ≤ n) (h9 : n ≤ 65535) : Calls Try.prog 4 #[.int .u16 n, .bool take] w (fun e w' => e = .returned (.bool true) ∧ Below w.heap.size w w') := by
  have hsf := fun a k x m w => run_store_float (P := Try.prog) a k x m w
  have hkn := fun W => known_true W
  obtain ⟨k, hm⟩ : ∃ k : Nat, n % 3005 = (k : Int) := ⟨(n % 3005).toNat, by omega⟩
  have t4 : n.tmod 3005 = (k : Int) := by rw [Int.tmod_eq_emod_of_nonneg h0]; exact hm
  have hk5 : k < 3005 := by omega
  have wu : IntKind.u16.wrap (k : Int) = (k : Int) := by unfold IntKind.wrap; simp [IntKind.bits, IntKind.signed]; omega
  have wm : IntKind.i64.wrap (k : Int) = (k : Int) := by rw [IntKind.wrap_i64]; omega
  replace hkn := Lib.hid hkn
  go_enter Try.func4, Try.ntmps4
  go_wp2_with fail
  refine (hkn.out w).mono ?_
  rintro e w0 ⟨rfl, hb0⟩
  try dsimp only
  go_wp2_with fail
  refine (cl_new w0 1 3 (by decide)).mono ?_
  rintro e w1 ⟨rfl, hS1, hb1⟩
  try dsimp only
  obtain ⟨G, hG⟩ : ∃ y, w0.heap.size = y := ⟨_, rfl⟩
  have hs0 := hb0.size
  have hs1 := hb1.size
  have hb01 : Below w.heap.size w w1 := below_then hb1 hb0
  rw [hG] at hS1 hs0 ⊢
  have hFF1 : ∀ y, y = G → w.heap.size ≤ y ∧ ¬ False := fun y e => ⟨by omega, fun h => h⟩
  have hc1 := cl_callS hS1 (held_none w1 (fun y => y = G) 1 1 0 (⟨#[103]⟩ : ByteArray) (⟨#[109]⟩ : ByteArray) (by decide) (by decide) (by decide)) (by decide) (show (0 : Nat) < 1000000 by omega) (by decide) (by decide)
  rw [t0D, t0E, t0C, t0S, List.length_nil] at hc1
  clear hb0 hb1
  replace hS1 := Lib.hid hS1
  replace hc1 := Lib.hid hc1
  go_wp2_with fail
  refine hc1.out.mono ?_
  clear hc1
  rintro e w4 ⟨rfl, hC4⟩
  try dsimp only
  obtain ⟨F4, hS4, hF4, hb4, -⟩ := hC4.next (b := w.heap.size) (K := fun _ => False) (w0 := w) hFF1 (fun _ hf => hf.elim) hb01 hb01.size
  obtain ⟨w5, hw5⟩ : ∃ q, q = w4.alloc (.cells #[.int .u32 1, .int .u32 1, .int .u16 0] 29) := ⟨_, rfl⟩
  have hb45 : Below w4.heap.size w4 w5 := by rw [hw5]; exact (Below.refl _ _).alloc (Nat.le_refl _) _
  have hbx : Blk w5 w4.heap.size 29 #[.int .u32 1, .int .u32 1, .int .u16 0] := by rw [hw5]; exact Blk.new w4 _ _
  have hb5 := hb4.trans (hb45.mono hb4.size)
  have hS5 := hS4.below hb45
  obtain ⟨bx, hbxe⟩ : ∃ y, w4.heap.size = y := ⟨_, rfl⟩
  have hFF4 : ∀ y, F4 y → w.heap.size ≤ y ∧ ¬ y = bx := fun y hy => ⟨(hF4 y hy).1, fun e => by have := hS4.ft y hy; omega⟩
  rw [hbxe] at hbx
  have hc2 := cl_outS hS5
  replace hc2 := Lib.hid hc2
  clear hS4 hC4 hb45 hS1 hS5
  go_upto_region 5 with (fail)
  rw [← hw5]
  try rw [hbxe]
  clear hw5
  go_wp2_with fail
  refine hc2.out.mono ?_
  clear hc2
  rintro e w6 ⟨Ao, co, xo, cso, rfl, -, hC6⟩
  rw [show (outL ⟨1, 1, [⟨tOp, 0, true⟩], []⟩).length = 1 from rfl]
  rw [ts_zero take] at hC6
  try dsimp only
  obtain ⟨F6, hS6, hF6, hb6, hu6⟩ := hC6.next (b := w.heap.size) (K := fun y => y = bx) (w0 := w) hFF4 (fun y e => by rw [e]; exact hbx.lt) hb5 hb5.size
  have hbx6 := hbx.upd hu6 (fun h => h rfl)
  clear hu6 hC6 hbx
  replace hS6 := Lib.hid hS6
  replace hF6 := Lib.hid hF6
  go_wp2_with fail
  go_loopw [9] (fun i wr => ∃ (j : Nat) (F : Nat → Prop), 1 ≤ j ∧ j ≤ k + 1 ∧ i = .int .i64 (j : Int) ∧ StubS wr F G (ts take (j - 1)) ∧ (∀ y, F y → w.heap.size ≤ y ∧ ¬ y = bx) ∧ Blk wr bx 29 #[.int .u32 1, .int .u32 1, .int .u16 0] ∧ Below w.heap.size w wr) (fun i _ => k + 1 - (intOf i).toNat)
  case atStart => exact ⟨1, F6, by omega, by omega, rfl, hS6.out, hF6.out, hbx6, hb6⟩
  case round =>
    clear hS6 hF6 hbx6 hb6
    rename_i hrel
    obtain ⟨j, F, hj1, hj2, rfl, hS, hF, hbx, hb⟩ := hrel
    have hsr := hb.size
    by_cases hlt : j ≤ k
    · have hd : decide ((j : Int) ≤ (k : Int)) = true := decide_eq_true (by omega)
      have hjw : IntKind.i64.wrap ((j : Int) + 1) = (j : Int) + 1 := by rw [IntKind.wrap_i64]; omega
      have hj3 : j - 1 + 1 = j := by omega
      have hc1 := cl_tickS hS (ts_age take (j - 1)) (by have := ts_rp take (j - 1); omega)
      replace hc1 := Lib.hid hc1
      replace hS := Lib.hid hS
      replace hF := Lib.hid hF
      replace hj3 := Lib.hid hj3
      go_wp2_with fail
      refine hc1.out.mono ?_
      clear hc1
      rintro e w4 ⟨rfl, hC4⟩
      try dsimp only
      obtain ⟨F4, hS4, hF4, hb4, hu4⟩ := hC4.next (b := w.heap.size) (K := fun y => y = bx) (w0 := w) hF.out (fun y e => by rw [e]; exact hbx.lt) hb hsr
      have hbx4 := hbx.upd hu4 (fun h => h rfl)
      clear hu4 hC4 hbx
      cases take
      · have hS4' : StubS w4 F4 G (ts false j) := by
          have h1 := hS4
          rw [show ts false (j - 1) = tsN (j - 1) from rfl, tick_N, hj3.out] at h1
          exact h1
        replace hS4' := Lib.hid hS4'
        replace hF4 := Lib.hid hF4
        clear hS4
        go_wp2_with fail
        go_roundw
        case rel => exact ⟨j + 1, F4, by omega, by omega, by simp, by rw [Nat.add_sub_cancel]; exact hS4'.out, hF4.out, hbx4, hb4⟩
        case measure => simp [intOf]; omega
      · rw [show ts true (j - 1) = tsT (j - 1) from rfl, tick_T, hj3.out] at hS4
        have hc2 := cl_outS hS4
        rw [outL_U, out_U] at hc2
        obtain ⟨q10, hq10⟩ : ∃ q, (j % 10 == 0) = q := ⟨_, rfl⟩
        have hten : (Int.tmod (j : Int) 10 == 0) = q10 := by
          rw [← hq10, Int.tmod_eq_emod_of_nonneg (by omega)]
          by_cases h : j % 10 = 0
          · rw [show (j : Int) % 10 = 0 by omega, h]; rfl
          · rw [beq_eq_false_iff_ne.2 (show (j : Int) % 10 ≠ 0 by omega), beq_eq_false_iff_ne.2 h]
        have hten' : ((j : Int) % 10 == 0) = q10 := by rw [← hten, Int.tmod_eq_emod_of_nonneg (by omega)]
        replace hc2 := Lib.hid hc2
        replace hS4 := Lib.hid hS4
        replace hF4 := Lib.hid hF4
        have hend : ∀ w5, Cli w4 w5 F4 G (tsT j) → ∃ F5, StubS w5 F5 G (ts true (j + 1 - 1)) ∧ (∀ y, F5 y → w.heap.size ≤ y ∧ ¬ y = bx) ∧ Blk w5 bx 29 #[.int .u32 1, .int .u32 1, .int .u16 0] ∧ Below w.heap.size w w5 := fun w5 hC => by
          obtain ⟨F5, hS5, hF5, hb5, hu5⟩ := hC.next (b := w.heap.size) (K := fun y => y = bx) (w0 := w) hF4.out (fun y e => by rw [e]; exact hbx4.lt) hb4 hb4.size
          exact ⟨F5, by rw [Nat.add_sub_cancel]; exact hS5, hF5, hbx4.upd hu5 (fun h => h rfl), hb5⟩
        replace hend := Lib.hid hend
        cases q10
        · have hL : (if j % 10 = 0 ∧ j < 3000 then 1 else 0 : Nat) = 0 := if_neg (fun e => by rw [beq_eq_false_iff_ne] at hq10; exact hq10 e.1)
          rw [hL] at hc2
          clear hL hq10
          go_wp2_with fail
          refine hc2.out.mono ?_
          clear hc2
          rintro e w5 ⟨Ao, co, xo, cso, rfl, -, hC5⟩
          try dsimp only
          obtain ⟨F5, hS5, hF5, hbx5, hb5⟩ := hend.out w5 hC5
          replace hS5 := Lib.hid hS5
          replace hF5 := Lib.hid hF5
          clear hC5
          go_wp2_with fail
          go_roundw
          case rel => exact ⟨j + 1, F5, by omega, by omega, by simp, hS5.out, hF5.out, hbx5, hb5⟩
          case measure => simp [intOf]; omega
        · have h10 : j % 10 = 0 := by simpa using hq10
          by_cases h3 : j < 3000
          · have hd3 : decide ((j : Int) < 3000) = true := decide_eq_true (by omega)
            rw [if_pos ⟨h10, h3⟩] at hc2
            clear hq10 h10
            go_wp2_with fail
            refine hc2.out.mono ?_
            clear hc2
            rintro e w5 ⟨Ao, co, xo, cso, rfl, -, hC5⟩
            try dsimp only
            obtain ⟨F5, hS5, hF5, hbx5, hb5⟩ := hend.out w5 hC5
            replace hS5 := Lib.hid hS5
            replace hF5 := Lib.hid hF5
            clear hC5
            go_wp2_with fail
            go_roundw
            case rel => exact ⟨j + 1, F5, by omega, by omega, by simp, hS5.out, hF5.out, hbx5, hb5⟩
            case measure => simp [intOf]; omega
          · have hd3 : decide ((j : Int) < 3000) = false := decide_eq_false (by omega)
            rw [if_neg (fun e => h3 e.2)] at hc2
            clear hq10 h10
            go_wp2_with fail
            refine hc2.out.mono ?_
            clear hc2
            rintro e w5 ⟨Ao, co, xo, cso, rfl, -, hC5⟩
            try dsimp only
            obtain ⟨F5, hS5, hF5, hbx5, hb5⟩ := hend.out w5 hC5
            replace hS5 := Lib.hid hS5
            replace hF5 := Lib.hid hF5
            clear hC5
            go_wp2_with fail
            go_roundw
            case rel => exact ⟨j + 1, F5, by omega, by omega, by simp, hS5.out, hF5.out, hbx5, hb5⟩
            case measure => simp [intOf]; omega
    · have hjk : j = k + 1 := by omega
      subst hjk
      rw [Nat.add_sub_cancel] at hS
      have hd : decide (((k + 1 : Nat) : Int) ≤ (k : Int)) = false := decide_eq_false (by omega)
      have hc1 := cl_repliesS hS (by
        intro x hx
        by_cases h : k < 3000
        · rw [(ts_live take h).1] at hx; cases hx
        · rw [ts_dead take h] at hx
          simp [tDead] at hx
          subst hx
          exact zero_ok)
      have hft := hS.ft
      replace hF := Lib.hid hF
      by_cases h3 : k < 3000
      · have hd3 : decide ((k : Int) < 3000) = true := decide_eq_true (by omega)
        have hlv := ts_live take h3
        rw [hlv.1, List.length_nil] at hc1
        replace hc1 := Lib.hid hc1
        replace hS := Lib.hid hS
        replace hlv := Lib.hid hlv
        go_wp2_with fail
        refine hc1.out.mono ?_
        clear hc1
        rintro e w5 ⟨A', c', xs', css', rfl, -, hb5⟩
        try dsimp only
        have hc2 := cl_openS (hS.out.below hb5)
        rw [hlv.out.2] at hc2
        have hb5' := hb.trans (hb5.mono hsr)
        replace hc2 := Lib.hid hc2
        go_wp2_with fail
        refine hc2.out.mono ?_
        clear hc2
        rintro e w6 ⟨A4, c4, rfl, -, -, hb6⟩
        try dsimp only
        have hb6' := hb5'.trans (hb6.mono hb5'.size)
        go_wp2_with fail
        go_ret
        exact ⟨rfl, hb6'⟩
      · have hd3 : decide ((k : Int) < 3000) = false := decide_eq_false (by omega)
        rw [ts_dead take h3] at hc1 hS
        rw [show tDead.rp.length = 1 from rfl, show tDead.rp.map clR = [⟨1, 1, 0, 40, .mk 0 0 0 [] []⟩] from rfl] at hc1
        replace hc1 := Lib.hid hc1
        replace hS := Lib.hid hS
        go_wp2_with fail
        refine hc1.out.mono ?_
        clear hc1
        rintro e w5 ⟨A', c', xs', css', rfl, hP5, hb5⟩
        try dsimp only
        have hS5 := hS.out.below hb5
        have hbx5 := hbx.below hb5 hbx.lt
        have hb5' := hb.trans (hb5.mono hsr)
        have hcap : 1 ≤ c' := hP5.ho.le_cap
        obtain ⟨gB, Av, cv, rfl, -, r0, r1, r2, r3, -, -, -, -, -⟩ := hP5.cells (j := 0) rfl
        simp only [Nat.zero_mul, Nat.zero_add] at r0 r1 r2 r3
        have hSP : Blk w5.drew bx 29 #[.int .u32 1, .int .u32 1, .int .u16 0] ∧ w5.drew.cell? ⟨gB, 0, none⟩ = some (.int .u32 1) ∧ w5.drew.cell? ⟨gB, 1, none⟩ = some (.int .u32 1) ∧ w5.drew.cell? ⟨gB, 2, none⟩ = some (.int .u16 0) ∧ w5.drew.cell? ⟨gB, 3, none⟩ = some (.int .i64 40) := ⟨hbx5.drewN 1, r0, r1, r2, r3⟩
        have hgB : gB < w5.heap.size := by
          obtain ⟨g', cur, e, hb', -⟩ := hP5.ho.open_s (by decide)
          cases e
          exact hb'.lt
        clear hP5 hbx
        go_upto_region 21 with (fail)
        refine wp_region_lex (fun W => Blk W bx 29 #[.int .u32 1, .int .u32 1, .int .u16 0] ∧ W.cell? ⟨gB, 0, none⟩ = some (.int .u32 1) ∧ W.cell? ⟨gB, 1, none⟩ = some (.int .u32 1) ∧ W.cell? ⟨gB, 2, none⟩ = some (.int .u16 0) ∧ W.cell? ⟨gB, 3, none⟩ = some (.int .i64 40)) [7, 8, 15] [20] [0, 1, 2, 3, 4, 5, 6, 7, 8, 9, 10, 11, 12, 13, 14, 15, 16, 17, 18, 19, 20, 21, 22, 23, 24] (by kernel_rfl) rfl (by kernel_rfl) (by kernel_rfl) (fun _ _ d _ _ h => by cases d <;> exact h) ?_
        repeat (first | (refine lexG_take _ ?_ rfl rfl rfl rfl (fun _ => ?_) ?_; rotate_left; (focus (go_simp; with_reducible rfl)); try simp only [Act.put, List.setIfInBounds_toArray, List.set_cons_zero, List.set_cons_succ]) | (refine lexG_held _ ?_ rfl rfl rfl rfl (by assumption) (fun _ hSw => ?_) ?_; rotate_left; (focus (have h1 := hSw.1.cell 0; have h2 := hSw.1.cell 1; have h3 := hSw.1.cell 2; have h4 := hSw.2.1; have h5 := hSw.2.2.1; have h6 := hSw.2.2.2.1; have h7 := hSw.2.2.2.2; clear hSw; go_simp; with_reducible rfl)); try simp only [Act.put, List.setIfInBounds_toArray, List.set_cons_zero, List.set_cons_succ]) | (refine lexG_skip _ rfl rfl (by assumption) ?_; try simp only [Act.put, List.setIfInBounds_toArray, List.set_cons_zero, List.set_cons_succ]))
        have hc2 := cl_openS (hS5.below (Below.refl w5.heap.size w5).drew)
        rw [show tDead.op.length = 0 from rfl] at hc2
        refine lexG_now _ rfl rfl rfl (fun K0 hK => ?_)
        go_wp2_with fail
        refine hc2.mono ?_
        clear hc2
        rintro e w6 ⟨A4, c4, rfl, -, -, hb6⟩
        try dsimp only
        have hb56 := below_then hb6 (Below.refl w5.heap.size w5).drew
        have hb6' := hb5'.trans (hb56.mono hb5'.size)
        refine hK _ _ _ (fun _ h => h) ⟨hbx5.below hb56 hbx5.lt, (hb56.cell (p := ⟨gB, _, none⟩) hgB).trans r0, (hb56.cell (p := ⟨gB, _, none⟩) hgB).trans r1, (hb56.cell (p := ⟨gB, _, none⟩) hgB).trans r2, (hb56.cell (p := ⟨gB, _, none⟩) hgB).trans r3⟩ ?_
        clear hK K0
        try simp only [Act.put, List.setIfInBounds_toArray, List.set_cons_zero, List.set_cons_succ]
        repeat (first | (refine lexG_take _ ?_ rfl rfl rfl rfl (fun _ => ?_) ?_; rotate_left; (focus (go_simp; with_reducible rfl)); try simp only [Act.put, List.setIfInBounds_toArray, List.set_cons_zero, List.set_cons_succ]) | (refine lexG_held _ ?_ rfl rfl rfl rfl (by assumption) (fun _ hSw => ?_) ?_; rotate_left; (focus (have h1 := hSw.1.cell 0; have h2 := hSw.1.cell 1; have h3 := hSw.1.cell 2; have h4 := hSw.2.1; have h5 := hSw.2.2.1; have h6 := hSw.2.2.2.1; have h7 := hSw.2.2.2.2; clear hSw; go_simp; with_reducible rfl)); try simp only [Act.put, List.setIfInBounds_toArray, List.set_cons_zero, List.set_cons_succ]) | (refine lexG_skip _ rfl rfl (by assumption) ?_; try simp only [Act.put, List.setIfInBounds_toArray, List.set_cons_zero, List.set_cons_succ]))
        refine lexG_nil ?_
        go_wp2_with fail
        go_ret
        exact ⟨rfl, hb6'⟩
end Go.Proofs.Ytgdhiihfcngjbaa
