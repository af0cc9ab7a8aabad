/- Floats' digits: the scale of a power of ten; the shortest digits of a power of two. -/
import Derived.Test.YtdbmffagibnibaaGreatDoorFf1
set_option linter.unusedSimpArgs false
set_option linter.unusedVariables false
namespace Go.Proofs.YtdbmffagibnibaaGreatDoor
open Go.RowKit Go.Sort Go.Lib
set_option maxRecDepth 100000

/-- Row i of the table of powers of ten. -/
def PowAt (w : World) (i h l : Nat) : Prop := w.cell? ⟨13, i * 2, none⟩ = some (.int .u64 (h : Int)) ∧ w.cell? ⟨13, i * 2 + 1, none⟩ = some (.int .u64 (l : Int))
theorem PowAt.below {w w' : World} {i h l B : Nat} (hp : PowAt w i h l) (hb : Below B w w') (hB : 13 < B) : PowAt w' i h l :=
  ⟨(hb.cell (p := ⟨_, _, none⟩) hB).trans hp.1, (hb.cell (p := ⟨_, _, none⟩) hB).trans hp.2⟩

set_option maxHeartbeats 3200000 in
theorem prescale_walk (y i h l : Nat) (e p lp : Int) (s : Nat) (a b c : Value) (w : World) (hy : Blk w y 130 #[a, b, c]) (hg : 13 < y) (hi : p + 348 = (i : Int)) (hi2 : i < 696) (hp : PowAt w i h l)
    (he0 : -4000 ≤ e) (he1 : e ≤ 4000) (hl0 : -4000 ≤ lp) (hl1 : lp ≤ 4000) (hs : -(e + lp + 3) = (s : Int)) :
    Calls Tryz.prog 120 #[.pointer (some ⟨y, 0, none⟩), .int .i64 e, .int .i64 p, .int .i64 lp] w (fun r w' => r = .returned (.tuple #[]) ∧ Below y w w' ∧ Blk w' y 130 #[.int .u64 (h : Int), .int .u64 (l : Int), .int .i64 (s : Int)]) := by
  obtain ⟨ch, cl⟩ := hp
  have k0 := hy.cell 0
  have k1 := hy.cell 1
  have k2 := hy.cell 2
  have f0 := hy.frozen 0
  have f1 := hy.frozen 1
  have f2 := hy.frozen 2
  have w1 : IntKind.i64.wrap (p - -348) = (i : Int) := by rw [IntKind.wrap_i64]; omega
  have w2 : IntKind.i64.wrap (e + lp) = e + lp := by rw [IntKind.wrap_i64]; omega
  have w3 : IntKind.i64.wrap (e + lp + 3) = e + lp + 3 := by rw [IntKind.wrap_i64]; omega
  have w4 : IntKind.i64.wrap (-(e + lp + 3)) = (s : Int) := by rw [IntKind.wrap_i64]; omega
  go_enter Tryz.func120, Tryz.ntmps120
  go_wp2_with fail
  refine bodyPost_end (results_none rfl _ _ _) rfl ⟨rfl, ?_, ?_⟩
  · exact (((Below.refl y w).setCell (p := ⟨y, 0, none⟩) (Nat.le_refl _) _).setCell (p := ⟨y, 1, none⟩) (Nat.le_refl _) _).setCell (p := ⟨y, 2, none⟩) (Nat.le_refl _) _
  · exact ((hy.set_ 0 _).set_ 1 _).set_ 2 _

theorem nudge0 (U : Nat) (hU : U < 18446744073709551616) (w : World) : Calls Tryz.prog 123 #[.int .u64 (U : Int), .int .i64 0] w (fun r w' => r = .returned (.int .u64 (U : Int)) ∧ w' = w) := by
  have h := nudge_walk (U : Int) 0 w
  rw [show IntKind.u64.wrap ((U : Int) + IntKind.u64.wrap 0) = (U : Int) from by rw [IntKind.wrap_u64, IntKind.wrap_u64]; omega] at h
  exact h
theorem ceilN (U D : Nat) (hD : (U + 3) % 18446744073709551616 / 4 = D) (w : World) : Calls Tryz.prog 124 #[.int .u64 (U : Int)] w (fun r w' => r = .returned (.int .u64 (D : Int)) ∧ w' = w) := by
  have h := ceil_walk (U : Int) w
  rw [show IntKind.u64.wrap ((U : Int) + 3) / 4 = (D : Int) from by rw [IntKind.wrap_u64]; omega] at h
  exact h
theorem floorN (U D : Nat) (hU : U < 18446744073709551616) (hD : U / 4 = D) (w : World) : Calls Tryz.prog 125 #[.int .u64 (U : Int)] w (fun r w' => r = .returned (.int .u64 (D : Int)) ∧ w' = w) := by
  have h := floor_walk U hU w
  rw [show (U : Int) / 4 = (D : Int) from by omega] at h
  exact h
set_option maxHeartbeats 6400000 in
/-- shortFloat at a power of two, where a digit fewer does. -/
theorem short_walk (e Z : Int) (i h l s D1 D2 : Nat) (w : World) (he0 : -1085 < e) (he1 : e ≤ 1000) (hg : 13 < w.heap.size) (hZ : ((e + 11) * 631305 - 261663) / 2097152 = Z) (hi : -Z + 348 = (i : Int)) (hi2 : i < 696) (hp : PowAt w i h l)
    (hh : h < 18446744073709551616) (hl : l < 18446744073709551616) (hs : -(e + -Z * 108853 / 32768 + 3) = (s : Int)) (hs2 : s < 64)
    (hD1 : (uscN 9223372036854775296 h l s + 3) % 18446744073709551616 / 4 = D1) (hD2 : uscN 9223372036854776832 h l s / 4 = D2) (hge : D1 ≤ D2 / 10 * 10) :
    Calls Tryz.prog 104 #[.int .u64 9223372036854775808, .int .i64 e] w (fun r w' => r = .returned (.tuple #[.int .u64 ((D2 / 10 : Nat) : Int), .int .i64 (Z + 1)]) ∧ Below w.heap.size w w') := by
  have hZ0 : -400 ≤ Z ∧ Z ≤ 400 := by omega
  obtain ⟨U1, hU1⟩ : ∃ U, uscN 9223372036854775296 h l s = U := ⟨_, rfl⟩
  obtain ⟨U2, hU2⟩ : ∃ U, uscN 9223372036854776832 h l s = U := ⟨_, rfl⟩
  have hU1l : U1 < 18446744073709551616 := by rw [← hU1]; exact uscN_lt _ _ _ _ (by omega) hh
  have hU2l : U2 < 18446744073709551616 := by rw [← hU2]; exact uscN_lt _ _ _ _ (by omega) hh
  rw [hU1] at hD1
  rw [hU2] at hD2
  have w1 : IntKind.i64.wrap (e + 11) = e + 11 := by rw [IntKind.wrap_i64]; omega
  have w2 : IntKind.i64.wrap (-Z) = -Z := by rw [IntKind.wrap_i64]; omega
  have w3 : IntKind.i64.wrap (-Z - 1) = -Z - 1 := by rw [IntKind.wrap_i64]; omega
  have w4 : IntKind.i64.wrap (-(-Z - 1)) = Z + 1 := by rw [IntKind.wrap_i64]; omega
  have dgt : decide ((-1085 : Int) < e) = true := decide_eq_true he0
  have hsk := fun W => skewed_walk (e + 11) (by omega) (by omega) W
  rw [hZ] at hsk
  have hlg := fun W => log2Pow10_walk (-Z) (by omega) (by omega) W
  obtain ⟨LP, hLP⟩ : ∃ LP, -Z * 108853 / 32768 = LP := ⟨_, rfl⟩
  rw [hLP] at hlg hs
  have hLP0 : -2000 ≤ LP ∧ LP ≤ 2000 := by omega
  replace hsk := Lib.hid hsk
  replace hlg := Lib.hid hlg
  have hbx := Blk.new w 130 #[.int .u64 0, .int .u64 0, .int .i64 0]
  have hb0 := (Below.refl w.heap.size w).alloc (Nat.le_refl _) (.cells #[.int .u64 0, .int .u64 0, .int .i64 0] 130)
  have hp0 := hp.below hb0 hg
  obtain ⟨X, hX⟩ : ∃ X, D2 / 10 = X := ⟨_, rfl⟩
  have hXi : (D2 : Int) / 10 = (X : Int) := by omega
  have hXt : Int.tdiv (D2 : Int) 10 = (X : Int) := by rw [Int.tdiv_eq_ediv_of_nonneg (by omega)]; exact hXi
  have hX10 : IntKind.u64.wrap ((X : Int) * 10) = (X : Int) * 10 := by rw [IntKind.wrap_u64]; omega
  have hXw : IntKind.u64.wrap (X : Int) = (X : Int) := by rw [IntKind.wrap_u64]; omega
  have hgeD : decide ((D1 : Int) ≤ (X : Int) * 10) = true := decide_eq_true (by omega)
  rw [hX]
  go_enter Tryz.func104, Tryz.ntmps104
  go_wp2_with fail
  refine (hsk.out _).mono ?_
  clear hsk
  rintro e1 w1' ⟨rfl, rfl⟩
  dsimp only
  obtain ⟨y, hy⟩ : ∃ y, w1'.heap.size = y := ⟨_, rfl⟩
  rw [hy] at hbx hg
  replace hy := Lib.hid hy
  have hodd : bits .and .i64 4503599627370496 1 = 0 := by decide
  go_upto_region 28 with (fail)
  try rw [hy.out]
  generalize w1'.alloc (.cells #[.int .u64 0, .int .u64 0, .int .i64 0] 130) = w2 at *
  have hyB : w1'.heap.size ≤ y := by rw [hy.out]; exact Nat.le_refl _
  clear hy
  go_wp2_with fail
  refine (hlg.out _).mono ?_
  clear hlg
  rintro e2 w3 ⟨rfl, rfl⟩
  dsimp only
  have hps := prescale_walk y i h l e (-Z) LP s _ _ _ w3 hbx hg hi hi2 hp0 (by omega) (by omega) (by omega) (by omega) hs
  replace hps := Lib.hid hps
  go_wp2_with fail
  refine hps.out.mono ?_
  clear hps
  rintro e3 w4 ⟨rfl, hb4, hq4⟩
  dsimp only
  have hb04 := Below.trans hb0 (hb4.mono hyB)
  clear hb0 hb4 hbx hp0 hp
  have c0 := hq4.cell 0
  have c1 := hq4.cell 1
  have c2 := hq4.cell 2
  have hu1 := uscale_walk 9223372036854775296 h l s y w4 (by omega) hh hl hs2 c0 c1 c2
  rw [hU1] at hu1
  replace hu1 := Lib.hid hu1
  go_wp2_with fail
  refine hu1.out.mono ?_
  clear hu1 c0 c1 c2
  rintro e4 w5 ⟨rfl, hb5⟩
  dsimp only
  have hq5 := hq4.below hb5 hq4.lt
  have hb05 := Below.trans hb04 (hb5.mono (Nat.le_trans (by omega) hb04.size))
  clear hb5 hq4 hb04
  have hn1 := fun W => nudge0 U1 hU1l W
  have hn2 := fun W => nudge0 U2 hU2l W
  have hc1 := fun W => ceilN U1 D1 hD1 W
  have hf2 := fun W => floorN U2 D2 hU2l hD2 W
  have c0 := hq5.cell 0
  have c1 := hq5.cell 1
  have c2 := hq5.cell 2
  have hu2 := uscale_walk 9223372036854776832 h l s y w5 (by omega) hh hl hs2 c0 c1 c2
  rw [hU2] at hu2
  replace hu2 := Lib.hid hu2
  replace hn1 := Lib.hid hn1
  replace hn2 := Lib.hid hn2
  replace hc1 := Lib.hid hc1
  replace hf2 := Lib.hid hf2
  have hneg : IntKind.i64.wrap (-0) = 0 := by decide
  go_wp2_with fail
  refine (hn1.out _).mono ?_
  clear hn1
  rintro e5 w6 ⟨rfl, rfl⟩
  dsimp only
  go_wp2_with fail
  refine (hc1.out _).mono ?_
  clear hc1
  rintro e6 w7 ⟨rfl, rfl⟩
  dsimp only
  go_wp2_with fail
  refine hu2.out.mono ?_
  clear hu2 c0 c1 c2
  rintro e7 w8 ⟨rfl, hb8⟩
  dsimp only
  have hb08 := Below.trans hb05 (hb8.mono (Nat.le_trans (by omega) hb05.size))
  clear hb8 hq5 hb05
  go_wp2_with fail
  refine (hn2.out _).mono ?_
  clear hn2
  rintro e9 w9 ⟨rfl, rfl⟩
  dsimp only
  go_wp2_with fail
  refine (hf2.out _).mono ?_
  clear hf2
  rintro e10 w10 ⟨rfl, rfl⟩
  dsimp only
  go_wp2_with fail
  go_ret2
  exact ⟨rfl, hb08⟩
end Go.Proofs.YtdbmffagibnibaaGreatDoor
