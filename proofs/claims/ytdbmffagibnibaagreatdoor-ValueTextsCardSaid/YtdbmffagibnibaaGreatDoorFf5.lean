/- Floats' texts: ftoa64 at 0.5 and at 2.0. (Printed by gen_ff5.py.) -/
import Derived.Test.YtdbmffagibnibaaGreatDoorFf4
set_option linter.unusedSimpArgs false
set_option linter.unusedVariables false
namespace Go.Proofs.YtdbmffagibnibaaGreatDoor
open Go.RowKit Go.Sort Go.Lib
set_option maxRecDepth 100000

theorem run_bits2 (n : Nat) (w : World) : (callFunc 94 #[.float .f64 n]).run Tryz.prog w = .ok (.value (.int .u64 (n : Int))) w := by
  rw [run_callFunc_extern Tryz.func94 (by kernel_rfl) (by kernel_rfl) (by kernel_rfl) (e := Extern.MathFloatBits.float64bits) (by kernel_rfl)]
  rfl
theorem grown_below {w w' : World} (h : Below w.heap.size w w') (row : Option Nat) : w.grownBy w' row := ⟨h.os, h.tape, h.output, h.size, fun k hk _ => h.block k hk⟩
theorem FAt.below {w0 w w' : World} {D0 : Option Nat} {A : Option Addr} {n c : Nat} {S : List UInt8} (h : FAt w0 D0 w A n c S) (hb : Below w.heap.size w w') : FAt w0 D0 w' A n c S :=
  ⟨h.own.below hb (Nat.le_refl _), h.len, h.grown.andThen (grown_below hb none) (fun j hj => by cases hj), h.mine⟩
theorem FAt.then_ {w0 w w' : World} {D : Nat} {A A' : Option Addr} {n c n' c' : Nat} {S S' : List UInt8} (h : FAt w0 (some D) w A n c S) (h' : FAt w (some D) w' A' n' c' S') : FAt w0 (some D) w' A' n' c' S' :=
  ⟨h'.own, h'.len, h.grown.andThen h'.grown (fun j hj => .inr hj), fun q hq => (h'.mine q hq).imp id (Nat.le_trans h.grown.size)⟩
theorem FAt.belowY {w0 w w' : World} {D Y n c : Nat} {S : List UInt8} (h : FAt w0 (some D) w (some ⟨D, 0, none⟩) n c S) (hb : Below Y w w') (hD : D < Y) (hY : w0.heap.size ≤ Y) : FAt w0 (some D) w' (some ⟨D, 0, none⟩) n c S :=
  ⟨h.own.upd (S := fun k => Y ≤ k) ⟨hb.os, hb.tape, hb.output, hb.size, fun k hk hs => hb.block k (Nat.lt_of_not_le hs)⟩ (fun g hg => by
      have : g = D := by simp [bOf] at hg; exact hg.symm
      omega), h.len, ⟨hb.os.trans h.grown.os, hb.tape.trans h.grown.tape, hb.output.trans h.grown.output, Nat.le_trans h.grown.size hb.size, fun k hk hne => (hb.block k (by omega)).trans (h.grown.block k hk hne)⟩, h.mine⟩
abbrev zeros32 : Array Value := #[.int .u8 0, .int .u8 0, .int .u8 0, .int .u8 0, .int .u8 0, .int .u8 0, .int .u8 0, .int .u8 0, .int .u8 0, .int .u8 0, .int .u8 0, .int .u8 0, .int .u8 0, .int .u8 0, .int .u8 0, .int .u8 0, .int .u8 0, .int .u8 0, .int .u8 0, .int .u8 0, .int .u8 0, .int .u8 0, .int .u8 0, .int .u8 0, .int .u8 0, .int .u8 0, .int .u8 0, .int .u8 0, .int .u8 0, .int .u8 0, .int .u8 0, .int .u8 0]
theorem zeros_new (w : World) (T : TypeId) : Zeros (w.alloc (.cells zeros32 T)) w.heap.size 32 := fun j hj => by
  have hb := Blk.new w T zeros32
  refine ⟨(hb.cell j).trans ?_, hb.frozen j⟩
  rw [show zeros32 = Array.replicate 32 (.int .u8 0) from rfl, Array.getElem?_replicate, if_pos hj]
theorem Zeros.below {w w' : World} {Y n B : Nat} (h : Zeros w Y n) (hb : Below B w w') (hY : Y < B) : Zeros w' Y n := fun j hj =>
  ⟨(hb.cell (p := ⟨Y, j, none⟩) hY).trans (h j hj).1, (World.frozen?_of_block (a := ⟨Y, j, none⟩) (hb.block Y hY)).trans (h j hj).2⟩
theorem kone {x : UInt8} {l : List UInt8} {k n : Nat} (hl : l = x :: List.replicate 15 48) (hx : x ≠ 48) (hn : n = 16) (hk : k ≤ n) (h1 : ∀ j, k ≤ j → j < n → l.getD j 0 = 48) (h2 : 0 < k → l.getD (k - 1) 0 ≠ 48) : k = 1 := by
  subst hl hn
  rcases Nat.lt_or_ge 1 k with h | h
  · exfalso
    apply h2 (by omega)
    obtain ⟨m, hm⟩ : ∃ m, k - 1 = m + 1 := ⟨k - 2, by omega⟩
    rw [hm, List.getD_cons_succ, List.getD, List.getElem?_replicate, if_pos (by omega)]
    rfl
  · rcases (show k = 0 ∨ k = 1 by omega) with rfl | rfl
    · exact absurd (h1 0 (Nat.le_refl _) (by omega)) hx
    · rfl
set_option maxHeartbeats 12800000 in
theorem ftoa_half (D : Nat) (w : World) (hF : FAt w (some D) w (some ⟨D, 0, none⟩) 0 24 []) (hg : 13 < w.heap.size) (hp : PowAt w 365 12800000000000000000 0) (htab : ∀ W, Below w.heap.size w W → Lib.TabIs Tryz.prog W "internal/strconv.uint64pow10" .u64 Lib.pow10Tab) :
    Calls Tryz.prog 82 #[.slice (some ⟨D, 0, none⟩) 0 24, .float .f64 4602678819172646912, .int .u8 103, .int .i64 (-1)] w (fun e w' => ∃ A' n' c', e = .returned (.slice A' n' c') ∧ FAt w (some D) w' A' n' c' [48, 46, 53]) := by
  have hlen := fun W => Tryz.bits_Len64 4503599627370496 W (by omega) (by omega)
  rw [show (Lib.bitLen (4503599627370496 : Int).toNat : Int) = 53 from by decide +kernel] at hlen
  replace hlen := Lib.hid hlen
  have hbf : ∀ w, (callFunc 94 #[.float .f64 4602678819172646912]).run Tryz.prog w = .ok (.value (.int .u64 4602678819172646912)) w := fun w => run_bits2 4602678819172646912 w
  have hfmt : bits .and .i64 1022 2047 = 1022 := by decide
  have hman : bits .and .u64 4602678819172646912 4503599627370495 = 0 := by decide +kernel
  have hor : bits .or .u64 0 4503599627370496 = 4503599627370496 := by decide +kernel
  go_enter Tryz.func82, Tryz.ntmps82
  go_upto_region 14 with (fail)
  go_quiet (fail)
  have hb1 := (below_drewN (Below.refl w.heap.size w) nq).alloc (Nat.le_refl _) (.cells zeros32 111)
  have hz1 := zeros_new (w.drewN nq) 111
  have hF1 := hF.below hb1
  have hp1 := hp.below hb1 hg
  have hYl : w.heap.size < ((w.drewN nq).alloc (.cells zeros32 111)).heap.size := by simp [World.drewN]
  obtain ⟨Y, hY⟩ : ∃ Y, w.heap.size = Y := ⟨_, rfl⟩
  rw [show (w.drewN nq).heap.size = w.heap.size from rfl, hY] at hz1
  rw [hY] at hYl
  replace hY := Lib.hid hY
  have hgY : 13 < Y := by rw [← hY.out]; exact hg
  replace hb1 := Lib.hid hb1
  go_upto_region 34 with (fail)
  try rw [hY.out]
  generalize (w.drewN nq).alloc (.cells zeros32 111) = w1 at *
  go_wp2_with fail
  refine (hlen.out _).mono ?_
  clear hlen
  rintro e1 w2 ⟨rfl, rfl⟩
  dsimp only
  have hsf := short_walk (-64) (-17) 365 12800000000000000000 0 5 49999999999999998 50000000000000005 w2 (by omega) (by omega) (by omega) (by decide) (by decide) (by omega) hp1 (by omega) (by omega) (by decide) (by omega) (by decide +kernel) (by decide +kernel) (by decide)
  replace hsf := Lib.hid hsf
  go_wp2_with fail
  refine hsf.out.mono ?_
  clear hsf
  rintro e3 w3 ⟨rfl, hb3⟩
  dsimp only
  have hF3 := hF1.below hb3
  have hz3 := hz1.below hb3 hYl
  have hb03 := below_then hb3 hb1.out
  have hYl3 : Y < w3.heap.size := Nat.lt_of_lt_of_le hYl hb3.size
  clear hF1 hz1 hb3 hb1 hp1 hYl
  go_wp2_with fail
  have hnd := fun W hW => Tryz.internal_strconv_numDigits 5000000000000000 (by omega) (by omega) W (htab W hW)
  have hnd16 : Lib.nDigits 5000000000000000 = 16 := by decide +kernel
  have hdec : Lib.decDigits 5000000000000000 = 53 :: List.replicate 15 48 := by decide +kernel
  have hsd := fun W hz => setDigits_walk Y 5000000000000000 (-16) W hz (by omega) (by omega) (by omega) (by omega) (by rw [hnd16]; omega)
  rw [hnd16] at hnd hsd
  replace hnd := Lib.hid hnd
  replace hsd := Lib.hid hsd
  refine wp_region_lex (fun _ => True) [] [4, 5] [0, 1, 2, 3, 4, 5, 6, 7, 8, 9, 10] (by kernel_rfl) rfl (by kernel_rfl) (by kernel_rfl) (fun _ _ d _ _ h => by cases d <;> exact h) ?_
  have hb03d : Below w.heap.size w w3.drew := hb03.drew
  have hF3d : FAt w (some D) w3.drew (some ⟨D, 0, none⟩) 0 24 [] := ⟨hF3.own.drew, hF3.len, ⟨hF3.grown.os, hF3.grown.tape, hF3.grown.output, hF3.grown.size, hF3.grown.block⟩, hF3.mine⟩
  have hz3d : Zeros w3.drew Y 32 := hz3
  have hYl3d : Y < w3.drew.heap.size := hYl3
  generalize w3.drew = w4 at *
  clear hF3 hz3 hb03 hYl3
  repeat (first | (refine lexG_take _ ?_ rfl rfl rfl rfl (fun _ => ?_) ?_; rotate_left; (focus (go_simp; with_reducible rfl)); try simp only [Act.put, List.setIfInBounds_toArray, List.set_cons_zero, List.set_cons_succ]) | (refine lexG_skip _ rfl rfl (by assumption) ?_; try simp only [Act.put, List.setIfInBounds_toArray, List.set_cons_zero, List.set_cons_succ]))
  refine lexG_now _ rfl rfl rfl (fun K hK => ?_)
  go_wp2_with fail
  refine (hnd.out _ hb03d).mono ?_
  clear hnd
  rintro e5 w5 ⟨rfl, rfl⟩
  dsimp only
  refine hK _ _ _ (fun _ h => h) trivial ?_
  clear hK K
  try simp only [Act.put, List.setIfInBounds_toArray, List.set_cons_zero, List.set_cons_succ]
  refine lexG_now _ rfl rfl rfl (fun K hK => ?_)
  go_wp2_with fail
  refine (hsd.out _ hz3d).mono ?_
  clear hsd
  rintro e6 w6 ⟨k, hk, rfl, hb6, hs6, hc6, hk48, hk0⟩
  obtain rfl : k = 1 := kone hdec (by decide) hnd16 (by rw [hnd16]; exact hk) (by rw [hnd16]; exact hk48) hk0
  dsimp only
  have hDw : D < w.heap.size := hF.own.lt rfl
  have hF6 := hF3d.belowY hb6 (by rw [← hY.out]; exact hDw) (by rw [← hY.out]; exact Nat.le_refl _)
  have hY6 : Y < w6.heap.size := by rw [hs6]; exact hYl3d
  have hc0 := hc6 0 (by omega)
  rw [hdec] at hc0
  have hYD : bOf (some (⟨D, 0, none⟩ : Addr)) ≠ some Y := by
    intro h
    have : D = Y := by simpa [bOf] using h
    have := hY.out
    omega
  have hFs : FAt w6 (bOf (some (⟨D, 0, none⟩ : Addr))) w6 (some ⟨D, 0, none⟩) 0 24 [] := ⟨hF6.own, rfl, World.grownBy.refl _ _, fun q hq => .inl hq⟩
  have hds : ∀ j, j < 1 → w6.cell? ⟨Y, j, none⟩ = some (byv ([(53 : UInt8)].getD j 0)) := fun j hj => by
    obtain rfl : j = 0 := by omega
    exact hc0
  have hfm := fmtF_III (some ⟨D, 0, none⟩) 0 24 [] Y [53] 1 w6 0 (by omega) hFs (by omega) hY6 hYD rfl (by omega) (by omega) hds
  have hout : ([] : List UInt8) ++ fmtFL false [53] (-((0 : Nat) : Int)) = [48, 46, 53] := by decide
  rw [hout] at hfm
  replace hfm := Lib.hid hfm
  refine hK _ _ _ (fun _ h => h) trivial ?_
  clear hK K hb6 hc6 hk48 hk0 hk hz3d hF3d hb03d hYl3d hs6 hc0
  try simp only [Act.put, List.setIfInBounds_toArray, List.set_cons_zero, List.set_cons_succ]
  repeat (first | (refine lexG_take _ ?_ rfl rfl rfl rfl (fun _ => ?_) ?_; rotate_left; (focus (go_simp; with_reducible rfl)); try simp only [Act.put, List.setIfInBounds_toArray, List.set_cons_zero, List.set_cons_succ]) | (refine lexG_skip _ rfl rfl (by assumption) ?_; try simp only [Act.put, List.setIfInBounds_toArray, List.set_cons_zero, List.set_cons_succ]))
  refine lexG_nil ?_
  go_wp2_with fail
  refine hfm.out.mono ?_
  rintro e7 w7 ⟨A7, n7, c7, rfl, hF7⟩
  dsimp only
  go_wp2_with fail
  go_ret
  exact ⟨A7, n7, c7, rfl, hF6.then_ hF7⟩
set_option maxHeartbeats 12800000 in
theorem ftoa_two (D : Nat) (w : World) (hF : FAt w (some D) w (some ⟨D, 0, none⟩) 0 24 []) (hg : 13 < w.heap.size) (hp : PowAt w 364 10240000000000000000 0) (htab : ∀ W, Below w.heap.size w W → Lib.TabIs Tryz.prog W "internal/strconv.uint64pow10" .u64 Lib.pow10Tab) :
    Calls Tryz.prog 82 #[.slice (some ⟨D, 0, none⟩) 0 24, .float .f64 4611686018427387904, .int .u8 103, .int .i64 (-1)] w (fun e w' => ∃ A' n' c', e = .returned (.slice A' n' c') ∧ FAt w (some D) w' A' n' c' [50]) := by
  have hlen := fun W => Tryz.bits_Len64 4503599627370496 W (by omega) (by omega)
  rw [show (Lib.bitLen (4503599627370496 : Int).toNat : Int) = 53 from by decide +kernel] at hlen
  replace hlen := Lib.hid hlen
  have hbf : ∀ w, (callFunc 94 #[.float .f64 4611686018427387904]).run Tryz.prog w = .ok (.value (.int .u64 4611686018427387904)) w := fun w => run_bits2 4611686018427387904 w
  have hfmt : bits .and .i64 1024 2047 = 1024 := by decide
  have hman : bits .and .u64 4611686018427387904 4503599627370495 = 0 := by decide +kernel
  have hor : bits .or .u64 0 4503599627370496 = 4503599627370496 := by decide +kernel
  go_enter Tryz.func82, Tryz.ntmps82
  go_upto_region 14 with (fail)
  go_quiet (fail)
  have hb1 := (below_drewN (Below.refl w.heap.size w) nq).alloc (Nat.le_refl _) (.cells zeros32 111)
  have hz1 := zeros_new (w.drewN nq) 111
  have hF1 := hF.below hb1
  have hp1 := hp.below hb1 hg
  have hYl : w.heap.size < ((w.drewN nq).alloc (.cells zeros32 111)).heap.size := by simp [World.drewN]
  obtain ⟨Y, hY⟩ : ∃ Y, w.heap.size = Y := ⟨_, rfl⟩
  rw [show (w.drewN nq).heap.size = w.heap.size from rfl, hY] at hz1
  rw [hY] at hYl
  replace hY := Lib.hid hY
  have hgY : 13 < Y := by rw [← hY.out]; exact hg
  replace hb1 := Lib.hid hb1
  go_upto_region 34 with (fail)
  try rw [hY.out]
  generalize (w.drewN nq).alloc (.cells zeros32 111) = w1 at *
  go_wp2_with fail
  refine (hlen.out _).mono ?_
  clear hlen
  rintro e1 w2 ⟨rfl, rfl⟩
  dsimp only
  have hsf := short_walk (-62) (-16) 364 10240000000000000000 0 6 19999999999999999 20000000000000002 w2 (by omega) (by omega) (by omega) (by decide) (by decide) (by omega) hp1 (by omega) (by omega) (by decide) (by omega) (by decide +kernel) (by decide +kernel) (by decide)
  replace hsf := Lib.hid hsf
  go_wp2_with fail
  refine hsf.out.mono ?_
  clear hsf
  rintro e3 w3 ⟨rfl, hb3⟩
  dsimp only
  have hF3 := hF1.below hb3
  have hz3 := hz1.below hb3 hYl
  have hb03 := below_then hb3 hb1.out
  have hYl3 : Y < w3.heap.size := Nat.lt_of_lt_of_le hYl hb3.size
  clear hF1 hz1 hb3 hb1 hp1 hYl
  go_wp2_with fail
  have hnd := fun W hW => Tryz.internal_strconv_numDigits 2000000000000000 (by omega) (by omega) W (htab W hW)
  have hnd16 : Lib.nDigits 2000000000000000 = 16 := by decide +kernel
  have hdec : Lib.decDigits 2000000000000000 = 50 :: List.replicate 15 48 := by decide +kernel
  have hsd := fun W hz => setDigits_walk Y 2000000000000000 (-15) W hz (by omega) (by omega) (by omega) (by omega) (by rw [hnd16]; omega)
  rw [hnd16] at hnd hsd
  replace hnd := Lib.hid hnd
  replace hsd := Lib.hid hsd
  refine wp_region_lex (fun _ => True) [] [4, 5] [0, 1, 2, 3, 4, 5, 6, 7, 8, 9, 10] (by kernel_rfl) rfl (by kernel_rfl) (by kernel_rfl) (fun _ _ d _ _ h => by cases d <;> exact h) ?_
  have hb03d : Below w.heap.size w w3.drew := hb03.drew
  have hF3d : FAt w (some D) w3.drew (some ⟨D, 0, none⟩) 0 24 [] := ⟨hF3.own.drew, hF3.len, ⟨hF3.grown.os, hF3.grown.tape, hF3.grown.output, hF3.grown.size, hF3.grown.block⟩, hF3.mine⟩
  have hz3d : Zeros w3.drew Y 32 := hz3
  have hYl3d : Y < w3.drew.heap.size := hYl3
  generalize w3.drew = w4 at *
  clear hF3 hz3 hb03 hYl3
  repeat (first | (refine lexG_take _ ?_ rfl rfl rfl rfl (fun _ => ?_) ?_; rotate_left; (focus (go_simp; with_reducible rfl)); try simp only [Act.put, List.setIfInBounds_toArray, List.set_cons_zero, List.set_cons_succ]) | (refine lexG_skip _ rfl rfl (by assumption) ?_; try simp only [Act.put, List.setIfInBounds_toArray, List.set_cons_zero, List.set_cons_succ]))
  refine lexG_now _ rfl rfl rfl (fun K hK => ?_)
  go_wp2_with fail
  refine (hnd.out _ hb03d).mono ?_
  clear hnd
  rintro e5 w5 ⟨rfl, rfl⟩
  dsimp only
  refine hK _ _ _ (fun _ h => h) trivial ?_
  clear hK K
  try simp only [Act.put, List.setIfInBounds_toArray, List.set_cons_zero, List.set_cons_succ]
  refine lexG_now _ rfl rfl rfl (fun K hK => ?_)
  go_wp2_with fail
  refine (hsd.out _ hz3d).mono ?_
  clear hsd
  rintro e6 w6 ⟨k, hk, rfl, hb6, hs6, hc6, hk48, hk0⟩
  obtain rfl : k = 1 := kone hdec (by decide) hnd16 (by rw [hnd16]; exact hk) (by rw [hnd16]; exact hk48) hk0
  dsimp only
  have hDw : D < w.heap.size := hF.own.lt rfl
  have hF6 := hF3d.belowY hb6 (by rw [← hY.out]; exact hDw) (by rw [← hY.out]; exact Nat.le_refl _)
  have hY6 : Y < w6.heap.size := by rw [hs6]; exact hYl3d
  have hc0 := hc6 0 (by omega)
  rw [hdec] at hc0
  have hYD : bOf (some (⟨D, 0, none⟩ : Addr)) ≠ some Y := by
    intro h
    have : D = Y := by simpa [bOf] using h
    have := hY.out
    omega
  have hFs : FAt w6 (bOf (some (⟨D, 0, none⟩ : Addr))) w6 (some ⟨D, 0, none⟩) 0 24 [] := ⟨hF6.own, rfl, World.grownBy.refl _ _, fun q hq => .inl hq⟩
  have hds : ∀ j, j < 1 → w6.cell? ⟨Y, j, none⟩ = some (byv ([(50 : UInt8)].getD j 0)) := fun j hj => by
    obtain rfl : j = 0 := by omega
    exact hc0
  have hfm := fmtF_I (some ⟨D, 0, none⟩) 0 24 [] Y [50] 1 w6 1 (by omega) (by omega) (by omega) hFs (by omega) hY6 hYD rfl (by omega) (by omega) hds
  have hout : ([] : List UInt8) ++ fmtFL false [50] (((1 : Nat) : Int)) = [50] := by decide
  rw [hout] at hfm
  replace hfm := Lib.hid hfm
  refine hK _ _ _ (fun _ h => h) trivial ?_
  clear hK K hb6 hc6 hk48 hk0 hk hz3d hF3d hb03d hYl3d hs6 hc0
  try simp only [Act.put, List.setIfInBounds_toArray, List.set_cons_zero, List.set_cons_succ]
  repeat (first | (refine lexG_take _ ?_ rfl rfl rfl rfl (fun _ => ?_) ?_; rotate_left; (focus (go_simp; with_reducible rfl)); try simp only [Act.put, List.setIfInBounds_toArray, List.set_cons_zero, List.set_cons_succ]) | (refine lexG_skip _ rfl rfl (by assumption) ?_; try simp only [Act.put, List.setIfInBounds_toArray, List.set_cons_zero, List.set_cons_succ]))
  refine lexG_nil ?_
  go_wp2_with fail
  refine hfm.out.mono ?_
  rintro e7 w7 ⟨A7, n7, c7, rfl, hF7⟩
  dsimp only
  go_wp2_with fail
  go_ret
  exact ⟨A7, n7, c7, rfl, hF6.then_ hF7⟩
end Go.Proofs.YtdbmffagibnibaaGreatDoor
