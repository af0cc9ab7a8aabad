/- ValueLimits: the walk. (Printed by gen_vlim.py.) -/
import Derived.Test.YtdbmffagibnibaaGreatDoorVLs
import Derived.Test.YtdbmffagibnibaaGreatDoorMore
import Derived.Deep.CutBlock
set_option linter.unusedSimpArgs false
set_option linter.unusedVariables false
namespace Go.Proofs.YtdbmffagibnibaaGreatDoor
open Go.RowKit Go.Lib
set_option maxRecDepth 100000

/- The values that are looked at, and what Check says of them. -/
def textV (n : Nat) : Val := .mk 3 0 0 (List.replicate n 0) []
def zerosV (n : Nat) : Val := .mk 4 0 0 [] (List.replicate n (.mk 0 0 0 [] []))
def nestV : Nat → Val
  | 0 => .mk 0 0 0 [] []
  | n + 1 => .mk 4 0 0 [] [nestV n]
def manyV (q : Nat) : Val := .mk 4 0 0 [] (List.replicate 16 (textV 251) ++ [textV (25 + q)])
theorem five {q : Nat} (hq : q < 5) : q = 0 ∨ q = 1 ∨ q = 2 ∨ q = 3 ∨ q = 4 := by omega
theorem check_text {q : Nat} (hq : q < 5) : checkV (textV (254 + q)) = if q ≤ 2 then 0 else 22 := by rcases five hq with rfl | rfl | rfl | rfl | rfl <;> decide +kernel
theorem check_zeros {q : Nat} (hq : q < 5) : checkV (zerosV (62 + q)) = if q ≤ 2 then 0 else 22 := by rcases five hq with rfl | rfl | rfl | rfl | rfl <;> decide +kernel
theorem check_nest {q : Nat} (hq : q < 5) : checkV (nestV (6 + q)) = if q ≤ 2 then 0 else 22 := by rcases five hq with rfl | rfl | rfl | rfl | rfl <;> decide +kernel
theorem check_many {q : Nat} (hq : q < 5) : checkV (manyV q) = if q ≤ 2 then 0 else 22 := by rcases five hq with rfl | rfl | rfl | rfl | rfl <;> decide +kernel

theorem info_byte : (Tryz.prog.info? 5).map (fun i => (i.zero, i.size, i.bytes)) = some (some (.int .u8 0), 1, 1) := by kernel_rfl
theorem bys_zero (n : Nat) : (Array.replicate n (Value.int .u8 0)).toList = bys (List.replicate n (0 : UInt8)) := by
  rw [Array.toList_replicate]
  unfold bys
  rw [List.map_replicate]
  rfl
theorem conv_zero (n : Nat) (w W : World) (hW : Below (w.alloc (.cells (Array.replicate n (Value.int .u8 0)) 5)).heap.size (w.alloc (.cells (Array.replicate n (Value.int .u8 0)) 5)) W) :
    (convert 36 9 (.slice (some ⟨w.heap.size, 0, none⟩) n n)).run Tryz.prog W = .ok (.string (bstr (List.replicate n 0))) W := by
  have hr := (Reads.lit (size := 1) w (Array.replicate n (Value.int .u8 0)) 5 (0, 0) n (bys (List.replicate n 0)) (bys_zero n) (by simp [bys])).below (hW.mono (by simp))
  exact run_bytes_str (P := Tryz.prog) 36 5 Tryz.underlying36 Tryz.underlying5 9 Tryz.underlying9 n hr
theorem conv_blk (n : Nat) (W : World) {g : Nat} (hb : Blk W g 5 (Array.replicate n (Value.int .u8 0))) :
    (convert 36 9 (.slice (some ⟨g, 0, none⟩) n n)).run Tryz.prog W = .ok (.string (bstr (List.replicate n 0))) W := by
  have hr : Reads W W.heap.size 1 (some ⟨g, 0, none⟩) n (bys (List.replicate n 0)) := ⟨by simp [bys], fun _ => ⟨_, rfl, hb.lt, fun j u hu => by
    rw [add_row, hb.cell j, ← Array.getElem?_toList, bys_zero]
    exact hu⟩⟩
  exact run_bytes_str (P := Tryz.prog) 36 5 Tryz.underlying36 Tryz.underlying5 9 Tryz.underlying9 n hr
theorem make_zero (n : Nat) (hn : n ≤ 1000) (W : World) : (Instr.makeSlice 36 (.int .i64 (n : Int)) (.int .i64 (n : Int))).run Tryz.prog W = .ok (.slice (some ⟨W.heap.size, 0, none⟩) n n) (W.alloc (.cells (Array.replicate n (.int .u8 0)) 5)) := by
  obtain ⟨i0, hi, hz0, hz1, hz2⟩ := info_parts info_byte
  exact run_make_nat 36 5 i0 (.int .u8 0) Tryz.underlying36 hi hz0 hz1 rfl .i64 .i64 n (by rw [hz2]; omega) (by omega) W
theorem make_vals (n : Nat) (hn : n ≤ 1000) (W : World) : ∃ cur : Array Value, cur.size = n * 5 ∧ (∀ j, j < n → (cur.toList.drop (j * 5)).take 5 = (#[.int .i64 0, .int .i64 0, .float .f64 0, .string ⟨#[]⟩, .slice none 0 0] : Array Value).toList) ∧ (Instr.makeSlice 23 (.int .i64 (n : Int)) (.int .i64 (n : Int))).run Tryz.prog W = .ok (.slice (some ⟨W.heap.size, 0, none⟩) n n) (W.alloc (.cells cur 25)) := by
  obtain ⟨i0, hi, hz0, hz1, hz2⟩ := info_parts info_val
  have hr := run_make (P := Tryz.prog) W 23 25 i0 _ Tryz.underlying23 hi hz0 .i64 .i64 n n (by omega) (by omega) (by rw [hz2]; omega) (by omega)
  simp only [Int.toNat_natCast, hz1] at hr
  refine ⟨_, size_madeCells _ _, fun j hj => ?_, hr⟩
  apply List.ext_getElem?
  intro i
  rw [List.getElem?_take, List.getElem?_drop, Array.getElem?_toList, Array.getElem?_toList]
  by_cases h : i < 5
  · rw [if_pos h]
    unfold madeCells
    rw [Array.getElem?_map, Array.getElem?_range, if_pos (by omega)]
    have e : (j * 5 + i) % 5 = i := by omega
    rcases five h with rfl | rfl | rfl | rfl | rfl <;> simp [Value.cells, e]
  · rw [if_neg h, Array.getElem?_eq_none (by simp; omega)]
/-- What a switch leaves in the box. -/
def LimRes (w w4 : World) (x6 q : Nat) (W : World) : Prop := ∃ (v : Val) (k i : Int) (f : Nat) (s : ByteArray) (A : Option Addr) (n c : Nat), Blk W x6 25 #[.int .i64 k, .int .i64 i, .float .f64 f, .string s, .slice A n c] ∧ VReads W W.heap.size v #[.int .i64 k, .int .i64 i, .float .f64 f, .string s, .slice A n c] ∧ checkV v = (if q ≤ 2 then 0 else 22) ∧ Below w.heap.size w W

set_option maxHeartbeats 25600000 in
theorem valueLimits_walk (x0 x1 : Int) (w : World) (hkn : Calls Tryz.prog 9 #[] w (Says w (.bool true))) (p0 : 0 ≤ x0) (p9 : x0 ≤ 255) (n0 : 0 ≤ x1) (n9 : x1 ≤ 255) :
    Calls Tryz.prog 5 #[.int .u8 x0, .int .u8 x1] w (Says w (.bool true)) := by
  have hsf := fun a k x m w => run_store_float (P := Tryz.prog) a k x m w
  obtain ⟨q, hq⟩ : ∃ q : Nat, x1 % 5 = (q : Int) := ⟨(x1 % 5).toNat, by omega⟩
  have hq5 : q < 5 := by omega
  have t5 : x1.tmod 5 = (q : Int) := by rw [Int.tmod_eq_emod_of_nonneg n0]; exact hq
  have w5 : IntKind.u8.wrap (q : Int) = (q : Int) := by unfold IntKind.wrap; simp [IntKind.bits, IntKind.signed]; omega
  have w5' : IntKind.i64.wrap (q : Int) = (q : Int) := by rw [IntKind.wrap_i64]; omega
  obtain ⟨D, hD⟩ : ∃ D, (q : Int) - 2 = D := ⟨_, rfl⟩
  have wD : IntKind.i64.wrap ((q : Int) - 2) = D := by rw [IntKind.wrap_i64]; omega
  have hDq : D ≤ 0 ↔ q ≤ 2 := by omega
  obtain ⟨p, hp⟩ : ∃ p : Nat, x0 % 4 = (p : Int) := ⟨(x0 % 4).toNat, by omega⟩
  have hp4 : p < 4 := by omega
  have t4 : x0.tmod 4 = (p : Int) := by rw [Int.tmod_eq_emod_of_nonneg p0]; exact hp
  have w4' : IntKind.u8.wrap (p : Int) = (p : Int) := by unfold IntKind.wrap; simp [IntKind.bits, IntKind.signed]; omega
  clear hp hq
  replace hkn := Lib.hid hkn
  replace hDq := Lib.hid hDq
  replace hD := Lib.hid hD
  go_enter Tryz.func5, Tryz.ntmps5
  go_wp2_with fail
  refine hkn.out.mono ?_
  clear hkn
  rintro e w1 ⟨rfl, l1⟩
  dsimp only
  have hx6 := Blk.new w1 25 #[.int .i64 0, .int .i64 0, .float .f64 0, .string ⟨#[]⟩, .slice none 0 0]
  have l2 := below_then ((Below.refl w1.heap.size w1).alloc (Nat.le_refl _) (.cells #[.int .i64 0, .int .i64 0, .float .f64 0, .string ⟨#[]⟩, .slice none 0 0] 25)) l1
  obtain ⟨x6, e6⟩ : ∃ x, w1.heap.size = x := ⟨_, rfl⟩
  have h06 : w.heap.size ≤ x6 := by rw [← e6]; exact l1.size
  rw [e6] at hx6
  replace e6 := Lib.hid e6
  clear l1
  go_upto_region 5 with (fail)
  try rw [e6.out]
  generalize w1.alloc (.cells #[.int .i64 0, .int .i64 0, .float .f64 0, .string ⟨#[]⟩, .slice none 0 0] 25) = w2 at *
  clear e6
  go_upto_block 0 with (fail)
  go_cut [] from 18 to 64 (fun wx => LimRes w w2 x6 q wx)
  case first =>
    rcases (show p = 0 ∨ p = 1 ∨ p = 2 ∨ p = 3 by omega) with rfl | rfl | rfl | rfl
    · skip
      obtain ⟨m, hm⟩ : ∃ m, 254 + q = m := ⟨_, rfl⟩
      have wm : IntKind.i64.wrap (256 + D) = (m : Int) := by rw [IntKind.wrap_i64]; have := hD.out; omega
      have hmk := fun W => make_zero m (by omega) W
      have hcv := fun W => conv_zero m w2 W
      have hvt := check_text hq5
      rw [hm] at hvt
      have k1 := Blk.new w2 5 (Array.replicate m (Value.int .u8 0))
      have hb3 := (Below.refl w2.heap.size w2).alloc (Nat.le_refl _) (.cells (Array.replicate m (Value.int .u8 0)) 5)
      have hx3 := hx6.below hb3 hx6.lt
      have l3 := below_then hb3 l2
      replace hmk := Lib.hid hmk
      have hmk2 := hmk.out w2
      have hcv2 := hcv _ (Below.refl _ _)
      replace hvt := Lib.hid hvt
      replace hm := Lib.hid hm
      clear hcv
      obtain ⟨S, hS⟩ : ∃ S, bstr (List.replicate m 0) = S := ⟨_, rfl⟩
      rw [hS] at hcv2
      go_wp2_with fail
      refine (text_ref _ _).mono ?_
      rintro e w4 ⟨rfl, hb4⟩
      dsimp only
      have hx4 := hx3.below hb4 hx3.lt
      have l4 := below_then hb4 l3
      have m0 := hx4.cell 0
      have m1 := hx4.cell 1
      have m2 := hx4.cell 2
      have m3 := hx4.cell 3
      have m4 := hx4.cell 4
      have f0 := hx4.frozen 0
      have f1 := hx4.frozen 1
      have f2 := hx4.frozen 2
      have f3 := hx4.frozen 3
      have f4 := hx4.frozen 4
      go_wp2_with (refine store_row_gen rfl 25 (Operand.tmp 6) _ rfl x6 #[.int .i64 3, .int .i64 0, .float .f64 0, .string S, .slice none 0 0] (by simp [go_sem]) (by simp [go_sem]) 25 _ hx4 (by kernel_rfl) rfl (by simp [Value.oneCell']) (fun w9 hw9 => ?_))
      go_meet
      have hz := hx4.row #[.int .i64 3, .int .i64 0, .float .f64 0, .string S, .slice none 0 0]
      have l9 := below_row l4 h06 #[.int .i64 3, .int .i64 0, .float .f64 0, .string S, .slice none 0 0]
      rw [← hw9] at hz l9
      refine ⟨textV m, 3, 0, 0, S, none, 0, 0, hz, ?_, hvt.out, l9⟩
      rw [← hS]
      exact .mk (A := none) (c := 0) (xs := []) (fun _ => #[]) (by simp) Reads.none_ (fun j v h => by simp at h) (fun j h => by simp at h)
    · skip
      obtain ⟨m, hm⟩ : ∃ m, 62 + q = m := ⟨_, rfl⟩
      have wm : IntKind.i64.wrap (64 + D) = (m : Int) := by rw [IntKind.wrap_i64]; have := hD.out; omega
      have hvt := check_zeros hq5
      rw [hm] at hvt
      have hm66 : m ≤ 66 := by omega
      obtain ⟨cur, hcs, hce, hmk⟩ := make_vals m (by omega) w2
      have k1 := Blk.new w2 25 cur
      have hb3 := (Below.refl w2.heap.size w2).alloc (Nat.le_refl _) (.cells cur 25)
      have hx3 := hx6.below hb3 hx6.lt
      have l3 := below_then hb3 l2
      have hxl := hx6.lt
      have hO := Own.new w2 25 5 m cur hcs (by unfold maxLen; omega)
      replace hvt := Lib.hid hvt
      replace hm := Lib.hid hm
      obtain ⟨y, hy⟩ : ∃ y, w2.heap.size = y := ⟨_, rfl⟩
      rw [hy] at hmk hO hxl
      replace hy := Lib.hid hy
      go_upto_region 15 with (fail)
      generalize hwe : w2.alloc (.cells cur 25) = w3 at *
      have m0 := hx3.cell 0
      have m1 := hx3.cell 1
      have m2 := hx3.cell 2
      have m3 := hx3.cell 3
      have m4 := hx3.cell 4
      have f0 := hx3.frozen 0
      have f1 := hx3.frozen 1
      have f2 := hx3.frozen 2
      have f3 := hx3.frozen 3
      have f4 := hx3.frozen 4
      have hz := hx3.row #[.int .i64 4, .int .i64 0, .float .f64 0, .string ⟨#[]⟩, .slice (some ⟨y, 0, none⟩) m m]
      have l9 := below_row l3 h06 #[.int .i64 4, .int .i64 0, .float .f64 0, .string ⟨#[]⟩, .slice (some ⟨y, 0, none⟩) m m]
      have hO9 := hO.upd ((Upd.refl (fun x => x = x6) w3).setRow (g := x6) (fun _ => rfl) #[.int .i64 4, .int .i64 0, .float .f64 0, .string ⟨#[]⟩, .slice (some ⟨y, 0, none⟩) m m]) (fun g hg e => by simp [bOf] at hg; omega)
      clear hwe
      go_wp2_with (refine store_row_gen rfl 25 (Operand.tmp 6) _ rfl x6 #[.int .i64 4, .int .i64 0, .float .f64 0, .string ⟨#[]⟩, .slice (some ⟨y, 0, none⟩) m m] (by simp [go_sem]) (by simp [go_sem]) 25 _ hx3 (by kernel_rfl) rfl (by simp [Value.oneCell']) (fun w9 hw9 => ?_); rw [← hw9] at hz l9 hO9; clear hw9)
      go_meet
      refine ⟨zerosV m, 4, 0, 0, ⟨#[]⟩, some ⟨y, 0, none⟩, m, m, hz, ?_, hvt.out, l9⟩
      have hl := List.length_replicate (n := m) (a := (Val.mk 0 0 0 [] []))
      have hvv : VReads w9 w9.heap.size (zerosV m) #[.int .i64 4, .int .i64 0, .float .f64 0, .string ⟨#[]⟩, .slice (some ⟨y, 0, none⟩) (List.replicate m (Val.mk 0 0 0 [] [])).length m] := by
        refine .mk (s := []) (fun _ => #[.int .i64 0, .int .i64 0, .float .f64 0, .string ⟨#[]⟩, .slice none 0 0]) (by rw [hl]; omega) (by rw [hl]; exact hO9.reads_) (fun j v h => ?_) (fun j h => ?_)
        · rw [List.getElem?_replicate] at h
          split at h
          · cases h
            exact .mk (s := []) (A := none) (c := 0) (xs := []) (fun _ => #[]) (by simp) Reads.none_ (fun j v h => by simp at h) (fun j h => by simp at h)
          · cases h
        · rw [hl] at h
          exact hce j h
      rw [hl] at hvv
      exact hvv
    · skip
      obtain ⟨m, hm⟩ : ∃ m, 6 + q = m := ⟨_, rfl⟩
      have wm : IntKind.i64.wrap (8 + D) = (m : Int) := by rw [IntKind.wrap_i64]; have := hD.out; omega
      have hvt := check_nest hq5
      rw [hm] at hvt
      replace hvt := Lib.hid hvt
      have hm9 : m ≤ 10 := by omega
      replace hm := Lib.hid hm
      go_wp2_with fail
      go_loopw [7] (fun i wr => ∃ (j : Nat) (gk gi' : Int) (gf : Nat) (gs : ByteArray) (gA : Option Addr) (gn gc : Nat), i = .int .i64 (j : Int) ∧ j ≤ m ∧ Blk wr x6 25 #[.int .i64 gk, .int .i64 gi', .float .f64 gf, .string gs, .slice gA gn gc] ∧ VOwn wr (fun g => x6 < g) (nestV j) #[.int .i64 gk, .int .i64 gi', .float .f64 gf, .string gs, .slice gA gn gc] ∧ Below w.heap.size w wr) (fun i _ => m - (intOf i).toNat)
      case atStart => exact ⟨0, 0, 0, 0, ⟨#[]⟩, none, 0, 0, rfl, Nat.zero_le _, hx6, VOwn.flat w2 _ 0 0 0 [], l2⟩
      case round =>
        rename_i hrel
        obtain ⟨j, gk, gi', gf, gs, gA, gn, gc, rfl, hj, hbr, hvr, hlr⟩ := hrel
        by_cases hlt : j < m
        · have jd : decide ((j : Int) < (m : Int)) = true := decide_eq_true (by omega)
          have hb3 := (Below.refl wr.heap.size wr).alloc (Nat.le_refl _) (.cells #[.int .i64 gk, .int .i64 gi', .float .f64 gf, .string gs, .slice gA gn gc] 25)
          have hb3r := hbr.below hb3 hbr.lt
          have l3 := below_then hb3 hlr
          have hv3 := hvr.upd (Upd.of_below_size (S := fun _ => False) hb3) (fun _ _ h => h)
          have hO := Own.new wr 25 5 1 #[.int .i64 gk, .int .i64 gi', .float .f64 gf, .string gs, .slice gA gn gc] rfl (by unfold maxLen; omega)
          have hxl := hbr.lt
          obtain ⟨y, hy⟩ : ∃ y, wr.heap.size = y := ⟨_, rfl⟩
          rw [hy] at hO hxl
          replace hy := Lib.hid hy
          have m0 := hbr.cell 0
          have m1 := hbr.cell 1
          have m2 := hbr.cell 2
          have m3 := hbr.cell 3
          have m4 := hbr.cell 4
          go_wp2_with fail
          try rw [hy.out]
          clear m0 m1 m2 m3 m4
          generalize wr.alloc (.cells #[.int .i64 gk, .int .i64 gi', .float .f64 gf, .string gs, .slice gA gn gc] 25) = w3 at *
          refine (list_val _ _ _ _).mono ?_
          rintro e w4 ⟨rfl, hb4⟩
          dsimp only
          have hb4r := hb3r.below hb4 hb3r.lt
          have l4 := below_then hb4 l3
          have hv4 := hv3.upd (Upd.of_below_size (S := fun _ => False) hb4) (fun _ _ h => h)
          have hO4 := hO.below hb4 (Nat.le_refl _)
          have hu9 := (Upd.refl (fun x => x = x6) w4).setRow (g := x6) (fun _ => rfl) #[.int .i64 4, .int .i64 0, .float .f64 0, .string ⟨#[]⟩, .slice (some ⟨y, 0, none⟩) 1 1]
          have hz := hb4r.row #[.int .i64 4, .int .i64 0, .float .f64 0, .string ⟨#[]⟩, .slice (some ⟨y, 0, none⟩) 1 1]
          have l9 := below_row l4 h06 #[.int .i64 4, .int .i64 0, .float .f64 0, .string ⟨#[]⟩, .slice (some ⟨y, 0, none⟩) 1 1]
          have hv9 := hv4.upd hu9 (fun g hg e => by omega)
          have hO9 := hO4.upd hu9 (fun g hg e => by simp [bOf] at hg; omega)
          have m0 := hb4r.cell 0
          have m1 := hb4r.cell 1
          have m2 := hb4r.cell 2
          have m3 := hb4r.cell 3
          have m4 := hb4r.cell 4
          have f0 := hb4r.frozen 0
          have f1 := hb4r.frozen 1
          have f2 := hb4r.frozen 2
          have f3 := hb4r.frozen 3
          have f4 := hb4r.frozen 4
          go_wp2_with (refine store_row_gen rfl 25 (Operand.tmp 6) _ rfl x6 #[.int .i64 4, .int .i64 0, .float .f64 0, .string ⟨#[]⟩, .slice (some ⟨y, 0, none⟩) 1 1] (by simp [go_sem]) (by simp [go_sem]) 25 _ hb4r (by kernel_rfl) rfl (by simp [Value.oneCell']) (fun w9 hw9 => ?_); rw [← hw9] at hz l9 hv9 hO9; clear hw9 hu9)
          have hjw : IntKind.i64.wrap ((j : Int) + 1) = ((j + 1 : Nat) : Int) := by rw [IntKind.wrap_i64]; omega
          go_wp2_with fail
          go_roundw
          case rel =>
            have hov : VOwn w9 (fun g => x6 < g) (nestV (j + 1)) #[.int .i64 4, .int .i64 0, .float .f64 0, .string ⟨#[]⟩, .slice (some ⟨y, 0, none⟩) 1 1] := VOwn.mk (l := [nestV j]) (s := []) (fun _ => #[.int .i64 gk, .int .i64 gi', .float .f64 gf, .string gs, .slice gA gn gc]) (by simp) hO9 (fun g hg => by simp [bOf] at hg; omega) (fun j' v h => by
              match j' with
              | 0 => cases h; exact hv9
              | j' + 1 => simp at h) (fun j' h => by
              match j', h with
              | 0, _ => rfl
              | j' + 1, h => simp at h)
            (repeat (first | exact ⟨⟨j + 1, 4, 0, 0, ⟨#[]⟩, some ⟨y, 0, none⟩, 1, 1, by go_num, by omega, hz, hov, l9⟩, rfl⟩ | apply Exists.intro))
          case measure => simp [intOf]; omega
        · obtain rfl : m = j := by omega
          have jd : decide ((m : Int) < (m : Int)) = false := decide_eq_false (by omega)
          go_wp2_with fail
          go_meet
          exact ⟨nestV m, gk, gi', gf, gs, gA, gn, gc, hbr, hvr.reads, hvt.out, hlr⟩
    · skip
      obtain ⟨m, hm⟩ : ∃ m, 25 + q = m := ⟨_, rfl⟩
      have wm : IntKind.i64.wrap (27 + D) = (m : Int) := by rw [IntKind.wrap_i64]; have := hD.out; omega
      have hvt := check_many hq5
      unfold manyV at hvt
      rw [hm] at hvt
      have hm9 : m ≤ 29 := by omega
      obtain ⟨i0, ji, jz0, jz1, jz2⟩ := info_parts info_val
      replace hvt := Lib.hid hvt
      replace hm := Lib.hid hm
      have hmk := fun W => (show (Instr.makeSlice 36 (.int .i64 251) (.int .i64 251)).run Tryz.prog W = .ok (.slice (some ⟨W.heap.size, 0, none⟩) 251 251) (W.alloc (.cells (Array.replicate 251 (.int .u8 0)) 5)) from make_zero 251 (by omega) W)
      replace hmk := Lib.hid hmk
      go_wp2_with fail
      refine (list_val none 0 0 _).mono ?_
      rintro e w3 ⟨rfl, hb3⟩
      dsimp only
      have hx3 := hx6.below hb3 hx6.lt
      have l3 := below_then hb3 l2
      have m0 := hx3.cell 0
      have m1 := hx3.cell 1
      have m2 := hx3.cell 2
      have m3 := hx3.cell 3
      have m4 := hx3.cell 4
      have f0 := hx3.frozen 0
      have f1 := hx3.frozen 1
      have f2 := hx3.frozen 2
      have f3 := hx3.frozen 3
      have f4 := hx3.frozen 4
      have hz := hx3.row #[.int .i64 4, .int .i64 0, .float .f64 0, .string ⟨#[]⟩, .slice none 0 0]
      have l9 := below_row l3 h06 #[.int .i64 4, .int .i64 0, .float .f64 0, .string ⟨#[]⟩, .slice none 0 0]
      go_wp2_with (refine store_row_gen rfl 25 (Operand.tmp 6) _ rfl x6 #[.int .i64 4, .int .i64 0, .float .f64 0, .string ⟨#[]⟩, .slice none 0 0] (by simp [go_sem]) (by simp [go_sem]) 25 _ hx3 (by kernel_rfl) rfl (by simp [Value.oneCell']) (fun w9 hw9 => ?_); rw [← hw9] at hz l9; clear hw9)
      clear m0 m1 m2 m3 m4 f0 f1 f2 f3 f4 hx3 hx6 l2 l3 hb3
      go_loopw [8] (fun i wr => ∃ (j : Nat) (A : Option Addr) (c : Nat) (xs : List Value) (css : Nat → Array Value), i = .int .i64 (j : Int) ∧ j ≤ 16 ∧ Blk wr x6 25 #[.int .i64 4, .int .i64 0, .float .f64 0, .string ⟨#[]⟩, .slice A j c] ∧ VRow wr (x6 + 1) (List.replicate j (textV 251)) A c xs css ∧ Below w.heap.size w wr) (fun i _ => 16 - (intOf i).toNat)
      case atStart => exact ⟨0, none, 0, [], _, rfl, Nat.zero_le _, hz, VRow.nil _ _, l9⟩
      case round =>
        rename_i hrel
        obtain ⟨j, A, c, xs, css, rfl, hj, hbr, R, hlr⟩ := hrel
        have hxA : ¬ bOf A = some x6 := fun e => by have := R.hA _ e; omega
        have hxl := hbr.lt
        by_cases hlt : j < 16
        · have jd : decide ((j : Int) < 16) = true := decide_eq_true (by omega)
          have hlj : (List.replicate j (textV 251)).length = j := List.length_replicate
          have hR := R
          obtain ⟨ho, hA, hxx, hxs⟩ := hR
          rw [hlj] at ho
          go_wp2_with fail
          refine wp_region_lex (fun W => Upd (fun y => bOf A = some y) wr W) [1, 3] [2, 4, 5, 6, 8] [0, 1, 2, 3, 4, 5, 6, 7, 8] (by kernel_rfl) rfl (by kernel_rfl) (by kernel_rfl) (fun _ _ d _ _ h => by cases d <;> exact h) ?_
          have hS0 : Upd (fun y => bOf A = some y) wr wr.drew := ⟨rfl, rfl, rfl, Nat.le_refl _, fun _ _ _ => rfl⟩
          repeat (first | (refine lexG_take _ ?_ rfl rfl rfl rfl (fun _ => ?_) ?_; rotate_left; (focus (go_simp; with_reducible rfl)); try simp only [Act.put, List.setIfInBounds_toArray, List.set_cons_zero, List.set_cons_succ]) | (refine lexG_held _ ?_ rfl rfl rfl rfl (by assumption) (fun _ hSw => ?_) ?_; rotate_left; (focus (have m4 := (hbr.upd hSw hxA).cell 4; clear hSw; go_simp; with_reducible rfl)); try simp only [Act.put, List.setIfInBounds_toArray, List.set_cons_zero, List.set_cons_succ]) | (refine lexG_skip _ rfl rfl (by assumption) ?_; try simp only [Act.put, List.setIfInBounds_toArray, List.set_cons_zero, List.set_cons_succ]))
          refine lexG_now _ rfl rfl rfl (fun K0 hK => ?_)
          have hmk2 := hmk.out wr.drew
          go_wp2_with fail
          have k3 := Blk.new wr.drew 5 (Array.replicate 251 (Value.int .u8 0))
          have hE3 : Below wr.heap.size wr (wr.drew.alloc (.cells (Array.replicate 251 (Value.int .u8 0)) 5)) := ((Below.refl _ _).drew).alloc (Nat.le_refl _) _
          rw [show wr.drew.heap.size = wr.heap.size from rfl] at k3
          have hw3 : (wr.alloc (.cells (Array.replicate 251 (Value.int .u8 0)) 5)).drew = wr.drew.alloc (.cells (Array.replicate 251 (Value.int .u8 0)) 5) := rfl
          try rw [hw3]
          clear hw3
          generalize wr.drew.alloc (.cells (Array.replicate 251 (Value.int .u8 0)) 5) = w3 at *
          have hu3 := Upd.of_below_size (S := fun y => bOf A = some y) hE3
          refine hK _ _ (fun W => Upd (fun y => bOf A = some y) w3 W) (fun W h => hu3.trans h (fun _ _ h => h)) (Upd.refl _ _) ?_
          clear hK K0 hS0 hmk2
          try simp only [Act.put, List.setIfInBounds_toArray, List.set_cons_zero, List.set_cons_succ]
          obtain ⟨S, hS⟩ : ∃ S, bstr (List.replicate 251 0) = S := ⟨_, rfl⟩
          have hcv2 := fun W (hW : Upd (fun y => bOf A = some y) w3 W) => conv_blk 251 W (k3.upd hW (fun e => by have := R.ho.lt e; omega))
          rw [hS] at hcv2
          replace hcv2 := Lib.hid hcv2
          have hS1 : Upd (fun y => bOf A = some y) w3 w3 := Upd.refl _ _
          repeat (first | (refine lexG_take _ ?_ rfl rfl rfl rfl (fun _ => ?_) ?_; rotate_left; (focus (go_simp; with_reducible rfl)); try simp only [Act.put, List.setIfInBounds_toArray, List.set_cons_zero, List.set_cons_succ]) | (refine lexG_held _ ?_ rfl rfl rfl rfl (by assumption) (fun _ hSw => ?_) ?_; rotate_left; (focus (have q1 := hcv2.out _ hSw; clear hSw; go_simp; with_reducible rfl)); try simp only [Act.put, List.setIfInBounds_toArray, List.set_cons_zero, List.set_cons_succ]) | (refine lexG_skip _ rfl rfl (by assumption) ?_; try simp only [Act.put, List.setIfInBounds_toArray, List.set_cons_zero, List.set_cons_succ]))
          refine lexG_now _ rfl rfl rfl (fun K0 hK => ?_)
          go_wp2_with fail
          refine (text_ref _ _).mono ?_
          rintro e w6 ⟨rfl, hb6⟩
          dsimp only
          have hu36 : Upd (fun y => bOf A = some y) w3 w6 := Upd.of_below_size hb6
          refine hK _ _ _ (fun _ h => h) hu36 ?_
          clear hK K0 hcv2
          have hb6' : Below wr.heap.size wr w6 := below_then hb6 hE3
          have hy6 := hbr.below hb6' hbr.lt
          have ho6 := ho.below hb6' (Nat.le_refl _)
          have hu6 : Upd (fun _ => False) wr w6 := Upd.of_below_size hb6'
          have hv6 : VOwn w6 (fun g => wr.heap.size ≤ g) (textV 251) #[.int .i64 3, .int .i64 0, .float .f64 0, .string S, .slice none 0 0] := by rw [← hS]; exact VOwn.flat w6 _ 3 0 0 _
          try simp only [Act.put, List.setIfInBounds_toArray, List.set_cons_zero, List.set_cons_succ]
          have hy7 := hy6.alloc (.cells #[.int .i64 3, .int .i64 0, .float .f64 0, .string S, .slice none 0 0] 25)
          have ho7 := ho6.alloc (.cells #[.int .i64 3, .int .i64 0, .float .f64 0, .string S, .slice none 0 0] 25)
          have hu37 := hu36.alloc (.cells #[.int .i64 3, .int .i64 0, .float .f64 0, .string S, .slice none 0 0] 25)
          have hsrc := Reads.lit (size := 5) w6 #[.int .i64 3, .int .i64 0, .float .f64 0, .string S, .slice none 0 0] 25 (0, 0) 1 (#[.int .i64 3, .int .i64 0, .float .f64 0, .string S, .slice none 0 0] : Array Value).toList rfl rfl
          refine lexG_now _ rfl rfl rfl (fun K0 hK => ?_)
          go_wp2_with fail
          refine hK _ _ _ (fun _ h => h) hu37 ?_
          clear hK K0
          try simp only [Act.put, List.setIfInBounds_toArray, List.set_cons_zero, List.set_cons_succ]
          repeat (first | (refine lexG_take _ ?_ rfl rfl rfl rfl (fun _ => ?_) ?_; rotate_left; (focus (go_simp; with_reducible rfl)); try simp only [Act.put, List.setIfInBounds_toArray, List.set_cons_zero, List.set_cons_succ]) | (refine lexG_skip _ rfl rfl (by assumption) ?_; try simp only [Act.put, List.setIfInBounds_toArray, List.set_cons_zero, List.set_cons_succ]))
          refine lexG_now _ rfl rfl rfl (fun K0 hK => ?_)
          refine wp_append_mine _ _ 23 23 rfl 25 i0 _ 5 64 Tryz.underlying23 ji jz0 jz1 jz2 rfl rfl ho7 rfl (Src.ofReads Tryz.underlying23 _ hsrc (by intro u hu; simp at hu; rcases hu with rfl | rfl | rfl | rfl | rfl <;> rfl)) (by unfold maxLen; omega) (by omega) (fun A8 c8 w8 ho8 hg8 hat8 => ?_)
          have hy8 := hy7.grown hg8 (fun e => hxA e.symm)
          have hu38 : Upd (fun y => bOf A = some y) w3 w8 := hu37.grown hg8 (fun k e _ => e)
          refine hK _ _ _ (fun _ h => h) hu38 ?_
          clear hK K0
          try simp only [Act.put, List.setIfInBounds_toArray, List.set_cons_zero, List.set_cons_succ]
          repeat (first | (refine lexG_take _ ?_ rfl rfl rfl rfl (fun _ => ?_) ?_; rotate_left; (focus (go_simp; with_reducible rfl)); try simp only [Act.put, List.setIfInBounds_toArray, List.set_cons_zero, List.set_cons_succ]) | (refine lexG_skip _ rfl rfl (by assumption) ?_; try simp only [Act.put, List.setIfInBounds_toArray, List.set_cons_zero, List.set_cons_succ]))
          refine lexG_nowF _ rfl rfl rfl (by kernel_rfl) (fun K0 hK => ?_)
          have y84 := hy8.cell 4
          have yf8 := hy8.frozen 4
          go_simp
          refine hK _ _ ?_
          clear hK K0
          refine lexG_nil ?_
          have R8 := R.push (by omega) hu6 (fun _ h => h.elim) hv6 ⟨_, rfl⟩ (by rw [hlj]; exact ho8) hg8 hat8
          have hb8 : Below w.heap.size w w8 := ((hlr.trans (hb6'.mono hlr.size)).alloc (Nat.le_trans hlr.size hb6'.size) (.cells #[.int .i64 3, .int .i64 0, .float .f64 0, .string S, .slice none 0 0] 25)).grown hg8 (by rw [World.size_alloc]; have := hb6'.size; have := hlr.size; omega) (fun k e => by have := R.hA k e; omega)
          have hy9 := hy8.set_ 4 (.slice A8 (j + 1) c8)
          have R9 := R8.upd ((Upd.refl (fun x => x = x6) w8).setCell (p := ⟨x6, 4, none⟩) (fun _ => rfl) (.slice A8 (j + 1) c8)) (fun g hg e => by omega)
          have hb9 := hb8.setCell (p := ⟨x6, 4, none⟩) h06 (.slice A8 (j + 1) c8)
          clear R8 hb8 hy8 y84 yf8 hg8 hat8 ho8 hsrc ho7 hy7 ho6 hy6 hb6 hb6' hu6 hv6 R hu36 hu37 hu38 hu3 k3 hE3 hbr hlr
          replace hy9 := Lib.hid hy9
          replace R9 := Lib.hid R9
          have hjw : IntKind.i64.wrap ((j : Int) + 1) = ((j + 1 : Nat) : Int) := by rw [IntKind.wrap_i64]; omega
          go_wp2_with fail
          go_roundw
          case rel =>
            have hR9 := R9.out
            rw [← List.replicate_succ'] at hR9
            (repeat (first | exact ⟨⟨j + 1, A8, c8, _, _, by go_num, hlt, hy9.out, hR9, hb9⟩, rfl⟩ | exact ⟨j + 1, A8, c8, _, _, by go_num, hlt, hy9.out, hR9, hb9⟩ | apply Exists.intro))
          case measure => simp [intOf]; omega
        · obtain rfl : j = 16 := by omega
          have jd : decide (((16 : Nat) : Int) < 16) = false := by decide
          have hmk := fun W => make_zero m (by omega) W
          replace hmk := Lib.hid hmk
          have hlj : (List.replicate 16 (textV 251)).length = 16 := List.length_replicate
          have hR := R
          obtain ⟨ho, hA, hxx, hxs⟩ := hR
          rw [hlj] at ho
          go_wp2_with fail
          refine wp_region_lex (fun W => Upd (fun y => bOf A = some y) wr W) [1, 5] [4, 6, 7, 8, 10] [0, 1, 2, 3, 4, 5, 6, 7, 8, 9, 10] (by kernel_rfl) rfl (by kernel_rfl) (by kernel_rfl) (fun _ _ d _ _ h => by cases d <;> exact h) ?_
          have hS0 : Upd (fun y => bOf A = some y) wr wr.drew := ⟨rfl, rfl, rfl, Nat.le_refl _, fun _ _ _ => rfl⟩
          repeat (first | (refine lexG_take _ ?_ rfl rfl rfl rfl (fun _ => ?_) ?_; rotate_left; (focus (go_simp; with_reducible rfl)); try simp only [Act.put, List.setIfInBounds_toArray, List.set_cons_zero, List.set_cons_succ]) | (refine lexG_held _ ?_ rfl rfl rfl rfl (by assumption) (fun _ hSw => ?_) ?_; rotate_left; (focus (have m4 := (hbr.upd hSw hxA).cell 4; clear hSw; go_simp; with_reducible rfl)); try simp only [Act.put, List.setIfInBounds_toArray, List.set_cons_zero, List.set_cons_succ]) | (refine lexG_skip _ rfl rfl (by assumption) ?_; try simp only [Act.put, List.setIfInBounds_toArray, List.set_cons_zero, List.set_cons_succ]))
          refine lexG_now _ rfl rfl rfl (fun K0 hK => ?_)
          have hmk2 := hmk.out wr.drew
          go_wp2_with fail
          have k3 := Blk.new wr.drew 5 (Array.replicate m (Value.int .u8 0))
          have hE3 : Below wr.heap.size wr (wr.drew.alloc (.cells (Array.replicate m (Value.int .u8 0)) 5)) := ((Below.refl _ _).drew).alloc (Nat.le_refl _) _
          rw [show wr.drew.heap.size = wr.heap.size from rfl] at k3
          have hw3 : (wr.alloc (.cells (Array.replicate m (Value.int .u8 0)) 5)).drew = wr.drew.alloc (.cells (Array.replicate m (Value.int .u8 0)) 5) := rfl
          try rw [hw3]
          clear hw3
          generalize wr.drew.alloc (.cells (Array.replicate m (Value.int .u8 0)) 5) = w3 at *
          have hu3 := Upd.of_below_size (S := fun y => bOf A = some y) hE3
          refine hK _ _ (fun W => Upd (fun y => bOf A = some y) w3 W) (fun W h => hu3.trans h (fun _ _ h => h)) (Upd.refl _ _) ?_
          clear hK K0 hS0 hmk2
          try simp only [Act.put, List.setIfInBounds_toArray, List.set_cons_zero, List.set_cons_succ]
          obtain ⟨S, hS⟩ : ∃ S, bstr (List.replicate m 0) = S := ⟨_, rfl⟩
          have hcv2 := fun W (hW : Upd (fun y => bOf A = some y) w3 W) => conv_blk m W (k3.upd hW (fun e => by have := R.ho.lt e; omega))
          rw [hS] at hcv2
          replace hcv2 := Lib.hid hcv2
          have hS1 : Upd (fun y => bOf A = some y) w3 w3 := Upd.refl _ _
          repeat (first | (refine lexG_take _ ?_ rfl rfl rfl rfl (fun _ => ?_) ?_; rotate_left; (focus (go_simp; with_reducible rfl)); try simp only [Act.put, List.setIfInBounds_toArray, List.set_cons_zero, List.set_cons_succ]) | (refine lexG_held _ ?_ rfl rfl rfl rfl (by assumption) (fun _ hSw => ?_) ?_; rotate_left; (focus (have q1 := hcv2.out _ hSw; clear hSw; go_simp; with_reducible rfl)); try simp only [Act.put, List.setIfInBounds_toArray, List.set_cons_zero, List.set_cons_succ]) | (refine lexG_skip _ rfl rfl (by assumption) ?_; try simp only [Act.put, List.setIfInBounds_toArray, List.set_cons_zero, List.set_cons_succ]))
          refine lexG_now _ rfl rfl rfl (fun K0 hK => ?_)
          go_wp2_with fail
          refine (text_ref _ _).mono ?_
          rintro e w6 ⟨rfl, hb6⟩
          dsimp only
          have hu36 : Upd (fun y => bOf A = some y) w3 w6 := Upd.of_below_size hb6
          refine hK _ _ _ (fun _ h => h) hu36 ?_
          clear hK K0 hcv2
          have hb6' : Below wr.heap.size wr w6 := below_then hb6 hE3
          have hy6 := hbr.below hb6' hbr.lt
          have ho6 := ho.below hb6' (Nat.le_refl _)
          have hu6 : Upd (fun _ => False) wr w6 := Upd.of_below_size hb6'
          have hv6 : VOwn w6 (fun g => wr.heap.size ≤ g) (textV m) #[.int .i64 3, .int .i64 0, .float .f64 0, .string S, .slice none 0 0] := by rw [← hS]; exact VOwn.flat w6 _ 3 0 0 _
          try simp only [Act.put, List.setIfInBounds_toArray, List.set_cons_zero, List.set_cons_succ]
          have hy7 := hy6.alloc (.cells #[.int .i64 3, .int .i64 0, .float .f64 0, .string S, .slice none 0 0] 25)
          have ho7 := ho6.alloc (.cells #[.int .i64 3, .int .i64 0, .float .f64 0, .string S, .slice none 0 0] 25)
          have hu37 := hu36.alloc (.cells #[.int .i64 3, .int .i64 0, .float .f64 0, .string S, .slice none 0 0] 25)
          have hsrc := Reads.lit (size := 5) w6 #[.int .i64 3, .int .i64 0, .float .f64 0, .string S, .slice none 0 0] 25 (0, 0) 1 (#[.int .i64 3, .int .i64 0, .float .f64 0, .string S, .slice none 0 0] : Array Value).toList rfl rfl
          refine lexG_now _ rfl rfl rfl (fun K0 hK => ?_)
          go_wp2_with fail
          refine hK _ _ _ (fun _ h => h) hu37 ?_
          clear hK K0
          try simp only [Act.put, List.setIfInBounds_toArray, List.set_cons_zero, List.set_cons_succ]
          repeat (first | (refine lexG_take _ ?_ rfl rfl rfl rfl (fun _ => ?_) ?_; rotate_left; (focus (go_simp; with_reducible rfl)); try simp only [Act.put, List.setIfInBounds_toArray, List.set_cons_zero, List.set_cons_succ]) | (refine lexG_skip _ rfl rfl (by assumption) ?_; try simp only [Act.put, List.setIfInBounds_toArray, List.set_cons_zero, List.set_cons_succ]))
          refine lexG_now _ rfl rfl rfl (fun K0 hK => ?_)
          refine wp_append_mine _ _ 23 23 rfl 25 i0 _ 5 64 Tryz.underlying23 ji jz0 jz1 jz2 rfl rfl ho7 rfl (Src.ofReads Tryz.underlying23 _ hsrc (by intro u hu; simp at hu; rcases hu with rfl | rfl | rfl | rfl | rfl <;> rfl)) (by unfold maxLen; omega) (by omega) (fun A8 c8 w8 ho8 hg8 hat8 => ?_)
          have hy8 := hy7.grown hg8 (fun e => hxA e.symm)
          have hu38 : Upd (fun y => bOf A = some y) w3 w8 := hu37.grown hg8 (fun k e _ => e)
          refine hK _ _ _ (fun _ h => h) hu38 ?_
          clear hK K0
          try simp only [Act.put, List.setIfInBounds_toArray, List.set_cons_zero, List.set_cons_succ]
          repeat (first | (refine lexG_take _ ?_ rfl rfl rfl rfl (fun _ => ?_) ?_; rotate_left; (focus (go_simp; with_reducible rfl)); try simp only [Act.put, List.setIfInBounds_toArray, List.set_cons_zero, List.set_cons_succ]) | (refine lexG_skip _ rfl rfl (by assumption) ?_; try simp only [Act.put, List.setIfInBounds_toArray, List.set_cons_zero, List.set_cons_succ]))
          refine lexG_nowF _ rfl rfl rfl (by kernel_rfl) (fun K0 hK => ?_)
          have y84 := hy8.cell 4
          have yf8 := hy8.frozen 4
          go_simp
          refine hK _ _ ?_
          clear hK K0
          refine lexG_nil ?_
          have R8 := R.push (by omega) hu6 (fun _ h => h.elim) hv6 ⟨_, rfl⟩ (by rw [hlj]; exact ho8) hg8 hat8
          have hb8 : Below w.heap.size w w8 := ((hlr.trans (hb6'.mono hlr.size)).alloc (Nat.le_trans hlr.size hb6'.size) (.cells #[.int .i64 3, .int .i64 0, .float .f64 0, .string S, .slice none 0 0] 25)).grown hg8 (by rw [World.size_alloc]; have := hb6'.size; have := hlr.size; omega) (fun k e => by have := R.hA k e; omega)
          have hy9 := hy8.set_ 4 (.slice A8 (16 + 1) c8)
          have R9 := R8.upd ((Upd.refl (fun x => x = x6) w8).setCell (p := ⟨x6, 4, none⟩) (fun _ => rfl) (.slice A8 (16 + 1) c8)) (fun g hg e => by omega)
          have hb9 := hb8.setCell (p := ⟨x6, 4, none⟩) h06 (.slice A8 (16 + 1) c8)
          clear R8 hb8 hy8 y84 yf8 hg8 hat8 ho8 hsrc ho7 hy7 ho6 hy6 hb6 hb6' hu6 hv6 R hu36 hu37 hu38 hu3 k3 hE3 hbr hlr
          replace hy9 := Lib.hid hy9
          replace R9 := Lib.hid R9
          go_wp2_with fail
          go_meet
          have hy := hy9.out
          have hR9 := R9.out
          have hf := (hR9.own (by simp) 4 0 0 []).reads
          have hll : (List.replicate 16 (textV 251) ++ [textV m]).length = 17 := by rw [List.length_append, hlj]; rfl
          rw [hll] at hf
          exact ⟨_, 4, 0, 0, ⟨#[]⟩, A8, 17, c8, hy, hf, hvt.out, hb9⟩
  case rest =>
  obtain ⟨v, k, i, f, s, A, n, c, hb, hv, hck, l3⟩ := hcut
  generalize wc = w3 at *
  clear hx6 l2
  have hchk := val_check_any hv w3 (Below.refl _ _) (Nat.le_refl _)
  have hs1 := fun W (hW : Below w3.heap.size w3 W) => val_size_any hv W hW hW.size
  have hs2 := fun W (hW : Below w3.heap.size w3 W) => ref_size hv W hW hW.size
  obtain ⟨SZ, hSZ⟩ : ∃ S, IntKind.i64.wrap (sizeV v : Int) = S := ⟨_, rfl⟩
  rw [hSZ] at hs1 hs2
  clear hSZ hv
  rw [hck] at hchk
  clear hck
  replace hchk := Lib.hid hchk
  replace hs1 := Lib.hid hs1
  replace hs2 := Lib.hid hs2
  have m0 := hb.cell 0
  have m1 := hb.cell 1
  have m2 := hb.cell 2
  have m3 := hb.cell 3
  have m4 := hb.cell 4
  by_cases h2 : q ≤ 2
  · rw [if_pos h2] at hchk
    have hD0 : decide (D ≤ 0) = true := decide_eq_true (hDq.out.2 h2)
    go_wp2_with fail
    refine hchk.out.mono ?_
    clear m0 m1 m2 m3 m4 hchk
    rintro e w4 ⟨rfl, hb4⟩
    dsimp only
    have hbb := hb.below hb4 hb.lt
    have l4 := below_then hb4 l3
    go_wp2_with fail
    refine wp_region_lex (fun W => Below w4.heap.size w4 W) [14, 16] [15, 17] [0, 1, 2, 3, 4, 5, 6, 7, 8, 9, 10, 11, 12, 13, 14, 16, 15, 17, 18, 19, 20] (by kernel_rfl) rfl (by kernel_rfl) (by kernel_rfl) (fun _ _ d _ _ h => by cases d <;> exact h) ?_
    have hS0 : Below w4.heap.size w4 w4.drew := (Below.refl _ _).drew
    repeat (first | (refine lexG_take _ ?_ rfl rfl rfl rfl (fun _ => ?_) ?_; rotate_left; (focus (go_simp; with_reducible rfl)); try simp only [Act.put, List.setIfInBounds_toArray, List.set_cons_zero, List.set_cons_succ]) | (refine lexG_held _ ?_ rfl rfl rfl rfl (by assumption) (fun _ hSw => ?_) ?_; rotate_left; (focus (have m0 := (hbb.below hSw hbb.lt).cell 0; have m1 := (hbb.below hSw hbb.lt).cell 1; have m2 := (hbb.below hSw hbb.lt).cell 2; have m3 := (hbb.below hSw hbb.lt).cell 3; have m4 := (hbb.below hSw hbb.lt).cell 4; clear hSw; go_simp; with_reducible rfl)); try simp only [Act.put, List.setIfInBounds_toArray, List.set_cons_zero, List.set_cons_succ]) | (refine lexG_skip _ rfl rfl (by assumption) ?_; try simp only [Act.put, List.setIfInBounds_toArray, List.set_cons_zero, List.set_cons_succ]))
    refine lexG_now _ rfl rfl rfl (fun K hK => ?_)
    go_wp2_with fail
    refine (hs1.out _ (below_then hS0 hb4)).mono ?_
    rintro e u1 ⟨rfl, hu1⟩
    dsimp only
    have hE1 := below_then hu1 hS0
    refine hK _ _ _ (fun _ h => h) hE1 ?_
    clear hK K hS0
    try simp only [Act.put, List.setIfInBounds_toArray, List.set_cons_zero, List.set_cons_succ]
    refine lexG_now _ rfl rfl rfl (fun K hK => ?_)
    go_wp2_with fail
    refine (hs2.out _ (below_then hE1 hb4)).mono ?_
    rintro e u2 ⟨rfl, hu2⟩
    dsimp only
    have hE2 := below_then hu2 hE1
    refine hK _ _ _ (fun _ h => h) hE2 ?_
    clear hK K
    try simp only [Act.put, List.setIfInBounds_toArray, List.set_cons_zero, List.set_cons_succ]
    repeat (refine lexG_take _ ?_ rfl rfl rfl rfl (fun _ => ?_) ?_; rotate_left; (focus (go_simp; with_reducible rfl)); try simp only [Act.put, List.setIfInBounds_toArray, List.set_cons_zero, List.set_cons_succ])
    refine lexG_nil ?_
    go_wp2_with fail
    go_ret
    exact ⟨rfl, below_then hE2 l4⟩
  · rw [if_neg h2] at hchk
    have hD0 : decide (D ≤ 0) = false := decide_eq_false (fun h => h2 (hDq.out.1 h))
    go_wp2_with fail
    refine hchk.out.mono ?_
    clear m0 m1 m2 m3 m4 hchk
    rintro e w4 ⟨rfl, hb4⟩
    dsimp only
    have hbb := hb.below hb4 hb.lt
    have l4 := below_then hb4 l3
    go_wp2_with fail
    refine wp_region_lex (fun W => Below w4.heap.size w4 W) [14, 16] [15, 17] [0, 1, 2, 3, 4, 5, 6, 7, 8, 9, 10, 11, 12, 13, 14, 16, 15, 17, 18, 19, 20] (by kernel_rfl) rfl (by kernel_rfl) (by kernel_rfl) (fun _ _ d _ _ h => by cases d <;> exact h) ?_
    have hS0 : Below w4.heap.size w4 w4.drew := (Below.refl _ _).drew
    repeat (first | (refine lexG_take _ ?_ rfl rfl rfl rfl (fun _ => ?_) ?_; rotate_left; (focus (go_simp; with_reducible rfl)); try simp only [Act.put, List.setIfInBounds_toArray, List.set_cons_zero, List.set_cons_succ]) | (refine lexG_held _ ?_ rfl rfl rfl rfl (by assumption) (fun _ hSw => ?_) ?_; rotate_left; (focus (have m0 := (hbb.below hSw hbb.lt).cell 0; have m1 := (hbb.below hSw hbb.lt).cell 1; have m2 := (hbb.below hSw hbb.lt).cell 2; have m3 := (hbb.below hSw hbb.lt).cell 3; have m4 := (hbb.below hSw hbb.lt).cell 4; clear hSw; go_simp; with_reducible rfl)); try simp only [Act.put, List.setIfInBounds_toArray, List.set_cons_zero, List.set_cons_succ]) | (refine lexG_skip _ rfl rfl (by assumption) ?_; try simp only [Act.put, List.setIfInBounds_toArray, List.set_cons_zero, List.set_cons_succ]))
    refine lexG_now _ rfl rfl rfl (fun K hK => ?_)
    go_wp2_with fail
    refine (hs1.out _ (below_then hS0 hb4)).mono ?_
    rintro e u1 ⟨rfl, hu1⟩
    dsimp only
    have hE1 := below_then hu1 hS0
    refine hK _ _ _ (fun _ h => h) hE1 ?_
    clear hK K hS0
    try simp only [Act.put, List.setIfInBounds_toArray, List.set_cons_zero, List.set_cons_succ]
    refine lexG_now _ rfl rfl rfl (fun K hK => ?_)
    go_wp2_with fail
    refine (hs2.out _ (below_then hE1 hb4)).mono ?_
    rintro e u2 ⟨rfl, hu2⟩
    dsimp only
    have hE2 := below_then hu2 hE1
    refine hK _ _ _ (fun _ h => h) hE2 ?_
    clear hK K
    try simp only [Act.put, List.setIfInBounds_toArray, List.set_cons_zero, List.set_cons_succ]
    repeat (refine lexG_take _ ?_ rfl rfl rfl rfl (fun _ => ?_) ?_; rotate_left; (focus (go_simp; with_reducible rfl)); try simp only [Act.put, List.setIfInBounds_toArray, List.set_cons_zero, List.set_cons_succ])
    refine lexG_nil ?_
    go_wp2_with fail
    go_ret
    exact ⟨rfl, below_then hE2 l4⟩
end Go.Proofs.YtdbmffagibnibaaGreatDoor
