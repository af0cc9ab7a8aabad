import Derived.Test.YtdnoafjaheofcaaDoorRows
import Derived.Test.YtdnoafjaheofcaaDoorKit
import Derived.Test.YtdnoafjaheofcaaDoorCrc
set_option linter.unusedSimpArgs false
set_option linter.unusedVariables false
namespace Go.Proofs.YtdnoafjaheofcaaDoor
set_option maxRecDepth 100000
open Go.RowKit

theorem crc1_bits (y : Nat) (h : y < 4294967296) : bits .xor .u32 ((y : Int) / 2) (3988292384 * bits .and .u32 (y : Int) 1 % 4294967296) = ((crc1 y : Nat) : Int) := by
  rw [u32_and_one y h, show ((y : Int) / 2) = ((y / 2 : Nat) : Int) from rfl, show (3988292384 * ((y % 2 : Nat) : Int) % 4294967296) = ((3988292384 * (y % 2) : Nat) : Int) from by omega]
  rw [u32_xor_nat _ _ (by omega) (by omega)]
  rfl
theorem crc0_bits (x : Nat) (b : UInt8) (h : x < 4294967296) : bits .xor .u32 (x : Int) ((b.toNat : Int) % 4294967296) = ((x ^^^ b.toNat : Nat) : Int) := by
  have := b.toNat_lt
  rw [show ((b.toNat : Int) % 4294967296) = ((b.toNat : Nat) : Int) from by omega, u32_xor_nat _ _ h (by omega)]
theorem crcE_bits (x : Nat) (h : x < 4294967296) : bits .xor .u32 IntKind.u32.max (x : Int) = ((x ^^^ 4294967295 : Nat) : Int) := by
  rw [show IntKind.u32.max = ((4294967295 : Nat) : Int) from rfl, u32_xor_nat _ _ (by omega) h, Nat.xor_comm]
theorem crcL_take_succ (bs : List UInt8) (s : Nat) {j : Nat} (hj : j < bs.length) : crcL s (bs.take (j + 1)) = crcN 8 (crcL s (bs.take j) ^^^ bs[j].toNat) := by
  rw [List.take_succ_eq_append_getElem hj, crcL_append]
  rfl

theorem sum_contract (A : Option Addr) (c : Nat) (bs : List UInt8) (w : World) (h : Reads w w.heap.size 1 A bs.length (bys bs)) (hl : bs.length ≤ 140737488351232) :
    Calls Tryd.prog 58 #[.slice A bs.length c] w fun e w' => e = .returned (.int .u32 (crc bs : Nat)) ∧ Below w.heap.size w w' := by
  go_enter Tryd.func58, Tryd.ntmps58
  go_wp2
  all_goals
   go_loopw [3, 8] (fun s i w' => ∃ (j : Nat), j ≤ bs.length ∧ s = .int .u32 ((crcL 4294967295 (bs.take j) : Nat) : Int) ∧ i = .int .i64 (j : Int) ∧ Below w.heap.size w w') (fun _ i _ => ((bs.length : Int) - intOf i).toNat)
   case atStart => exact ⟨0, Nat.zero_le _, rfl, rfl, Below.refl _ w⟩
   case round =>
    obtain ⟨j, hj, rfl, rfl, hb⟩ := hrel
    generalize hx : crcL 4294967295 (bs.take j) = x
    have hxl : x < 4294967296 := by rw [← hx]; exact crcL_lt _ (by omega)
    replace hx := Lib.hid hx
    by_cases hlt : j < bs.length
    · obtain ⟨ad, u, rfl, _, hu, hc⟩ := (h.below hb).at_ hlt
      simp only [bys, byv, List.getElem?_map, List.getElem?_eq_getElem hlt, Option.map_some, Option.some.injEq] at hu
      subst hu
      go_wp2_with fail
      rw [show bits .xor .u32 (x : Int) ((bs[j].toNat : Int) % 4294967296) = ((x ^^^ bs[j].toNat : Nat) : Int) from crc0_bits x _ hxl]
      generalize hy0 : x ^^^ bs[j].toNat = y0
      have hy0l : y0 < 4294967296 := by rw [← hy0]; exact xor_byte_lt _ hxl
      replace hy0 := Lib.hid hy0
      go_loopw [3, 16] (fun s i w' => ∃ (m : Nat), m ≤ 8 ∧ s = .int .u32 ((crcN m y0 : Nat) : Int) ∧ i = .int .i64 (m : Int) ∧ Below w.heap.size w w') (fun _ i _ => (8 - intOf i).toNat)
      case atStart => exact ⟨0, by omega, rfl, rfl, by assumption⟩
      case round =>
        obtain ⟨m, hm, rfl, rfl, hb'⟩ := hrel
        generalize hy : crcN m y0 = y
        have hyl : y < 4294967296 := by rw [← hy]; exact crcN_lt _ hy0l
        replace hy := Lib.hid hy
        by_cases hlt' : m < 8
        · go_wp2_with fail
          rw [crc1_bits y hyl]
          go_roundw
          case rel => exact ⟨m + 1, by omega, by rw [← hy.out]; rfl, by simp, by assumption⟩
          case measure => simp [intOf]; omega
        · have he : m = 8 := by omega
          subst he
          go_wp2_with fail
          go_roundw
          case rel => exact ⟨j + 1, by omega, by rw [crcL_take_succ bs _ hlt, hx.out, hy0.out, hy.out], by simp, by assumption⟩
          case measure => simp [intOf]; omega
    · have he : j = bs.length := by omega
      subst he
      go_wp2_with fail
      rw [crcE_bits x hxl]
      go_ret
      have hx := hx.out
      rw [List.take_length] at hx
      subst hx
      exact ⟨rfl, by assumption⟩

theorem crc1_odd (y : Nat) (h : y < 4294967296) (ho : y % 2 = 1) : bits .xor .u32 ((y : Int) / 2) 3988292384 = ((crc1 y : Nat) : Int) := by
  rw [show ((y : Int) / 2) = ((y / 2 : Nat) : Int) from rfl, show (3988292384 : Int) = ((3988292384 : Nat) : Int) from rfl, u32_xor_nat _ _ (by omega) (by omega)]
  simp [crc1, ho]
theorem crc1_even (y : Nat) (ho : y % 2 = 0) : ((y : Int) / 2) = ((crc1 y : Nat) : Int) := by
  simp [crc1, ho]

theorem ref_sum_contract (A : Option Addr) (c : Nat) (bs : List UInt8) (w : World) (h : Reads w w.heap.size 1 A bs.length (bys bs)) (hl : bs.length ≤ 140737488351232) :
    Calls Tryd.prog 43 #[.slice A bs.length c] w fun e w' => e = .returned (.int .u32 (crc bs : Nat)) ∧ Below w.heap.size w w' := by
  go_enter Tryd.func43, Tryd.ntmps43
  go_wp2
  all_goals
   go_loopw [3, 4] (fun s i w' => ∃ (j : Nat), j ≤ bs.length ∧ s = .int .u32 ((crcL 4294967295 (bs.take j) : Nat) : Int) ∧ i = .int .i64 (j : Int) ∧ Below w.heap.size w w') (fun _ i _ => ((bs.length : Int) - intOf i).toNat)
   case atStart => exact ⟨0, Nat.zero_le _, rfl, rfl, Below.refl _ w⟩
   case round =>
    obtain ⟨j, hj, rfl, rfl, hb⟩ := hrel
    generalize hx : crcL 4294967295 (bs.take j) = x
    have hxl : x < 4294967296 := by rw [← hx]; exact crcL_lt _ (by omega)
    replace hx := Lib.hid hx
    by_cases hlt : j < bs.length
    · obtain ⟨ad, u, rfl, _, hu, hc⟩ := (h.below hb).at_ hlt
      simp only [bys, byv, List.getElem?_map, List.getElem?_eq_getElem hlt, Option.map_some, Option.some.injEq] at hu
      subst hu
      go_wp2_with fail
      rw [show bits .xor .u32 (x : Int) ((bs[j].toNat : Int) % 4294967296) = ((x ^^^ bs[j].toNat : Nat) : Int) from crc0_bits x _ hxl]
      generalize hy0 : x ^^^ bs[j].toNat = y0
      have hy0l : y0 < 4294967296 := by rw [← hy0]; exact xor_byte_lt _ hxl
      replace hy0 := Lib.hid hy0
      go_loopw [3, 5] (fun s i w' => ∃ (m : Nat), m ≤ 8 ∧ s = .int .u32 ((crcN m y0 : Nat) : Int) ∧ i = .int .i64 (m : Int) ∧ Below w.heap.size w w') (fun _ i _ => (8 - intOf i).toNat)
      case atStart => exact ⟨0, by omega, rfl, rfl, by assumption⟩
      case round =>
        obtain ⟨m, hm, rfl, rfl, hb'⟩ := hrel
        generalize hy : crcN m y0 = y
        have hyl : y < 4294967296 := by rw [← hy]; exact crcN_lt _ hy0l
        replace hy := Lib.hid hy
        by_cases hlt' : m < 8
        · rcases Nat.mod_two_eq_zero_or_one y with ho | ho
          · have ht : (bits .and .u32 (y : Int) 1 == (1 : Int)) = false := by rw [u32_and_one y hyl, ho]; rfl
            replace ho := Lib.hid ho
            go_wp2_with fail
            rw [crc1_even y ho.out]
            go_roundw
            case rel => exact ⟨m + 1, by omega, by rw [← hy.out]; rfl, by simp, by assumption⟩
            case measure => simp [intOf]; omega
          · have ht : (bits .and .u32 (y : Int) 1 == (1 : Int)) = true := by rw [u32_and_one y hyl, ho]; rfl
            replace ho := Lib.hid ho
            go_wp2_with fail
            rw [crc1_odd y hyl ho.out]
            go_roundw
            case rel => exact ⟨m + 1, by omega, by rw [← hy.out]; rfl, by simp, by assumption⟩
            case measure => simp [intOf]; omega
        · have he : m = 8 := by omega
          subst he
          go_wp2_with fail
          go_roundw
          case rel => exact ⟨j + 1, by omega, by rw [crcL_take_succ bs _ hlt, hx.out, hy0.out, hy.out], by simp, by assumption⟩
          case measure => simp [intOf]; omega
    · have he : j = bs.length := by omega
      subst he
      go_wp2_with fail
      rw [crcE_bits x hxl]
      go_ret
      have hx := hx.out
      rw [List.take_length] at hx
      subst hx
      exact ⟨rfl, by assumption⟩
end Go.Proofs.YtdnoafjaheofcaaDoor
