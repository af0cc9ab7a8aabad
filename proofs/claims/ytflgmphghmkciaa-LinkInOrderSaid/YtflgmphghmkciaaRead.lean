/- wire.ReadU, the document's PutU, ReadU. -/
import Derived.Test.YtflgmphghmkciaaPut
set_option linter.unusedSimpArgs false
set_option linter.unusedVariables false
namespace Go.Proofs.Ytflgmphghmkciaa
open Go.RowKit

theorem wire_read {A : Option Addr} {c : Nat} {bs : List UInt8} {k : Nat} {w : World} (h : Reads w w.heap.size 1 A bs.length (bys bs)) (hk : k ≤ 8) (hkl : k ≤ bs.length) (hc : bs.length ≤ c) (hl : bs.length ≤ 140737488351232) :
    Calls Try.prog 16 #[.slice A bs.length c, .int .i64 (k : Int)] w fun e w' => e = .returned (.tuple #[.int .u64 (readU (bs.take k) : Nat), .bool true]) ∧ Below w.heap.size w w' := by
  go_enter Try.func16, Try.ntmps16
  go_wp2
  all_goals
   go_loopw [6, 25] (fun s i w' => ∃ (j : Nat), j ≤ k ∧ i = .int .i64 (j : Int) ∧ s = .int .u64 (readU (bs.take j) : Nat) ∧ Below w.heap.size w w') (fun _ i _ => (8 - intOf i).toNat)
   case atStart => exact ⟨0, Nat.zero_le _, rfl, rfl, Below.refl _ _⟩
   case round =>
    obtain ⟨j, hj, rfl, rfl, hb⟩ := hrel
    generalize hx : readU (bs.take j) = x
    by_cases hlt : j < k
    · have hxl : x < 72057594037927936 := by rw [← hx]; exact readU_take_lt bs j (by omega)
      have hjl : j < bs.length := by omega
      replace hx := Lib.hid hx
      obtain ⟨ad, u, rfl, _, hu, hc⟩ := (h.below hb).at_ hjl
      simp only [bys, byv, List.getElem?_map, List.getElem?_eq_getElem hjl, Option.map_some, Option.some.injEq] at hu
      subst hu
      go_wp2_with fail
      have hor : bits .or .u64 ((x : Int) * 256) (IntKind.u64.wrap ((bs[j].toNat : Nat) : Int)) = ((readU (bs.take (j + 1)) : Nat) : Int) := by
        have h1 := u64_or_byte x bs[j].toNat hxl bs[j].toNat_lt
        rw [show IntKind.u64.wrap ((x : Int) * 256) = (x : Int) * 256 from by simp [IntKind.wrap, IntKind.bits, IntKind.signed]; omega] at h1
        rw [h1, List.take_succ_eq_append_getElem hjl, readU_snoc, hx.out]
      rw [hor]
      go_roundw
      case rel => exact ⟨j + 1, by omega, by simp, rfl, by assumption⟩
      case measure => simp [intOf]; omega
    · have he : j = k := by omega
      subst he
      replace hx := Lib.hid hx
      go_wp2_with fail
      go_ret2
      have hx := hx.out
      subst hx
      exact ⟨rfl, hb⟩

/-- Bytes put behind an owned row. -/
def PutBytes (w : World) (A : Option Addr) (bs : List UInt8) (e : Ending) (w' : World) : Prop :=
  ∃ A' c', e = .returned (.slice A' bs.length c') ∧ Own w' 5 1 A' bs.length c' (bys bs) ∧ Upd (fun k => some k = bOf A) w w' ∧ (bOf A' = bOf A ∨ ∀ g, bOf A' = some g → w.heap.size ≤ g)

end Go.Proofs.Ytflgmphghmkciaa
