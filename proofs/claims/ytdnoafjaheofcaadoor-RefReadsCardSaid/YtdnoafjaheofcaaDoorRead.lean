/- wire.ReadU, the document's PutU, ReadU. -/
import Derived.Test.YtdnoafjaheofcaaDoorPut
set_option linter.unusedSimpArgs false
set_option linter.unusedVariables false
namespace Go.Proofs.YtdnoafjaheofcaaDoor
set_option maxRecDepth 100000
open Go.RowKit

theorem wire_read {A : Option Addr} {c : Nat} {bs : List UInt8} {k : Nat} {w : World} (h : Reads w w.heap.size 1 A bs.length (bys bs)) (hk : k ≤ 8) (hkl : k ≤ bs.length) (hc : bs.length ≤ c) (hl : bs.length ≤ 140737488351232) :
    Calls Tryd.prog 52 #[.slice A bs.length c, .int .i64 (k : Int)] w fun e w' => e = .returned (.tuple #[.int .u64 (readU (bs.take k) : Nat), .bool true]) ∧ Below w.heap.size w w' := by
  go_enter Tryd.func52, Tryd.ntmps52
  go_wp2
  all_goals
   go_loopw [6, 25] (fun s i w' => ∃ (j : Nat), j ≤ k ∧ i = .int .i64 (j : Int) ∧ s = .int .u64 (readU (bs.take j) : Nat) ∧ Below w.heap.size w w') (fun _ i _ => (8 - intOf i).toNat)
   case atStart => exact ⟨0, Nat.zero_le _, rfl, rfl, Below.refl _ _⟩
   case round =>
    obtain ⟨j, hj, rfl, rfl, hb⟩ := hrel
    generalize hx : readU (bs.take j) = x
    by_cases hlt : j < k
    · have hxl : x < 72057594037927936 := by rw [← hx]; exact readU_take_lt bs j (by omega)
      have hjl : j < bs.length := by omega
      replace hx := Lib.hid hx
      obtain ⟨ad, u, rfl, _, hu, hc⟩ := (h.below hb).at_ hjl
      simp only [bys, byv, List.getElem?_map, List.getElem?_eq_getElem hjl, Option.map_some, Option.some.injEq] at hu
      subst hu
      go_wp2_with fail
      have hor : bits .or .u64 ((x : Int) * 256) (IntKind.u64.wrap ((bs[j].toNat : Nat) : Int)) = ((readU (bs.take (j + 1)) : Nat) : Int) := by
        have h1 := u64_or_byte x bs[j].toNat hxl bs[j].toNat_lt
        rw [show IntKind.u64.wrap ((x : Int) * 256) = (x : Int) * 256 from by simp [IntKind.wrap, IntKind.bits, IntKind.signed]; omega] at h1
        rw [h1, List.take_succ_eq_append_getElem hjl, readU_snoc, hx.out]
      rw [hor]
      go_roundw
      case rel => exact ⟨j + 1, by omega, by simp, rfl, by assumption⟩
      case measure => simp [intOf]; omega
    · have he : j = k := by omega
      subst he
      replace hx := Lib.hid hx
      go_wp2_with fail
      go_ret2
      have hx := hx.out
      subst hx
      exact ⟨rfl, hb⟩

theorem ref_read {A : Option Addr} {c : Nat} {bs : List UInt8} {k : Nat} {w : World} (h : Reads w w.heap.size 1 A bs.length (bys bs)) (hk : k ≤ 8) (hkl : k ≤ bs.length) (hl : bs.length ≤ 140737488351232) :
    Calls Tryd.prog 40 #[.slice A bs.length c, .int .i64 (k : Int)] w fun e w' => e = .returned (.tuple #[.int .u64 (readU (bs.take k) : Nat), .bool true]) ∧ Below w.heap.size w w' := by
  go_enter Tryd.func40, Tryd.ntmps40
  go_wp2
  all_goals
   go_loopw [6, 7] (fun s i w' => ∃ (j : Nat), j ≤ k ∧ i = .int .i64 (j : Int) ∧ s = .int .u64 (readU (bs.take j) : Nat) ∧ Below w.heap.size w w') (fun _ i _ => (8 - intOf i).toNat)
   case atStart => exact ⟨0, Nat.zero_le _, rfl, rfl, Below.refl _ _⟩
   case round =>
    obtain ⟨j, hj, rfl, rfl, hb⟩ := hrel
    generalize hx : readU (bs.take j) = x
    by_cases hlt : j < k
    · have hxl : x < 72057594037927936 := by rw [← hx]; exact readU_take_lt bs j (by omega)
      have hjl : j < bs.length := by omega
      replace hx := Lib.hid hx
      obtain ⟨ad, u, rfl, _, hu, hc⟩ := (h.below hb).at_ hjl
      simp only [bys, byv, List.getElem?_map, List.getElem?_eq_getElem hjl, Option.map_some, Option.some.injEq] at hu
      subst hu
      go_wp2_with fail
      have hor : bits .or .u64 ((x : Int) * 256) (IntKind.u64.wrap ((bs[j].toNat : Nat) : Int)) = ((readU (bs.take (j + 1)) : Nat) : Int) := by
        have h1 := u64_or_byte x bs[j].toNat hxl bs[j].toNat_lt
        rw [show IntKind.u64.wrap ((x : Int) * 256) = (x : Int) * 256 from by simp [IntKind.wrap, IntKind.bits, IntKind.signed]; omega] at h1
        rw [h1, List.take_succ_eq_append_getElem hjl, readU_snoc, hx.out]
      rw [hor]
      exact ⟨⟨j + 1, by omega, by simp, rfl, by assumption⟩, by simp [intOf]; omega⟩
    · have he : j = k := by omega
      subst he
      replace hx := Lib.hid hx
      go_wp2_with fail
      go_ret2
      have hx := hx.out
      subst hx
      exact ⟨rfl, hb⟩

/-- Bytes put behind an owned row. -/
def PutBytes (w : World) (A : Option Addr) (bs : List UInt8) (e : Ending) (w' : World) : Prop :=
  ∃ A' c', e = .returned (.slice A' bs.length c') ∧ Own w' 5 1 A' bs.length c' (bys bs) ∧ Upd (fun k => some k = bOf A) w w' ∧ (bOf A' = bOf A ∨ ∀ g, bOf A' = some g → w.heap.size ≤ g)

theorem ref_put {A : Option Addr} {c : Nat} {bs : List UInt8} {v : Nat} {m : Int} {w : World} (h : Own w 5 1 A bs.length c (bys bs)) (hl : bs.length ≤ 100000000000) (hv : v < 18446744073709551616) :
    Calls Tryd.prog 24 #[.slice A bs.length c, .int .u64 (v : Int), .int .i64 m] w (PutBytes w A (bs ++ putU v (n8 m))) := by
  obtain ⟨i0, hi, hz0, hz1, hz2⟩ := info_parts info_u8
  go_enter Tryd.func24, Tryd.ntmps24
  obtain ⟨x, hx1, hx2⟩ := n8_if m
  have hn8 := n8_le m
  generalize hk : n8 m = k at hx2 hn8
  replace hk := Lib.hid hk
  go_wp2
  go_loopw [0, 7] (fun s i w' => ∃ (j : Nat) (A' : Option Addr) (c' : Nat) (X : List UInt8), j ≤ k ∧ X.length + j = k ∧ X ++ putU v j = putU v k ∧ s = .slice A' (bs.length + X.length) c' ∧ i = .int .i64 ((j : Int) - 1) ∧ Own w' 5 1 A' (bs.length + X.length) c' (bys (bs ++ X)) ∧ Upd (fun k => some k = bOf A) w w' ∧ (bOf A' = bOf A ∨ ∀ g, bOf A' = some g → w.heap.size ≤ g)) (fun _ i _ => (intOf i + 1).toNat)
  case atStart => exact ⟨k, A, c, [], Nat.le_refl _, by simp, by simp, by simp, by simp, by simpa using h, Upd.refl _ _, .inl rfl⟩
  case round =>
    obtain ⟨j, A', c', X, hj, hXj, hX, rfl, rfl, ho, hu, hg⟩ := hrel
    by_cases hlt : 1 ≤ j
    · have hbyte : (#[Value.int .u8 ((v : Int) / 2 ^ (8 * (j - 1)) % 256)] : Array Value).toList = bys [byteAt v (j - 1)] := by simp [bys, byv, byteAt_val]
      go_wp2_with (at_builtin; go_must (refine wpList_append_mine rfl _ _ 22 22 rfl 5 i0 (.int .u8 0) 1 1 Tryd.underlying22 hi hz0 hz1 hz2 rfl rfl (ho.alloc _) rfl (Src.ofReads Tryd.underlying22 _ (Reads.lit _ _ _ _ 1 _ hbyte rfl) (bys_one _)) ?b1 ?b2 ?grow))
      case b1 => unfold maxLen; omega
      case b2 => omega
      case grow =>
        intro A2 c2 w2 hown hgr hat
        go_wp2_with fail
        go_roundw
        case rel =>
          refine ⟨j - 1, A2, c2, X ++ [byteAt v (j - 1)], by omega, by simp; omega, ?_, by simp [Nat.add_assoc], by simp; omega, by simpa [bys_append, Nat.add_assoc] using hown, (hu.alloc _).grown hgr (fun k hk hkl => ?_), ?_⟩
          · rw [← hX, show j = (j - 1) + 1 from by omega]; simp [putU]
          · rcases hg with h | h
            · rw [← hk, h]
            · have := h k hk; omega
          · rcases hat with h | h
            · rw [h]; exact hg
            · refine .inr fun g hg' => ?_
              rw [h] at hg'
              have := hu.size; simp at hg'; omega
        case measure => simp [intOf]; omega
    · have hj0 : j = 0 := by omega
      subst hj0
      go_wp2_with fail
      go_ret
      simp [putU] at hX
      subst hX
      have hk := hk.out
      subst hk
      exact ⟨A', c', by simp, by simpa using ho, hu, hg⟩
end Go.Proofs.YtdnoafjaheofcaaDoor
