/- wire.PutU, wire.ReadU. -/
import Derived.Test.YtdnoafjaheofcaaDoorBytes
import Derived.Test.YtdnoafjaheofcaaDoorNum
set_option linter.unusedSimpArgs false
set_option linter.unusedVariables false
namespace Go.Proofs.YtdnoafjaheofcaaDoor
set_option maxRecDepth 100000
open Go.RowKit

theorem wire_put {A : Option Addr} {c B : Nat} {bs : List UInt8} {v : Nat} {m : Int} {w : World} (hr : Reads w B 1 A bs.length (bys bs)) (hB : B ≤ w.heap.size) (hl : bs.length ≤ 100000000000) (hv : v < 18446744073709551616) :
    Calls Tryd.prog 20 #[.slice A bs.length c, .int .u64 (v : Int), .int .i64 m] w (NewBytes w (bs ++ putU v (n8 m))) := by
  obtain ⟨i0, hi, hz0, hz1, hz2⟩ := info_parts info_u8
  go_enter Tryd.func20, Tryd.ntmps20
  go_wp2_with fail
  refine (clone_bytes hr hB (by omega)).mono ?_
  rintro e w1 ⟨A1, c1, rfl, ho1, hb1, hg1⟩
  dsimp only
  obtain ⟨x, hx1, hx2⟩ := n8_if m
  have hn8 := n8_le m
  generalize hk : n8 m = k at hx2 hn8
  replace hk := Lib.hid hk
  go_wp2
  go_loopw [7, 8] (fun s i w' => ∃ (j : Nat) (A' : Option Addr) (c' : Nat) (X : List UInt8), j ≤ k ∧ X.length + j = k ∧ X ++ putU v j = putU v k ∧ s = .slice A' (bs.length + X.length) c' ∧ i = .int .i64 ((j : Int) - 1) ∧ Own w' 5 1 A' (bs.length + X.length) c' (bys (bs ++ X)) ∧ Below w.heap.size w w' ∧ ∀ g, bOf A' = some g → w.heap.size ≤ g) (fun _ i _ => (intOf i + 1).toNat)
  case atStart => exact ⟨k, A1, c1, [], Nat.le_refl _, by simp, by simp, by simp, by simp, by simpa using ho1, hb1, hg1⟩
  case round =>
    obtain ⟨j, A', c', X, hj, hXj, hX, rfl, rfl, ho, hb, hg⟩ := hrel
    by_cases hlt : 1 ≤ j
    · have hbyte : (#[Value.int .u8 ((v : Int) / 2 ^ (8 * (j - 1)) % 256)] : Array Value).toList = bys [byteAt v (j - 1)] := by simp [bys, byv, byteAt_val]
      go_wp2_with (at_builtin; go_must (refine wpList_append_mine rfl _ _ 22 22 rfl 5 i0 (.int .u8 0) 1 1 Tryd.underlying22 hi hz0 hz1 hz2 rfl rfl (ho.alloc _) rfl (Src.ofReads Tryd.underlying22 _ (Reads.lit _ _ _ _ 1 _ hbyte rfl) (bys_one _)) ?b1 ?b2 ?grow))
      case b1 => unfold maxLen; omega
      case b2 => omega
      case grow =>
        intro A2 c2 w2 hown hgr hat
        go_wp2_with fail
        go_roundw
        case rel =>
          refine ⟨j - 1, A2, c2, X ++ [byteAt v (j - 1)], by omega, by simp; omega, ?_, by simp [Nat.add_assoc], by simp; omega, by simpa [bys_append, Nat.add_assoc] using hown, (hb.alloc hb.size _).grown hgr (Nat.le_trans hb.size (by simp)) (fun k hk => ?_), fun g hg' => ?_⟩
          · rw [← hX, show j = (j - 1) + 1 from by omega]; simp [putU]
          · exact hg k hk
          · rcases hat with h | h <;> rw [h] at hg'
            · exact hg g hg'
            · have := hb.size; simp at hg'; omega
        case measure => simp [intOf]; omega
    · have hj0 : j = 0 := by omega
      subst hj0
      go_wp2_with fail
      go_ret
      simp [putU] at hX
      subst hX
      have hk := hk.out
      subst hk
      exact ⟨A', c', by simp, by simpa using ho, hb, hg⟩
end Go.Proofs.YtdnoafjaheofcaaDoor
