/- Floats' digits: a number's digits laid into a buffer, noughts at the end struck. -/
import Derived.Test.YtdbmffagibnibaaGreatDoorFf2
import Derived.Lib.ItoaMem
import Derived.Shelf.Strconv.Itoa3
set_option linter.unusedSimpArgs false
set_option linter.unusedVariables false
namespace Go.Proofs.YtdbmffagibnibaaGreatDoor
open Go.RowKit Go.Sort Go.Lib
set_option maxRecDepth 100000

abbrev u8v : UInt8 → Value := fun b => Value.int .u8 (b.toNat : Int)
theorem below_putRow {B blk off : Nat} {w0 w : World} {d : Array UInt8} (h : Below B w0 w) (hB : B ≤ blk) : Below B w0 (putRow u8v w blk off d) :=
  ⟨h.os, h.tape, h.output, by rw [size_putRow]; exact h.size, fun k hk => by
    rw [← h.block k hk]
    show (w.heap.modify blk _)[k]? = _
    rw [Array.getElem?_modify, if_neg (by omega)]⟩

/-- A buffer's noughts. -/
def Zeros (w : World) (Y n : Nat) : Prop := ∀ j, j < n → w.cell? ⟨Y, j, none⟩ = some (.int .u8 0) ∧ w.frozen? ⟨Y, j, none⟩ = false

set_option maxHeartbeats 6400000 in
theorem setDigits_walk (Y u : Nat) (p : Int) (w : World) (hz : Zeros w Y 32) (h1 : 1 ≤ u) (h2 : u < 18446744073709551616) (hp0 : -1000 ≤ p) (hp1 : p ≤ 1000) (hn : Lib.nDigits u ≤ 20) :
    Calls Tryz.prog 99 #[.slice (some ⟨Y, 0, none⟩) 32 32, .int .u64 (u : Int), .int .i64 p, .int .i64 (Lib.nDigits u : Int)] w (fun e w' => ∃ k : Nat, k ≤ Lib.nDigits u ∧ e = .returned (.tuple #[.int .i64 ((Lib.nDigits u : Int) + p), .int .i64 (k : Int)]) ∧ Below Y w w' ∧ w'.heap.size = w.heap.size ∧
      (∀ j, j < Lib.nDigits u → w'.cell? ⟨Y, j, none⟩ = some (byv ((Lib.decDigits u).getD j 0))) ∧ (∀ j, k ≤ j → j < Lib.nDigits u → (Lib.decDigits u).getD j 0 = 48) ∧ (0 < k → (Lib.decDigits u).getD (k - 1) 0 ≠ 48)) := by
  have hH0 : Holds u8v w Y 0 (Array.replicate (Lib.nDigits u) (0 : UInt8)) := fun j hj => by
    rw [Array.size_replicate] at hj
    obtain ⟨c, f⟩ := hz j (by omega)
    rw [Nat.zero_add]
    refine ⟨?_, f⟩
    rw [c]
    simp [hj]
  have hfmt := Tryz.internal_strconv_formatBase10 Y 0 32 u (Array.replicate (Lib.nDigits u) 0) w hH0 (by rw [Array.size_replicate]; exact Lib.lt_pow_nDigits u) h2 (by rw [Array.size_replicate]; omega)
  rw [Array.size_replicate] at hfmt
  have hdl := Lib.decDigits_length u
  obtain ⟨nd, hnd⟩ : ∃ nd, Lib.nDigits u = nd := ⟨_, rfl⟩
  rw [hnd] at hfmt hn hH0 hdl ⊢
  have wnp : IntKind.i64.wrap ((nd : Int) + p) = (nd : Int) + p := by rw [IntKind.wrap_i64]; omega
  replace hfmt := Lib.hid hfmt
  have HH0 := Lib.hid hH0
  clear hH0
  replace hz := Lib.hid hz
  replace hnd := Lib.hid hnd
  go_enter Tryz.func99, Tryz.ntmps99
  go_wp2_with fail
  refine hfmt.out.mono ?_
  clear hfmt
  rintro e w1 ⟨rfl, n, v', dk, rfl, hF⟩
  dsimp only
  have hsz : dk.size = nd := hF.size
  have hcell : ∀ j, j < nd → ((putRow u8v w Y 0 dk).drewN n).cell? ⟨Y, j, none⟩ = some (byv ((Lib.decDigits u).getD j 0)) := fun j hj => by
    have h := cell?_putRow u8v w Y 0 _ dk HH0.out (by rw [hsz, Array.size_replicate]) j (by omega)
    rw [Nat.zero_add] at h
    rw [World.cell?_drewN, h]
    have hd : (Lib.decDigits u).getD j 0 = dk[j]! := by
      rw [List.getD, List.getElem?_eq_getElem (by omega), Option.getD_some]
      exact Lib.row_is_numeral (by rw [hnd.out]; exact hF) j (by omega)
    rw [hd]
    rfl
  have hbel : Below Y w ((putRow u8v w Y 0 dk).drewN n) := by
    have h := below_putRow (off := 0) (d := dk) (Below.refl Y w) (Nat.le_refl Y)
    exact ⟨h.os, h.tape, h.output, h.size, h.block⟩
  have hsize : ((putRow u8v w Y 0 dk).drewN n).heap.size = w.heap.size := by show (putRow u8v w Y 0 dk).heap.size = _; rw [size_putRow]
  generalize (putRow u8v w Y 0 dk).drewN n = W1 at *
  clear hF hsz HH0 hz
  replace hcell := Lib.hid hcell
  replace hbel := Lib.hid hbel
  go_wp2_with fail
  go_loopw [3] (fun i wr => ∃ k : Nat, k ≤ nd ∧ i = .int .i64 (k : Int) ∧ wr = W1 ∧ ∀ j, k ≤ j → j < nd → (Lib.decDigits u).getD j 0 = 48) (fun i _ => (RowKit.intOf i).toNat)
  case atStart => exact ⟨nd, Nat.le_refl _, rfl, rfl, fun j h1 h2 => by omega⟩
  case round =>
    rename_i hrel
    obtain ⟨k, hk, rfl, rfl, hall⟩ := hrel
    replace hall := Lib.hid hall
    by_cases hk0 : 0 < k
    · have hc := hcell.out (k - 1) (by omega)
      obtain ⟨x, hx⟩ : ∃ x, (Lib.decDigits u).getD (k - 1) 0 = x := ⟨_, rfl⟩
      rw [hx] at hc
      replace hx := Lib.hid hx
      obtain ⟨m, hm⟩ : ∃ m, k - 1 = m := ⟨_, rfl⟩
      rw [hm] at hc hx
      have wk : IntKind.i64.wrap ((k : Int) - 1) = (m : Int) := by rw [IntKind.wrap_i64]; omega
      have dk0 : decide ((0 : Int) < (k : Int)) = true := decide_eq_true (by omega)
      simp only [byv] at hc
      by_cases hx8 : x = 48
      · subst hx8
        simp only [show ((48 : UInt8).toNat : Int) = 48 from rfl] at hc
        go_wp2_with fail
        refine ⟨⟨m, by omega, rfl, trivial, fun j h1 h2 => ?_⟩, by simp only [RowKit.intOf, Int.toNat_natCast]; omega⟩
        rcases Nat.lt_or_ge j k with h | h
        · obtain rfl : j = m := by omega
          exact hx.out
        · exact hall.out j h h2
      · have hxe : ((x.toNat : Int) == 48) = false := by
          rw [beq_eq_false_iff_ne]
          intro h
          apply hx8
          apply UInt8.toNat_inj.1
          show x.toNat = 48
          omega
        go_wp2_with fail
        go_ret2
        exact ⟨k, hk, rfl, hbel.out, hsize, hcell.out, hall.out, fun _ => by rw [hm, hx.out]; exact hx8⟩
    · obtain rfl : k = 0 := by omega
      go_wp2_with fail
      go_ret2
      exact ⟨0, hk, rfl, hbel.out, hsize, hcell.out, hall.out, fun h => absurd h (by omega)⟩
end Go.Proofs.YtdbmffagibnibaaGreatDoor
