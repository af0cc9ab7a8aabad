/- Owned rows and bytes, more. No program is named here. -/
import Derived.Test.YtdbmffagibnibaaGreatDoorNum
import Derived.Test.YtdbmffagibnibaaGreatDoorKit
namespace Go.Proofs.YtdbmffagibnibaaGreatDoor
open Go.RowKit

/-- An owned row's block, and a cell of it set. -/
theorem Own.open_ {w : World} {t : TypeId} {A : Option Addr} {n c : Nat} {xs : List Value} (h : Own w t 1 A n c xs) (hn : 0 < n) : ∃ g cur, A = some ⟨g, 0, none⟩ ∧ Blk w g t cur ∧ (∀ i, i < n → cur[i]? = xs[i]?) ∧ (∀ i u, i < n → Own (w.setCell ⟨g, i, none⟩ u) t 1 A n c (xs.set i u)) := by
  have hl := h.1
  rcases h.2 with ⟨_, h0, _⟩ | ⟨g, cur, rfl, hg, hnc, hcm, hcs, htake⟩
  · omega
  · refine ⟨g, cur, rfl, hg, fun i hi => ?_, fun i u hi => ⟨by simpa using hl, .inr ⟨g, _, rfl, hg.set_ i u, hnc, hcm, by simpa using hcs, ?_⟩⟩⟩
    · rw [← htake, List.getElem?_take, if_pos (by omega)]; simp
    · rw [← htake]
      simp only [Array.toList_setIfInBounds, List.take_set, Nat.mul_one]

theorem bys_set (bs : List UInt8) (i : Nat) (b : UInt8) : (bys bs).set i (byv b) = bys (bs.set i b) := by simp [bys, List.map_set]

theorem ofInt_u8 (a : Nat) (ha : a < 256) : (BitVec.ofInt 8 (a : Int)).toNat = a := by
  rw [BitVec.ofInt_natCast, BitVec.toNat_ofNat]; exact Nat.mod_eq_of_lt (by omega)
theorem u8_xor_nat (a b : Nat) (ha : a < 256) (hb : b < 256) : bits .xor .u8 (a : Int) (b : Int) = ((a ^^^ b : Nat) : Int) := by
  have hx : a ^^^ b < 2 ^ 8 := Nat.xor_lt_two_pow (by omega) (by omega)
  show IntKind.u8.wrap ((BitVec.ofInt 8 (a : Int) ^^^ BitVec.ofInt 8 (b : Int)).toNat : Int) = _
  rw [BitVec.toNat_xor, ofInt_u8 a ha, ofInt_u8 b hb]
  simp [IntKind.wrap, IntKind.bits, IntKind.signed]
  omega
theorem xor_left0 {b a : Nat} (h : b ^^^ a = b) : a = 0 := by
  have := congrArg (fun x => b ^^^ x) h
  simpa [← Nat.xor_assoc] using this
theorem bit_byte (b : UInt8) (k : Int) (h0 : 0 ≤ k) (h1 : k < 8) : ∃ b' : UInt8, b' ≠ b ∧ bits .xor .u8 (b.toNat : Int) (2 ^ k.toNat % 256) = (b'.toNat : Int) := by
  obtain ⟨n, hn⟩ : ∃ n, k.toNat = n := ⟨_, rfl⟩
  have hn8 : n < 8 := by omega
  rw [hn]
  have hp : 2 ^ n < 256 := by
    have := Nat.pow_lt_pow_right (a := 2) (by omega) hn8
    omega
  have hp0 : 0 < 2 ^ n := Nat.pow_pos (by omega)
  have e : ((2 : Int) ^ n % 256) = ((2 ^ n : Nat) : Int) := by
    rw [Int.natCast_pow]
    exact Int.emod_eq_of_lt (by have : (0 : Int) ≤ ((2 ^ n : Nat) : Int) := by omega
                                rwa [Int.natCast_pow] at this) (by have : ((2 ^ n : Nat) : Int) < 256 := by omega
                                                                   rwa [Int.natCast_pow] at this)
  have hbl := b.toNat_lt
  rw [e, u8_xor_nat _ _ hbl hp]
  have hx : b.toNat ^^^ 2 ^ n < 2 ^ 8 := Nat.xor_lt_two_pow (by omega) (by omega)
  refine ⟨UInt8.ofNat (b.toNat ^^^ 2 ^ n), fun h => ?_, ?_⟩
  · have h2 := congrArg UInt8.toNat h
    rw [UInt8.toNat_ofNat', Nat.mod_eq_of_lt hx] at h2
    have := xor_left0 (by rw [h2])
    omega
  · rw [UInt8.toNat_ofNat', Nat.mod_eq_of_lt hx]

theorem wf_u16 {x : Int} (h : (Lit.int .u16 x).wf = true) : 0 ≤ x ∧ x ≤ 65535 := by
  simp [Lit.wf, IntKind.min, IntKind.max, IntKind.signed, IntKind.bits] at h; omega

theorem byte_xor (b : UInt8) (x : Int) (h0 : 0 ≤ x) (h1 : x ≤ 255) : ∃ b' : UInt8, bits .xor .u8 (b.toNat : Int) x = (b'.toNat : Int) := by
  obtain ⟨n, rfl⟩ : ∃ n : Nat, x = (n : Int) := ⟨x.toNat, by omega⟩
  have hbl := b.toNat_lt
  rw [u8_xor_nat _ _ hbl (by omega)]
  have hx : b.toNat ^^^ n < 2 ^ 8 := Nat.xor_lt_two_pow (by omega) (by omega)
  exact ⟨UInt8.ofNat (b.toNat ^^^ n), by rw [UInt8.toNat_ofNat', Nat.mod_eq_of_lt hx]⟩

theorem add_row (g n : Nat) : (⟨g, 0, none⟩ : Addr).add n = ⟨g, n, none⟩ := by unfold Addr.add; split <;> simp_all

theorem Own.ne_own {w : World} {t t' : TypeId} {s s' n n' c c' : Nat} {A A' : Option Addr} {xs xs' : List Value} (h : Own w t s A n c xs) (h' : Own w t' s' A' n' c' xs') (hne : t ≠ t') : ∀ g, bOf A = some g → bOf A' ≠ some g := by
  intro g hg
  rcases h.2 with ⟨rfl, _⟩ | ⟨g', cur, rfl, hb, _⟩
  · cases hg
  · have : g' = g := by simpa [bOf] using hg
    subst this
    exact h'.ne_blk hb hne.symm
theorem Own.none_cap {w : World} {t : TypeId} {A : Option Addr} {n c : Nat} {xs : List Value} (h : Own w t 1 A n c xs) (hA : A = none) : c = 0 := by
  rcases h.2 with ⟨_, _, h⟩ | ⟨g, cur, rfl, _⟩
  · exact h
  · cases hA

end Go.Proofs.YtdbmffagibnibaaGreatDoor
