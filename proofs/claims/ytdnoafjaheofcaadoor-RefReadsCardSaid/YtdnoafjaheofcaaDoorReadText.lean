/- ReadText: wire's and the document's. -/
import Derived.Test.YtdnoafjaheofcaaDoorTexts
set_option linter.unusedSimpArgs false
set_option linter.unusedVariables false
namespace Go.Proofs.YtdnoafjaheofcaaDoor
set_option maxRecDepth 100000
open Go.RowKit

/-- A text ahead of bytes: the text, how long it is there, the error. -/
def readT (b : List UInt8) (m : Int) : List UInt8 × Nat × Nat :=
  if 2 ≤ b.length ∧ (readU (b.take 2) : Int) ≤ m ∧ readU (b.take 2) + 2 ≤ b.length then ((b.drop 2).take (readU (b.take 2)), 2 + readU (b.take 2), 0) else ([], 0, 20)

def TextRes (w : World) (t : List UInt8 × Nat × Nat) (e : Ending) (w' : World) : Prop := e = .returned (.tuple #[.string (bstr t.1), .int .i64 (t.2.1 : Nat), .int .i64 (t.2.2 : Nat)]) ∧ Below w.heap.size w w'

set_option maxHeartbeats 800000 in
theorem read_text {A : Option Addr} {c : Nat} {b : List UInt8} {m : Int} {t : List UInt8 × Nat × Nat} {w : World} (hR : Reads w w.heap.size 1 A b.length (bys b)) (hc : b.length ≤ c) (hl : b.length ≤ 1000000000) (ht : readT b m = t) :
    Calls Tryd.prog 51 #[.slice A b.length c, .int .i64 m] w (TextRes w t) := by
  unfold readT at ht
  replace ht := Lib.hid ht
  by_cases h2 : b.length < 2
  · go_enter Tryd.func51, Tryd.ntmps51
    go_wp2_with fail
    refine (wire_read_out (k := 2) (by omega)).mono ?_
    rintro e w1 ⟨rfl, rfl⟩
    dsimp only
    go_wp2_with fail
    go_ret3
    have ht := ht.out
    rw [if_neg (by omega)] at ht
    subst ht
    exact ⟨rfl, Below.refl _ _⟩
  obtain ⟨n, hn⟩ : ∃ n, readU (b.take 2) = n := ⟨_, rfl⟩
  have hnl : n < 65536 := by
    rw [← hn]
    have := readU_lt (b.take 2)
    rw [List.length_take, Nat.min_eq_left (by omega)] at this
    exact this
  obtain ⟨p, hp⟩ : ∃ p, (b.drop 2).take n = p := ⟨_, rfl⟩
  have ht' := ht.out
  rw [hn, hp] at ht'
  replace ht' := Lib.hid ht'
  clear ht
  obtain ⟨ad, rfl, had, hcell⟩ := hR.2 (by omega)
  have hR2 := hR.cut (k := 2) (cap := c) (by omega) hc
  rw [Nat.mul_one, bys_drop] at hR2
  go_enter Tryd.func51, Tryd.ntmps51
  go_wp2_with fail
  refine (wire_read (k := 2) hR (by omega) (by omega) hc (by omega)).mono ?_
  rintro e w1 ⟨rfl, hb1⟩
  dsimp only
  rw [hn]
  replace hn := Lib.hid hn
  by_cases hm : m < (n : Int)
  · go_wp2_with fail
    go_ret3
    have ht := ht'.out
    rw [if_neg (by omega)] at ht
    subst ht
    exact ⟨rfl, hb1⟩
  by_cases hln : (b.length : Int) - 2 < (n : Int)
  · go_wp2_with fail
    go_ret3
    have ht := ht'.out
    rw [if_neg (by omega)] at ht
    subst ht
    exact ⟨rfl, hb1⟩
  have hpl : p.length = n := by rw [← hp]; simp; omega
  have hp2 := hR2.first (k := n) (by omega)
  rw [Nat.mul_one, bys_take, hp] at hp2
  replace hp := Lib.hid hp
  by_cases hc2 : c = 2
  · have hn0 : n = 0 := by omega
    subst hn0
    have hp0 : p = [] := List.eq_nil_of_length_eq_zero hpl
    subst hp0
    clear hpl
    subst hc2
    have hk := conv_bytes (c := 0) (n := 0) (bs := []) (A := some ad) (w := w1) (B := 0) ⟨rfl, by simp⟩
    have hbl : b.length = 2 := by omega
    rw [hbl] at ht' ⊢
    clear hbl
    go_wp2_with fail
    go_ret3
    have ht := ht'.out
    rw [if_pos ⟨by omega, by omega, by omega⟩] at ht
    subst ht
    exact ⟨rfl, hb1⟩
  · rw [if_neg hc2] at hp2
    have hp3 : Reads w w.heap.size 1 (some ⟨ad.block, ad.off + 2, none⟩) n (bys p) := hp2
    have hk := conv_bytes (c := c - 2) (hp3.below hb1)
    replace hpl := Lib.hid hpl
    go_wp2_with fail
    go_ret3
    have ht := ht'.out
    rw [if_pos ⟨by omega, by omega, by omega⟩] at ht
    subst ht
    refine ⟨?_, hb1⟩
    have e2 : ((2 + n : Nat) : Int) = 2 + (n : Int) := by omega
    show Ending.returned (.tuple #[.string (bstr p), .int .i64 (2 + (n : Int)), .int .i64 0]) = _
    rw [← e2]
    rfl

set_option maxHeartbeats 800000 in
theorem ref_read_text {A : Option Addr} {c : Nat} {b : List UInt8} {m : Int} {t : List UInt8 × Nat × Nat} {w : World} (hR : Reads w w.heap.size 1 A b.length (bys b)) (hc : b.length ≤ c) (hl : b.length ≤ 1000000000) (ht : readT b m = t) :
    Calls Tryd.prog 39 #[.slice A b.length c, .int .i64 m] w (TextRes w t) := by
  unfold readT at ht
  replace ht := Lib.hid ht
  by_cases h2 : b.length < 2
  · go_enter Tryd.func39, Tryd.ntmps39
    go_wp2_with fail
    refine (ref_read_out (k := 2) (by omega)).mono ?_
    rintro e w1 ⟨rfl, rfl⟩
    dsimp only
    go_wp2_with fail
    go_ret3
    have ht := ht.out
    rw [if_neg (by omega)] at ht
    subst ht
    exact ⟨rfl, Below.refl _ _⟩
  obtain ⟨n, hn⟩ : ∃ n, readU (b.take 2) = n := ⟨_, rfl⟩
  have hnl : n < 65536 := by
    rw [← hn]
    have := readU_lt (b.take 2)
    rw [List.length_take, Nat.min_eq_left (by omega)] at this
    exact this
  obtain ⟨p, hp⟩ : ∃ p, (b.drop 2).take n = p := ⟨_, rfl⟩
  have ht' := ht.out
  rw [hn, hp] at ht'
  replace ht' := Lib.hid ht'
  clear ht
  obtain ⟨ad, rfl, had, hcell⟩ := hR.2 (by omega)
  have hR2 := hR.cut (k := 2) (cap := c) (by omega) hc
  rw [Nat.mul_one, bys_drop] at hR2
  go_enter Tryd.func39, Tryd.ntmps39
  go_wp2_with fail
  refine (ref_read (k := 2) hR (by omega) (by omega) (by omega)).mono ?_
  rintro e w1 ⟨rfl, hb1⟩
  dsimp only
  rw [hn]
  replace hn := Lib.hid hn
  by_cases hm : m < (n : Int)
  · go_wp2_with fail
    go_ret3
    have ht := ht'.out
    rw [if_neg (by omega)] at ht
    subst ht
    exact ⟨rfl, hb1⟩
  by_cases hln : (b.length : Int) - 2 < (n : Int)
  · go_wp2_with fail
    go_ret3
    have ht := ht'.out
    rw [if_neg (by omega)] at ht
    subst ht
    exact ⟨rfl, hb1⟩
  have hpl : p.length = n := by rw [← hp]; simp; omega
  have hp2 := hR2.first (k := n) (by omega)
  rw [Nat.mul_one, bys_take, hp] at hp2
  replace hp := Lib.hid hp
  by_cases hc2 : c = 2
  · have hn0 : n = 0 := by omega
    subst hn0
    have hp0 : p = [] := List.eq_nil_of_length_eq_zero hpl
    subst hp0
    clear hpl
    subst hc2
    have hk := conv_bytes (c := 0) (n := 0) (bs := []) (A := some ad) (w := w1) (B := 0) ⟨rfl, by simp⟩
    have hbl : b.length = 2 := by omega
    rw [hbl] at ht' ⊢
    clear hbl
    go_wp2_with fail
    go_ret3
    have ht := ht'.out
    rw [if_pos ⟨by omega, by omega, by omega⟩] at ht
    subst ht
    exact ⟨rfl, hb1⟩
  · rw [if_neg hc2] at hp2
    have hp3 : Reads w w.heap.size 1 (some ⟨ad.block, ad.off + 2, none⟩) n (bys p) := hp2
    have hk := conv_bytes (c := c - 2) (hp3.below hb1)
    replace hpl := Lib.hid hpl
    go_wp2_with fail
    go_ret3
    have ht := ht'.out
    rw [if_pos ⟨by omega, by omega, by omega⟩] at ht
    subst ht
    refine ⟨?_, hb1⟩
    have e2 : ((2 + n : Nat) : Int) = 2 + (n : Int) := by omega
    show Ending.returned (.tuple #[.string (bstr p), .int .i64 (2 + (n : Int)), .int .i64 0]) = _
    rw [← e2]
    rfl
end Go.Proofs.YtdnoafjaheofcaaDoor
