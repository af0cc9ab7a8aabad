/- References: their text; ref.hexed. -/
import Derived.Test.YtdnoafjaheofcaaDoorRf7
set_option linter.unusedSimpArgs false
set_option linter.unusedVariables false
namespace Go.Proofs.YtdnoafjaheofcaaDoor
open Go.RowKit Go.Sort Go.Lib
set_option maxRecDepth 100000

def hexDs : List UInt8 := [48, 49, 50, 51, 52, 53, 54, 55, 56, 57, 97, 98, 99, 100, 101, 102]
def hexD (n : Nat) : UInt8 := hexDs.getD n 0
def hexC (c : UInt8) : List UInt8 := [hexD (c.toNat / 16), hexD (c.toNat % 16)]
def hexL (g : List UInt8) : List UInt8 := (g.map hexC).flatten
theorem hexL_len (g : List UInt8) : (hexL g).length = 2 * g.length := by
  unfold hexL
  induction g with
  | nil => rfl
  | cons c g ih => simp only [List.map_cons, List.flatten_cons, List.length_append, ih, List.length_cons]; simp [hexC]; omega
theorem hexL_snoc (g : List UInt8) (c : UInt8) : hexL (g ++ [c]) = hexL g ++ hexC c := by simp [hexL]
def textR (g : List UInt8) (v : Nat) (ns : List Int) : List UInt8 := if rightB g ns = true then [99, 104, 111, 105, 114, 58] ++ hexL g ++ [47] ++ Lib.decDigits v ++ [47] ++ Lib.join (ns.map Lib.itoa) [44] else []

theorem isBuilder_grown {T e : TypeId} {B b : Nat} {bs : List Value} {w w' : World} (h : Lib.BuilderAt T e B b (.pointer (some ⟨b, 0, none⟩)) bs w) : Lib.IsBuilder T e B b bs w := .inr h

theorem hex_at : ∀ n : Nat, ∀ h : n < 16, ((⟨#[48, 49, 50, 51, 52, 53, 54, 55, 56, 57, 97, 98, 99, 100, 101, 102]⟩ : ByteArray)[n]'h) = hexD n := by decide +kernel
theorem bstr_get (g : List UInt8) (k : Nat) (h : k < (bstr g).size) (h' : k < g.length) : (bstr g)[k]'h = g[k] := by simp [bstr, ByteArray.getElem_eq_getElem_data]
set_option maxHeartbeats 1600000 in
theorem hexed_walk (g : List UInt8) (hg : g.length ≤ 1000) (w : World) : Calls Tryd.prog 27 #[.string (bstr g)] w (fun e w' => e = .returned (.string (bstr (hexL g))) ∧ Below w.heap.size w w') := by
  have hB := Lib.fresh_isBuilder 87 5 w
  have hb0 := (Below.refl w.heap.size w).alloc (Nat.le_refl _) (.cells #[.pointer none, .slice none 0 0] 87)
  have hgs : (bstr g).size = g.length := bstr_size g
  replace hgs := Lib.hid hgs
  obtain ⟨b, eb⟩ : ∃ b, w.heap.size = b := ⟨_, rfl⟩
  have hbw : b ≤ (w.alloc (.cells #[.pointer none, .slice none 0 0] 87)).heap.size := by rw [← eb]; exact hb0.size
  rw [eb] at hB hb0
  rw [eb]
  replace eb := Lib.hid eb
  go_enter Tryd.func27, Tryd.ntmps27
  go_upto_region 2 with (fail)
  try rw [eb.out]
  generalize w.alloc (.cells #[.pointer none, .slice none 0 0] 87) = w1 at *
  go_wp2_with fail
  go_loopw [4, 7] (fun x4 i wr => ∃ k : Nat, k ≤ g.length ∧ i = .int .i64 (k : Int) ∧ Lib.IsBuilder 87 5 b b (bys (hexL (g.take k))) wr ∧ Below b w wr ∧ b ≤ wr.heap.size) (fun _ i _ => g.length - (RowKit.intOf i).toNat)
  case atStart => exact ⟨0, Nat.zero_le _, rfl, hB, hb0, hbw⟩
  case round =>
    rename_i hrel
    obtain ⟨k, hk, rfl, hBr, hbr, hbs⟩ := hrel
    by_cases hlt : k < g.length
    · have hsz : k < (bstr g).size := by rw [hgs.out]; exact hlt
      have hcl := ((bstr g)[k]'hsz).toNat_lt
      obtain ⟨d1, e1⟩ : ∃ d, hexD (((bstr g)[k]'hsz).toNat / 16) = d := ⟨_, rfl⟩
      obtain ⟨d2, e2⟩ : ∃ d, hexD (((bstr g)[k]'hsz).toNat % 16) = d := ⟨_, rfl⟩
      have htk : Hid (bys (hexL (g.take (k + 1))) = bys (hexL (g.take k)) ++ [byv d1] ++ [byv d2]) := Lib.hid (by
        rw [List.take_succ_eq_append_getElem hlt, hexL_snoc, bys_append, ← bstr_get g k hsz hlt, hexC, e1, e2]; simp [bys])
      have hl : (bys (hexL (g.take k))).length ≤ 2000 := by rw [bys_len, hexL_len, List.length_take]; omega
      have q1 := (hex_at _ (show ((bstr g)[k]'hsz).toNat / 16 < 16 by omega)).trans e1
      have q2 := (hex_at _ (show ((bstr g)[k]'hsz).toNat % 16 < 16 by omega)).trans e2
      have hw1 := Tryd.Builder_WriteByte' b b _ (d1.toNat : Int) wr hBr (by omega) hbs
      replace hw1 := Lib.hid hw1
      replace e1 := Lib.hid e1
      replace e2 := Lib.hid e2
      go_wp2_with fail
      refine hw1.out.mono ?_
      clear hw1
      rintro e w2 ⟨rfl, hA2, hb2⟩
      dsimp only
      have hs2 := hb2.size
      have hw2 := Tryd.Builder_WriteByte' b b _ (d2.toNat : Int) w2 (.inr hA2) (by simp; omega) (by omega)
      replace hw2 := Lib.hid hw2
      clear hBr
      go_wp2_with fail
      refine hw2.out.mono ?_
      clear hw2
      rintro e w3 ⟨rfl, hA3, hb3⟩
      dsimp only
      have hs3 := hb3.size
      have hB3 : Lib.IsBuilder 87 5 b b (bys (hexL (g.take (k + 1)))) w3 := by rw [htk.out]; exact .inr hA3
      clear hA2 hA3
      go_wp2_with fail
      go_roundw
      case rel => exact ⟨k + 1, by omega, by go_num, hB3, (hbr.trans hb2).trans hb3, by omega⟩
      case measure => simp [RowKit.intOf]; omega
    · obtain rfl : k = g.length := by omega
      rw [List.take_length] at hBr
      have hst := Tryd.Builder_String_any b b (hexL g) wr hBr hbs
      replace hst := Lib.hid hst
      clear hBr
      go_wp2_with fail
      refine hst.out.mono ?_
      rintro e w2 ⟨rfl, hb2⟩
      dsimp only
      go_wp2_with fail
      go_ret
      exact ⟨rfl, hbr.trans hb2⟩
end Go.Proofs.YtdnoafjaheofcaaDoor
