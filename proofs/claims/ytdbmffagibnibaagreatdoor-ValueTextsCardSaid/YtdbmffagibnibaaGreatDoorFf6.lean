/- Floats' texts: FormatFloat and value.float at 0.5 and 2.0. -/
import Derived.Test.YtdbmffagibnibaaGreatDoorFf5
import Derived.Laws.IdiomStrings
set_option linter.unusedSimpArgs false
set_option linter.unusedVariables false
namespace Go.Proofs.YtdbmffagibnibaaGreatDoor
open Go.RowKit Go.Sort Go.Lib
set_option maxRecDepth 100000

/-- What the texts of 0.5 and 2.0 read of the library's tables. -/
structure TabW (w : World) : Prop where
  half : PowAt w 365 12800000000000000000 0
  two : PowAt w 364 10240000000000000000 0
  tens : Lib.TabIs Tryz.prog w "internal/strconv.uint64pow10" .u64 Lib.pow10Tab
  more : 13 < w.heap.size
theorem g_tab : Tryz.prog.globalNamed "internal/strconv.uint64pow10" = some 2 := by kernel_rfl
theorem var_next {P : Program} {n : String} {g : Nat} {cs : Array Value} {w w' : World} (hg : P.globalNamed n = some g) (h : w.var? P n = some cs) (hb : Below w.heap.size w w') : w'.var? P n = some cs := by
  unfold World.var? at h ⊢
  rw [hg] at h ⊢
  simp only [Option.bind_some] at h ⊢
  have hlt : g < w.heap.size := by
    rcases Nat.lt_or_ge g w.heap.size with h' | h'
    · exact h'
    · rw [Array.getElem?_eq_none h'] at h; cases h
  rw [hb.block g hlt]
  exact h
theorem TabW.next {w w' : World} (h : TabW w) (hb : Below w.heap.size w w') : TabW w' :=
  ⟨h.half.below hb h.more, h.two.below hb h.more, var_next g_tab h.tens hb, Nat.lt_of_lt_of_le h.more hb.size⟩
theorem conv_bytes' {n c B : Nat} {A : Option Addr} {bs : List UInt8} {w : World} (h : Reads w B 1 A n (bys bs)) : (convert 36 9 (.slice A n c)).run Tryz.prog w = .ok (.string (bstr bs)) w :=
  run_bytes_str (P := Tryz.prog) 36 5 Tryz.underlying36 Tryz.underlying5 9 Tryz.underlying9 c h
theorem make24 (w : World) : ∃ cur : Array Value, cur.size = 24 ∧ (Instr.makeSlice 36 (.int .i64 0) (.int .i64 24)).run Tryz.prog w = .ok (.slice (some ⟨w.heap.size, 0, none⟩) 0 24) (w.alloc (.cells cur 5)) := by
  obtain ⟨i0, hi, hz0, hz1, hz2⟩ := info_parts info_u8
  have h := run_makeSlice (P := Tryz.prog) (w := w) 36 5 i0 (.int .u8 0) Tryz.underlying36 hi hz0 .i64 .i64 0 24 (by omega) (by omega) (by rw [hz1]; decide) (by rw [hz2]; decide) (by omega)
  exact ⟨_, by rw [size_madeCells, hz1]; rfl, h⟩

set_option maxHeartbeats 3200000 in
theorem format_half (w : World) (hL : TabW w) : Calls Tryz.prog 67 #[.float .f64 4602678819172646912, .int .u8 103, .int .i64 (-1), .int .i64 64] w (fun e w' => e = .returned (.string (bstr [48, 46, 53])) ∧ Below w.heap.size w w') := by
  have hmax : max (3 : Int) 24 = 24 := by decide
  obtain ⟨cur, hcs, hmk⟩ := make24 w
  have hb1 := (Below.refl w.heap.size w).alloc (Nat.le_refl _) (.cells cur 5)
  have hown : Own (w.alloc (.cells cur 5)) 5 1 (some ⟨w.heap.size, 0, none⟩) 0 24 (bys []) := ⟨by simp [bys], .inr ⟨w.heap.size, cur, rfl, Blk.new w 5 cur, by omega, by unfold maxLen; omega, by omega, by simp [bys]⟩⟩
  have hL1 := hL.next hb1
  have hF : FAt (w.alloc (.cells cur 5)) (some w.heap.size) (w.alloc (.cells cur 5)) (some ⟨w.heap.size, 0, none⟩) 0 24 [] := ⟨hown, rfl, World.grownBy.refl _ _, fun q hq => .inl hq⟩
  have hft := ftoa_half w.heap.size (w.alloc (.cells cur 5)) hF hL1.more hL1.half (fun W hW => (hL1.next hW).tens)
  replace hft := Lib.hid hft
  go_enter Tryz.func67, Tryz.ntmps67
  go_wp2_with fail
  refine hft.out.mono ?_
  clear hft
  rintro e w2 ⟨A, n, c, rfl, hF2⟩
  dsimp only
  have hcv := conv_bytes' (c := c) hF2.own.reads_
  have hb2 : Below w.heap.size w w2 := by
    have hg := hF2.grown
    exact Below.trans hb1 ⟨hg.os, hg.tape, hg.output, hg.size, fun k hk => hg.block k (by simp; omega) (by simp; omega)⟩
  go_wp2_with fail
  go_ret
  exact ⟨rfl, hb2⟩
theorem pub_half (w : World) (hL : TabW w) : Calls Tryz.prog 48 #[.float .f64 4602678819172646912, .int .u8 103, .int .i64 (-1), .int .i64 64] w (fun e w' => e = .returned (.string (bstr [48, 46, 53])) ∧ Below w.heap.size w w') := by
  have hft := format_half w hL
  replace hft := Lib.hid hft
  go_enter Tryz.func48, Tryz.ntmps48
  go_wp2_with fail
  refine hft.out.mono ?_
  rintro e w2 ⟨rfl, hb⟩
  dsimp only
  go_wp2_with fail
  go_ret
  exact ⟨rfl, hb⟩
set_option maxHeartbeats 3200000 in
theorem format_two (w : World) (hL : TabW w) : Calls Tryz.prog 67 #[.float .f64 4611686018427387904, .int .u8 103, .int .i64 (-1), .int .i64 64] w (fun e w' => e = .returned (.string (bstr [50])) ∧ Below w.heap.size w w') := by
  have hmax : max (3 : Int) 24 = 24 := by decide
  obtain ⟨cur, hcs, hmk⟩ := make24 w
  have hb1 := (Below.refl w.heap.size w).alloc (Nat.le_refl _) (.cells cur 5)
  have hown : Own (w.alloc (.cells cur 5)) 5 1 (some ⟨w.heap.size, 0, none⟩) 0 24 (bys []) := ⟨by simp [bys], .inr ⟨w.heap.size, cur, rfl, Blk.new w 5 cur, by omega, by unfold maxLen; omega, by omega, by simp [bys]⟩⟩
  have hL1 := hL.next hb1
  have hF : FAt (w.alloc (.cells cur 5)) (some w.heap.size) (w.alloc (.cells cur 5)) (some ⟨w.heap.size, 0, none⟩) 0 24 [] := ⟨hown, rfl, World.grownBy.refl _ _, fun q hq => .inl hq⟩
  have hft := ftoa_two w.heap.size (w.alloc (.cells cur 5)) hF hL1.more hL1.two (fun W hW => (hL1.next hW).tens)
  replace hft := Lib.hid hft
  go_enter Tryz.func67, Tryz.ntmps67
  go_wp2_with fail
  refine hft.out.mono ?_
  clear hft
  rintro e w2 ⟨A, n, c, rfl, hF2⟩
  dsimp only
  have hcv := conv_bytes' (c := c) hF2.own.reads_
  have hb2 : Below w.heap.size w w2 := by
    have hg := hF2.grown
    exact Below.trans hb1 ⟨hg.os, hg.tape, hg.output, hg.size, fun k hk => hg.block k (by simp; omega) (by simp; omega)⟩
  go_wp2_with fail
  go_ret
  exact ⟨rfl, hb2⟩
theorem pub_two (w : World) (hL : TabW w) : Calls Tryz.prog 48 #[.float .f64 4611686018427387904, .int .u8 103, .int .i64 (-1), .int .i64 64] w (fun e w' => e = .returned (.string (bstr [50])) ∧ Below w.heap.size w w') := by
  have hft := format_two w hL
  replace hft := Lib.hid hft
  go_enter Tryz.func48, Tryz.ntmps48
  go_wp2_with fail
  refine hft.out.mono ?_
  rintro e w2 ⟨rfl, hb⟩
  dsimp only
  go_wp2_with fail
  go_ret
  exact ⟨rfl, hb⟩
end Go.Proofs.YtdbmffagibnibaaGreatDoor
