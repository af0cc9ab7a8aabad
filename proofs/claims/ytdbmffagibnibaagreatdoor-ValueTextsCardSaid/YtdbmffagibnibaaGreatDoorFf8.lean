/- Texts of single values: value.Text at 1, 0.5, "a", 2.0. -/
import Derived.Test.YtdbmffagibnibaaGreatDoorFf7
set_option linter.unusedSimpArgs false
set_option linter.unusedVariables false
namespace Go.Proofs.YtdbmffagibnibaaGreatDoor
open Go.RowKit Go.Sort Go.Lib
set_option maxRecDepth 100000

theorem quote_a (T : Lib.PrintTabs) : strOfNums (Lib.quoteZ T (bstr [97])) = bstr [34, 97, 34] := by
  rfl
theorem tabSlice_next {g : Nat} {k : IntKind} {t : List Nat} {w w' : World} (h : Lib.TabSlice g k t w) (hb : Below w.heap.size w w') : Lib.TabSlice g k t w' := by
  obtain ⟨R, o, c, h1, h2⟩ := h
  exact ⟨R, o, c, (hb.cell (p := ⟨g, 0, none⟩) (World.block_lt_of_cell? w _ h1)).trans h1, fun j hj => (hb.cell (p := ⟨R, o + j, none⟩) (World.block_lt_of_cell? w _ (h2 j hj))).trans (h2 j hj)⟩
/-- The tables of strconv.Quote. -/
structure QuoteW (w : World) : Prop where
  print : ∃ T, Lib.PrintTabsAt 8 9 10 11 T w
  runes : Lib.Utf8Tabs 6 7 w
theorem QuoteW.next {w w' : World} (h : QuoteW w) (hb : Below w.heap.size w w') : QuoteW w' := by
  obtain ⟨⟨T, h1, h2, h3, h4, h5⟩, h6⟩ := h
  have hc : ∀ (g j : Nat) (v : Value), w.cell? ⟨g, j, none⟩ = some v → w'.cell? ⟨g, j, none⟩ = some v := fun g j v h => (hb.cell (p := ⟨g, j, none⟩) (World.block_lt_of_cell? w _ h)).trans h
  exact ⟨⟨T, tabSlice_next h1 hb, tabSlice_next h2 hb, tabSlice_next h3 hb, tabSlice_next h4 hb, h5⟩, fun c h => hc _ _ _ (h6.1 c h), fun i h => ⟨hc _ _ _ (h6.2 i h).1, hc _ _ _ (h6.2 i h).2⟩⟩
theorem quote_walk (w : World) (h : QuoteW w) : Calls Tryz.prog 46 #[.string (bstr [97])] w (fun e w' => e = .returned (.string (bstr [34, 97, 34])) ∧ Below w.heap.size w w') := by
  obtain ⟨⟨T, hT⟩, hU⟩ := h
  have := Tryz.strconv_Quote T (bstr [97]) w (by decide) hT hU
  rw [quote_a] at this
  exact this
theorem text_half (w : World) (hL : TabW w) : Calls Tryz.prog 22 #[.agg #[.int .i64 2, .int .i64 0, .float .f64 4602678819172646912, .string ⟨#[]⟩, .slice none 0 0]] w (fun e w' => e = .returned (.string (bstr [48, 46, 53])) ∧ Below w.heap.size w w') := by
  have hb1 := (Below.refl w.heap.size w).alloc (Nat.le_refl _) (.cells #[.int .i64 2, .int .i64 0, .float .f64 4602678819172646912, .string ⟨#[]⟩, .slice none 0 0] 25)
  have hf := float_half _ (hL.next hb1)
  replace hf := Lib.hid hf
  go_enter Tryz.func22, Tryz.ntmps22
  go_wp2_with fail
  refine hf.out.mono ?_
  rintro e w2 ⟨rfl, hb⟩
  dsimp only
  go_wp2_with fail
  go_ret
  exact ⟨rfl, below_then hb hb1⟩
theorem text_two (w : World) (hL : TabW w) : Calls Tryz.prog 22 #[.agg #[.int .i64 2, .int .i64 0, .float .f64 4611686018427387904, .string ⟨#[]⟩, .slice none 0 0]] w (fun e w' => e = .returned (.string (bstr [50, 46, 48])) ∧ Below w.heap.size w w') := by
  have hb1 := (Below.refl w.heap.size w).alloc (Nat.le_refl _) (.cells #[.int .i64 2, .int .i64 0, .float .f64 4611686018427387904, .string ⟨#[]⟩, .slice none 0 0] 25)
  have hf := float_two _ (hL.next hb1)
  replace hf := Lib.hid hf
  go_enter Tryz.func22, Tryz.ntmps22
  go_wp2_with fail
  refine hf.out.mono ?_
  rintro e w2 ⟨rfl, hb⟩
  dsimp only
  go_wp2_with fail
  go_ret
  exact ⟨rfl, below_then hb hb1⟩
theorem text_a (w : World) (hL : QuoteW w) : Calls Tryz.prog 22 #[.agg #[.int .i64 3, .int .i64 0, .float .f64 0, .string ⟨#[97]⟩, .slice none 0 0]] w (fun e w' => e = .returned (.string (bstr [34, 97, 34])) ∧ Below w.heap.size w w') := by
  have hb1 := (Below.refl w.heap.size w).alloc (Nat.le_refl _) (.cells #[.int .i64 3, .int .i64 0, .float .f64 0, .string ⟨#[97]⟩, .slice none 0 0] 25)
  have hf := quote_walk _ (hL.next hb1)
  replace hf := Lib.hid hf
  go_enter Tryz.func22, Tryz.ntmps22
  go_wp2_with fail
  refine hf.out.mono ?_
  rintro e w2 ⟨rfl, hb⟩
  dsimp only
  go_wp2_with fail
  go_ret
  exact ⟨rfl, below_then hb hb1⟩
theorem one_walk (w : World) : Calls Tryz.prog 44 #[.int .i64 1, .int .i64 10] w (fun e w' => e = .returned (.string (bstr [49])) ∧ Below w.heap.size w w') :=
  (Tryz.strconv_FormatInt_10_small 1 (by omega) w).mono fun e w' h => ⟨h.1.trans (by rw [show (Lib.decDigits 1) = [49] from by decide +kernel]; rfl), by rw [h.2]; exact Below.refl _ _⟩
theorem text_one (w : World)  : Calls Tryz.prog 22 #[.agg #[.int .i64 1, .int .i64 1, .float .f64 0, .string ⟨#[]⟩, .slice none 0 0]] w (fun e w' => e = .returned (.string (bstr [49])) ∧ Below w.heap.size w w') := by
  have hb1 := (Below.refl w.heap.size w).alloc (Nat.le_refl _) (.cells #[.int .i64 1, .int .i64 1, .float .f64 0, .string ⟨#[]⟩, .slice none 0 0] 25)
  have hf := one_walk (w.alloc (.cells #[.int .i64 1, .int .i64 1, .float .f64 0, .string ⟨#[]⟩, .slice none 0 0] 25))
  replace hf := Lib.hid hf
  go_enter Tryz.func22, Tryz.ntmps22
  go_wp2_with fail
  refine hf.out.mono ?_
  rintro e w2 ⟨rfl, hb⟩
  dsimp only
  go_wp2_with fail
  go_ret
  exact ⟨rfl, below_then hb hb1⟩
end Go.Proofs.YtdbmffagibnibaaGreatDoor
