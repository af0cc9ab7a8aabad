/- Vote: the chapter's example. -/
import Derived.Test.YtiajbcfelhlapaaVote5
import Derived.Laws.FloatArith
namespace Go.Proofs.Ytiajbcfelhlapaa
open Go.RowKit

theorem asfloat_flt (f : Nat) (w : World) : Calls Try.prog 19 #[.agg #[.int .i64 2, .int .i64 0, .float .f64 f, .string ⟨#[]⟩, .slice none 0 0]] w (Says w (.float .f64 f)) := by
  have hb := (Below.refl w.heap.size w).alloc (Nat.le_refl _) (.cells #[.int .i64 2, .int .i64 0, .float .f64 f, .string ⟨#[]⟩, .slice none 0 0] 30)
  go_enter Try.func19, Try.ntmps19
  go_wp2_with fail
  go_ret
  exact ⟨rfl, hb⟩
theorem cb_zero : cb 0 = 0 := by decide +kernel
theorem div00 : FloatKind.f64.format.div 0 0 = none := by decide +kernel
theorem run_quo_nan {P : Program} (t : TypeId) (w : World) : ∃ r, (binOp .quo t (.float .f64 0) (.float .f64 0)).run P w = .ok (.float .f64 r) w.drew ∧ nanB r = true := by
  refine ⟨_, by simp [binOp, Op.floatArith, div00, choose]; rfl, ?_⟩
  unfold nanB
  refine decide_eq_true ?_
  simp [Question.nanBits, Question.cut]
  generalize w.tape w.drawn _ = z
  have hy : z / 2 % 4503599627370495 < 4503599627370495 := Nat.mod_lt _ (by decide)
  generalize z / 2 % 4503599627370495 = y at hy ⊢
  rcases (by omega : z % 2 = 0 ∨ z % 2 = 1) with h | h <;> rw [h] <;> omega
theorem Blk.id3 {w : World} {g : Nat} {t : TypeId} {a b c : Value} (h : Blk w g t #[a, b, c]) : w.cell? ⟨g, 0, none⟩ = some a ∧ w.cell? ⟨g, 1, none⟩ = some b ∧ w.cell? ⟨g, 2, none⟩ = some c := ⟨h.cell 0, h.cell 1, h.cell 2⟩
theorem Blk.val5 {w : World} {g : Nat} {t : TypeId} {a b c d e : Value} (h : Blk w g t #[a, b, c, d, e]) : w.cell? ⟨g, 0, none⟩ = some a ∧ w.cell? ⟨g, 1, none⟩ = some b ∧ w.cell? ⟨g, 2, none⟩ = some c ∧ w.cell? ⟨g, 3, none⟩ = some d ∧ w.cell? ⟨g, 4, none⟩ = some e := ⟨h.cell 0, h.cell 1, h.cell 2, h.cell 3, h.cell 4⟩
def nanR : FR := ⟨0, 2, 0, nanBits⟩
theorem nanR_flat : FlatC nanR.k nanR.i nanR.f := .inr (.inr ⟨rfl, rfl, rfl⟩)
def zeroR : FR := ⟨0, 0, 0, 0⟩
theorem zeroR_flat : FlatC zeroR.k zeroR.i zeroR.f := .inl ⟨rfl, rfl, rfl⟩
theorem first_no : nextD 1 3 none ([] ++ [nanR]) = none := by decide +kernel
theorem second_yes : nextD 1 3 none ([] ++ [nanR] ++ [nanR]) = some nanR := by rfl
theorem nan_self : (FloatKind.f64.format.order nanBits nanBits == some .eq) = false := by decide +kernel
theorem nan_self' : (FloatKind.f64.format.order nanBits nanBits != some .eq) = true := by decide +kernel

set_option maxHeartbeats 6400000 in
theorem known_true (w : World) : Calls Try.prog 6 #[] w (SaysTrue w) := by
  have hsf := fun a k x m w => run_store_float (P := Try.prog) a k x m w
  have hns := nan_self
  have hns' := nan_self'
  have hf0 := fun w => float_ref 0 w
  rw [cb_zero] at hf0
  have hfc : FlatC nanR.k nanR.i nanR.f := nanR_flat
  have hfn : FlatC 2 0 nanBits := nanR_flat
  have hid := Blk.new w 25 #[.int .u32 1, .int .u32 1, .int .u16 0]
  have hb1 := (Below.refl w.heap.size w).alloc (Nat.le_refl _) (.cells #[.int .u32 1, .int .u32 1, .int .u16 0] 25)
  go_enter Try.func6, Try.ntmps6
  go_wp2_with fail
  refine (new_flat 1 1 0 3 1 _ (by decide) (by decide)).mono ?_
  rintro e w2 ⟨p, rfl, V2, hb2, hbp⟩
  dsimp only
  have hid2 := hid.below hb2 hid.lt
  have hb2' := below_then hb2 hb1
  go_wp2_with fail
  refine (hf0 _).mono ?_
  rintro e w3 ⟨rfl, hb3⟩
  dsimp only
  go_wp2_with fail
  refine (asfloat_flt 0 _).mono ?_
  rintro e w4 ⟨rfl, hb4⟩
  dsimp only
  go_wp2_with fail
  refine (hf0 _).mono ?_
  rintro e w5 ⟨rfl, hb5⟩
  dsimp only
  go_wp2_with fail
  refine (asfloat_flt 0 _).mono ?_
  rintro e w6 ⟨rfl, hb6⟩
  dsimp only
  obtain ⟨qz, hquo, hqn⟩ := run_quo_nan (P := Try.prog) 27 w6
  have hnan := fun w => float_ref qz w
  have hcq : cb qz = nanBits := by unfold cb; rw [if_pos hqn]; rfl
  rw [hcq] at hnan
  clear hqn hcq
  go_wp2_with fail
  refine (hnan _).mono ?_
  rintro e w7 ⟨rfl, hb7⟩
  dsimp only
  have hb27 := below_then (below_of_drew hb7) (below_then hb6 (below_then hb5 (below_then hb4 hb3)))
  have V7 := V2.below hb27
  have hid7 := hid2.below hb27 hid2.lt
  have hbw7 := below_then hb27 hb2'
  have hw27 := hb27.size
  clear hb27 hb2' hid2 V2 hb3 hb4 hb5 hb6 hb7 hnan hquo
  have hvb := Blk.new w7 30 #[.int .i64 2, .int .i64 0, .float .f64 nanBits, .string ⟨#[]⟩, .slice none 0 0]
  have V8 := V7.below ((Below.refl w7.heap.size w7).alloc (Nat.le_refl _) (.cells #[.int .i64 2, .int .i64 0, .float .f64 nanBits, .string ⟨#[]⟩, .slice none 0 0] 30))
  have hid8 := hid7.alloc (.cells #[.int .i64 2, .int .i64 0, .float .f64 nanBits, .string ⟨#[]⟩, .slice none 0 0] 30)
  have hbw8 := hbw7.alloc hbw7.size (.cells #[.int .i64 2, .int .i64 0, .float .f64 nanBits, .string ⟨#[]⟩, .slice none 0 0] 30)
  have hw8 := Nat.le_trans hb2.size hw27
  clear V7 hid7
  obtain ⟨i0, i1, i2⟩ := hid8.id3
  go_wp2_with fail
  refine (put_ok V8 0 nanR (by decide) (by decide) (by simp) nanR_flat (by simp) (by simp) (by decide) (by decide) (Nat.le_trans hw8 (by rw [World.size_alloc]; omega))).mono ?_
  rw [first_no]
  rintro e w9 ⟨rfl, ⟨Aw9, Al9, cw9, cl9, xs9, V9⟩, hu9⟩
  dsimp only
  have hu9s := hu9.size
  have hnp := hid8.ne_ V8.blk (by decide)
  have hnp' := hvb.ne_ V8.blk (by decide)
  have hid9 := hid8.upd hu9 (by simp [bOf]; exact hnp)
  have hv9 := hvb.upd hu9 (by simp [bOf]; exact hnp')
  have hbw9 : Below w.heap.size w w9 := (hbw8).trans (hu9.below (B := w.heap.size) hbw8.size (fun k hk => by rw [World.size_alloc] at hbp; simp [bOf]; omega))
  clear hid8 hvb hu9 V8 hbw8 i0 i1 i2
  obtain ⟨i0, i1, i2⟩ := hid9.id3
  obtain ⟨v0, v1, v2, v3, v4⟩ := hv9.val5
  have hs9 := Nat.le_trans hw8 (Nat.le_trans (by rw [World.size_alloc]; omega) hu9s)
  go_wp2_with fail
  refine (result_no V9).mono ?_
  rintro e w10 ⟨rfl, hb10⟩
  dsimp only [resD]
  have V10 := V9.below hb10
  have hid10 := hid9.below hb10 hid9.lt
  have hv10 := hv9.below hb10 hv9.lt
  have hbw10 := below_then hb10 hbw9
  have hs10 := Nat.le_trans hs9 hb10.size
  clear V9 hid9 hv9 hbw9 i0 i1 i2 v0 v1 v2 v3 v4 hs9 hb10
  have V11 := V10.below ((Below.refl w10.heap.size w10).alloc (Nat.le_refl _) (.cells #[.int .u32 0, .int .u32 0, .int .u16 0, .int .i64 0, .int .i64 0, .int .i64 0, .float .f64 0, .string ⟨#[]⟩, .slice none 0 0] 32))
  have hid11 := hid10.alloc (.cells #[.int .u32 0, .int .u32 0, .int .u16 0, .int .i64 0, .int .i64 0, .int .i64 0, .float .f64 0, .string ⟨#[]⟩, .slice none 0 0] 32)
  have hv11 := hv10.alloc (.cells #[.int .u32 0, .int .u32 0, .int .u16 0, .int .i64 0, .int .i64 0, .int .i64 0, .float .f64 0, .string ⟨#[]⟩, .slice none 0 0] 32)
  have hbw11 := hbw10.alloc hbw10.size (.cells #[.int .u32 0, .int .u32 0, .int .u16 0, .int .i64 0, .int .i64 0, .int .i64 0, .float .f64 0, .string ⟨#[]⟩, .slice none 0 0] 32)
  clear V10 hid10 hv10 hbw10
  obtain ⟨i0, i1, i2⟩ := hid11.id3
  obtain ⟨v0, v1, v2, v3, v4⟩ := hv11.val5
  go_wp2_with fail
  refine (put_ok V11 2 nanR (by decide) (by decide) (by simp) nanR_flat (by simp) (by simp) (by decide) (by decide) (Nat.le_trans hs10 (by rw [World.size_alloc]; omega))).mono ?_
  rw [second_yes]
  rintro e w12 ⟨rfl, ⟨Aw12, Al12, cw12, cl12, xs12, V12⟩, hu12⟩
  dsimp only
  have hid12 := hid11.upd hu12 (fun h => by rcases h with h | h | h; (exact hid11.ne_ V11.blk (by decide) h); (exact V11.hw.ne_blk hid11 (by decide) h.symm); (exact V11.hl.ne_blk hid11 (by decide) h.symm))
  have hbw12 : Below w.heap.size w w12 := hbw11.trans (hu12.below (B := w.heap.size) hbw11.size (fun k hk => by rw [World.size_alloc] at hbp; intro h; rcases h with h | h | h; omega; (have := V11.hAw k h.symm; rw [World.size_alloc] at this; omega); (have := V11.hAl k h.symm; rw [World.size_alloc] at this; omega)))
  clear V11 hv11 hbw11 i0 i1 i2 v0 v1 v2 v3 v4
  go_wp2_with fail
  refine (result_yes V12).mono ?_
  rintro e w13 ⟨rfl, hb13⟩
  dsimp only [resD, nanR]
  have V13 := V12.below hb13
  have hid13 := hid12.below hb13 hid12.lt
  have hbw13 := below_then hb13 hbw12
  clear V12 hid12 hbw12 hb13
  have V14 := V13.below ((Below.refl w13.heap.size w13).alloc (Nat.le_refl _) (.cells #[.int .u32 1, .int .u32 1, .int .u16 0, .int .i64 0, .int .i64 2, .int .i64 0, .float .f64 nanBits, .string ⟨#[]⟩, .slice none 0 0] 32))
  have hid14 := hid13.alloc (.cells #[.int .u32 1, .int .u32 1, .int .u16 0, .int .i64 0, .int .i64 2, .int .i64 0, .float .f64 nanBits, .string ⟨#[]⟩, .slice none 0 0] 32)
  have hbw14 := hbw13.alloc hbw13.size (.cells #[.int .u32 1, .int .u32 1, .int .u16 0, .int .i64 0, .int .i64 2, .int .i64 0, .float .f64 nanBits, .string ⟨#[]⟩, .slice none 0 0] 32)
  have hN := Blk.new w13 32 #[.int .u32 1, .int .u32 1, .int .u16 0, .int .i64 0, .int .i64 2, .int .i64 0, .float .f64 nanBits, .string ⟨#[]⟩, .slice none 0 0]
  obtain ⟨i0, i1, i2⟩ := hid14.id3
  have hN6 : (w13.alloc (.cells #[.int .u32 1, .int .u32 1, .int .u16 0, .int .i64 0, .int .i64 2, .int .i64 0, .float .f64 nanBits, .string ⟨#[]⟩, .slice none 0 0] 32)).cell? ⟨w13.heap.size, 6, none⟩ = some (.float .f64 nanBits) := hN.cell 6
  clear V13 hid13 hbw13
  go_wp2_with fail
  refine (count_flat V14).mono ?_
  rintro e w15 ⟨rfl, rfl⟩
  dsimp only
  go_wp2_with fail
  refine (put_again V14 2 zeroR (by decide) (by decide) (by simp) (by simp)).mono ?_
  rintro e w16 ⟨rfl, hb16⟩
  dsimp only
  have V16 := V14.below hb16
  have hbw16 := below_then hb16 hbw14
  clear V14 hbw14 hid14 i0 i1 i2 hN hN6 hb16
  go_wp2_with fail
  refine (put_other V16 1 zeroR (by simp)).mono ?_
  rintro e w17 ⟨rfl, hb17⟩
  dsimp only
  have hbw17 := below_then hb17 hbw16
  clear V16 hbw16 hb17
  go_wp2_with fail
  go_ret
  exact ⟨rfl, hbw17⟩
end Go.Proofs.Ytiajbcfelhlapaa


