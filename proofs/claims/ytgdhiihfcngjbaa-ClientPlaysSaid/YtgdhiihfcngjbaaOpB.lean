/- Calls: light; cleaned, as the document does it; are two the same? -/
import Derived.Test.YtgdhiihfcngjbaaOpA
set_option linter.unusedSimpArgs false
set_option linter.unusedVariables false
namespace Go.Proofs.Ytgdhiihfcngjbaa
open Go.RowKit

theorem Blk.id3 {w : World} {g : Nat} {t : TypeId} {a b c : Value} (h : Blk w g t #[a, b, c]) : w.cell? ⟨g, 0, none⟩ = some a ∧ w.cell? ⟨g, 1, none⟩ = some b ∧ w.cell? ⟨g, 2, none⟩ = some c := ⟨h.cell 0, h.cell 1, h.cell 2⟩
theorem bstr_len (s : List UInt8) : (bstr s).size = s.length := by simp [bstr, ByteArray.size]

set_option maxHeartbeats 1600000 in
theorem values_true {A A' : Option Addr} {c c' B : Nat} {l : List Val} {xs xs' : List Value} {css css' : Nat → Array Value} {w : World} (hr : Reads w B 5 A l.length xs) (hr' : Reads w B 5 A' l.length xs') (hB : B ≤ w.heap.size) (hxs : ∀ j, j < l.length → (xs.drop (j * 5)).take 5 = (css j).toList) (hxs' : ∀ j, j < l.length → (xs'.drop (j * 5)).take 5 = (css' j).toList)
    (hx : ∀ j v, l[j]? = some v → VReads w B v (css j)) (hx' : ∀ j v, l[j]? = some v → VReads w B v (css' j)) (hn : l.length ≤ 140737488351232) :
    Calls Try.prog 45 #[.slice A l.length c, .slice A' l.length c'] w (Says w (.bool true)) := by
  have l0 : ((l.length : Int) != (l.length : Int)) = false := by simp
  go_enter Try.func45, Try.ntmps45
  go_wp2_with fail
  clear l0
  go_loopw [5] (fun i wr => ∃ j : Nat, j ≤ l.length ∧ i = .int .i64 (j : Int) ∧ Below w.heap.size w wr) (fun i _ => l.length - (intOf i).toNat)
  case atStart => exact ⟨0, Nat.zero_le _, rfl, Below.refl _ _⟩
  case round =>
    rename_i hrel
    obtain ⟨j, hj, rfl, hb⟩ := hrel
    by_cases hlt : j < l.length
    · obtain ⟨ad, k1, i1, f1, s1, A1, n1, c1, rfl, hform, hgk, g0, g1, g2, g3, g4⟩ := kid hr hx hxs (hb.mono hB) hlt
      obtain ⟨ad', k2, i2, f2, s2, A2, n2, c2, rfl, hform', -, d0, d1, d2, d3, d4⟩ := kid hr' hx' hxs' (hb.mono hB) hlt
      have hcl := fun w4 (hb4 : Below w.heap.size w w4) => same_true (hx j l[j] hgk) (css' j) w4 (hx' j l[j] hgk) (hb4.mono hB) (Nat.le_trans hB hb4.size)
      rw [hform, hform'] at hcl
      replace hcl := Lib.hid hcl
      clear hform hform' hgk
      have hS : (wr.drew.cell? (ad.add (j * 5)) = some (.int .i64 k1) ∧ wr.drew.cell? ⟨(ad.add (j * 5)).block, (ad.add (j * 5)).off + 1, none⟩ = some (.int .i64 i1) ∧ wr.drew.cell? ⟨(ad.add (j * 5)).block, (ad.add (j * 5)).off + 2, none⟩ = some (.float .f64 f1) ∧ wr.drew.cell? ⟨(ad.add (j * 5)).block, (ad.add (j * 5)).off + 3, none⟩ = some (.string s1) ∧ wr.drew.cell? ⟨(ad.add (j * 5)).block, (ad.add (j * 5)).off + 4, none⟩ = some (.slice A1 n1 c1)) ∧ (wr.drew.cell? (ad'.add (j * 5)) = some (.int .i64 k2) ∧ wr.drew.cell? ⟨(ad'.add (j * 5)).block, (ad'.add (j * 5)).off + 1, none⟩ = some (.int .i64 i2) ∧ wr.drew.cell? ⟨(ad'.add (j * 5)).block, (ad'.add (j * 5)).off + 2, none⟩ = some (.float .f64 f2) ∧ wr.drew.cell? ⟨(ad'.add (j * 5)).block, (ad'.add (j * 5)).off + 3, none⟩ = some (.string s2) ∧ wr.drew.cell? ⟨(ad'.add (j * 5)).block, (ad'.add (j * 5)).off + 4, none⟩ = some (.slice A2 n2 c2)) ∧ Below w.heap.size w wr.drew := ⟨⟨g0, g1, g2, g3, g4⟩, ⟨d0, d1, d2, d3, d4⟩, ⟨hb.os, hb.tape, hb.output, hb.size, hb.block⟩⟩
      go_wp2_with fail
      clear g0 g1 g2 g3 g4 d0 d1 d2 d3 d4
      refine wp_region_lex (fun W => (W.cell? (ad.add (j * 5)) = some (.int .i64 k1) ∧ W.cell? ⟨(ad.add (j * 5)).block, (ad.add (j * 5)).off + 1, none⟩ = some (.int .i64 i1) ∧ W.cell? ⟨(ad.add (j * 5)).block, (ad.add (j * 5)).off + 2, none⟩ = some (.float .f64 f1) ∧ W.cell? ⟨(ad.add (j * 5)).block, (ad.add (j * 5)).off + 3, none⟩ = some (.string s1) ∧ W.cell? ⟨(ad.add (j * 5)).block, (ad.add (j * 5)).off + 4, none⟩ = some (.slice A1 n1 c1)) ∧ (W.cell? (ad'.add (j * 5)) = some (.int .i64 k2) ∧ W.cell? ⟨(ad'.add (j * 5)).block, (ad'.add (j * 5)).off + 1, none⟩ = some (.int .i64 i2) ∧ W.cell? ⟨(ad'.add (j * 5)).block, (ad'.add (j * 5)).off + 2, none⟩ = some (.float .f64 f2) ∧ W.cell? ⟨(ad'.add (j * 5)).block, (ad'.add (j * 5)).off + 3, none⟩ = some (.string s2) ∧ W.cell? ⟨(ad'.add (j * 5)).block, (ad'.add (j * 5)).off + 4, none⟩ = some (.slice A2 n2 c2)) ∧ Below w.heap.size w W) [3, 7] [8] [0, 1, 2, 3, 4, 5, 6, 7, 8, 9] (by kernel_rfl) rfl (by kernel_rfl) (by kernel_rfl) (fun _ _ d _ _ h => by cases d <;> exact h) ?_
      repeat (first | (refine lexG_take _ ?_ rfl rfl rfl rfl (fun _ => ?_) ?_; rotate_left; (focus (go_simp; with_reducible rfl)); try simp only [Act.put, List.setIfInBounds_toArray, List.set_cons_zero, List.set_cons_succ]) | (refine lexG_held _ ?_ rfl rfl rfl rfl (by assumption) (fun _ hSw => ?_) ?_; rotate_left; (focus ((try dsimp only at hSw); go_simp; with_reducible rfl)); try simp only [Act.put, List.setIfInBounds_toArray, List.set_cons_zero, List.set_cons_succ]) | (refine lexG_skip _ rfl rfl (by assumption) ?_; try simp only [Act.put, List.setIfInBounds_toArray, List.set_cons_zero, List.set_cons_succ]))
      refine lexG_now _ rfl rfl rfl (fun K hK => ?_)
      go_wp2_with fail
      refine (hcl.out wr.drew hS.2.2).mono ?_
      rintro e w4 ⟨rfl, hb4⟩
      dsimp only
      have hb4' := below_then hb4 hS.2.2
      obtain ⟨⟨g0, g1, g2, g3, g4⟩, ⟨d0, d1, d2, d3, d4⟩, -⟩ := hS
      refine hK _ _ _ (fun _ h => h) ⟨⟨cell_keep hb4 g0, cell_keep hb4 g1, cell_keep hb4 g2, cell_keep hb4 g3, cell_keep hb4 g4⟩, ⟨cell_keep hb4 d0, cell_keep hb4 d1, cell_keep hb4 d2, cell_keep hb4 d3, cell_keep hb4 d4⟩, hb4'⟩ ?_
      clear hK K g0 g1 g2 g3 g4 d0 d1 d2 d3 d4 hb4
      try simp only [Act.put, List.setIfInBounds_toArray, List.set_cons_zero, List.set_cons_succ]
      repeat (first | (refine lexG_take _ ?_ rfl rfl rfl rfl (fun _ => ?_) ?_; rotate_left; (focus (go_simp; with_reducible rfl)); try simp only [Act.put, List.setIfInBounds_toArray, List.set_cons_zero, List.set_cons_succ]) | (refine lexG_held _ ?_ rfl rfl rfl rfl (by assumption) (fun _ hSw => ?_) ?_; rotate_left; (focus ((try dsimp only at hSw); go_simp; with_reducible rfl)); try simp only [Act.put, List.setIfInBounds_toArray, List.set_cons_zero, List.set_cons_succ]) | (refine lexG_skip _ rfl rfl (by assumption) ?_; try simp only [Act.put, List.setIfInBounds_toArray, List.set_cons_zero, List.set_cons_succ]))
      refine lexG_nil ?_
      go_wp2_with fail
      go_roundw
      case rel => exact ⟨j + 1, by omega, by simp, hb4'⟩
      case measure => simp [intOf]; omega
    · have hj' : j = l.length := by omega
      subst hj'
      go_wp2_with fail
      go_ret
      exact ⟨rfl, hb⟩

theorem op_same {w : World} {B : Nat} {o : OpD} {cs cs' : Array Value} (h : OpReads w B o cs) (h' : OpReads w B o cs') (w1 : World) (hb1 : Below B w w1) (hB1 : B ≤ w1.heap.size) :
    Calls Try.prog 35 #[.agg cs, .agg cs'] w1 (Says w1 (.bool true)) := by
  obtain ⟨A, cc, xs, css, rfl, hr, hx, hxs, hl, hok⟩ := h
  obtain ⟨A', cc', xs', css', rfl, hr', hx', hxs', -, -⟩ := h'
  have hva := fun w2 (hb2 : Below w1.heap.size w1 w2) => values_true (c := cc) (c' := cc') (hr.below (hb1.trans (hb2.mono hB1))) (hr'.below (hb1.trans (hb2.mono hB1))) (Nat.le_trans hB1 hb2.size) hxs hxs' (fun j v hv => (hx j v hv).under (hb1.trans (hb2.mono hB1))) (fun j v hv => (hx' j v hv).under (hb1.trans (hb2.mono hB1))) (by omega)
  obtain ⟨c, s, n, g, m, l⟩ := o
  dsimp only at *
  generalize bstr g = gg at *
  generalize bstr m = mm at *
  have d1 : decide (gg = gg) = true := decide_eq_true rfl
  have d2 : decide (mm = mm) = true := decide_eq_true rfl
  have b1 := Blk.new w1 62 #[.int .u32 c, .int .u32 s, .int .u16 n, .string gg, .string mm, .slice A l.length cc]
  have b1' := b1.alloc (.cells #[.int .u32 c, .int .u32 s, .int .u16 n, .string gg, .string mm, .slice A' l.length cc'] 62)
  have b2 := Blk.new (w1.alloc (.cells #[.int .u32 c, .int .u32 s, .int .u16 n, .string gg, .string mm, .slice A l.length cc] 62)) 62 #[.int .u32 c, .int .u32 s, .int .u16 n, .string gg, .string mm, .slice A' l.length cc']
  have hsz : (w1.alloc (.cells #[.int .u32 c, .int .u32 s, .int .u16 n, .string gg, .string mm, .slice A l.length cc] 62)).heap.size = w1.heap.size + 1 := by simp
  rw [hsz] at b2
  have hbl := ((Below.refl w1.heap.size w1).alloc (Nat.le_refl _) (.cells #[.int .u32 c, .int .u32 s, .int .u16 n, .string gg, .string mm, .slice A l.length cc] 62)).alloc (by simp) (.cells #[.int .u32 c, .int .u32 s, .int .u16 n, .string gg, .string mm, .slice A' l.length cc'] 62)
  replace hva := Lib.hid hva
  clear hr hx hxs hr' hx' hxs' hl hok b1 hsz
  go_enter Try.func35, Try.ntmps35
  go_wp2_with fail
  refine (hva.out _ hbl).mono ?_
  rintro e w2 ⟨rfl, hb2⟩
  dsimp only
  have hb3 := below_then hb2 hbl
  go_wp2_with fail
  go_ret
  exact ⟨rfl, hb3⟩
end Go.Proofs.Ytgdhiihfcngjbaa
