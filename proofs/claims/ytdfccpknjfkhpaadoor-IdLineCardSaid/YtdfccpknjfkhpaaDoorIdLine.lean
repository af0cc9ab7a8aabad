/- IdLine's walk. -/
import Derived.Test.YtdfccpknjfkhpaaDoorIdKnown
import Derived.Deep.DeepCutAuto
namespace Go.Proofs.YtdfccpknjfkhpaaDoor
open Go.RowKit

theorem idLt_iff (c s n c' s' n' : Int) : idLt c s n c' s' n' = true ↔ c < c' ∨ (c = c' ∧ (s < s' ∨ (s = s' ∧ n < n'))) := by
  unfold idLt
  by_cases h : c = c'
  · rw [if_pos h]
    by_cases h' : s = s'
    · rw [if_pos h', decide_eq_true_eq]; omega
    · rw [if_neg h', decide_eq_true_eq]; omega
  · rw [if_neg h, decide_eq_true_eq]; omega
theorem idLt_trans {c s n c' s' n' c'' s'' n'' : Int} (h1 : idLt c s n c' s' n' = true) (h2 : idLt c' s' n' c'' s'' n'' = true) : idLt c s n c'' s'' n'' = true := by
  rw [idLt_iff] at *
  omega
theorem idLt_conn {c s n c' s' n' : Int} (h1 : idLt c s n c' s' n' = false) (h2 : idLt c' s' n' c s n = false) : c = c' ∧ s = s' ∧ n = n' := by
  have h1' : ¬ (c < c' ∨ (c = c' ∧ (s < s' ∨ (s = s' ∧ n < n')))) := fun h => by rw [(idLt_iff c s n c' s' n').2 h] at h1; cases h1
  have h2' : ¬ (c' < c ∨ (c' = c ∧ (s' < s ∨ (s' = s ∧ n' < n)))) := fun h => by rw [(idLt_iff c' s' n' c s n).2 h] at h2; cases h2
  omega

theorem tri_below {w w1 w2 : World} {c s n c' s' n' c'' s'' n'' : Int} (h : (w1.cell? ⟨w.heap.size, 0, none⟩ = some (.int .u32 c) ∧ w1.cell? ⟨w.heap.size, 1, none⟩ = some (.int .u32 s) ∧ w1.cell? ⟨w.heap.size, 2, none⟩ = some (.int .u16 n)) ∧ (w1.cell? ⟨(w.heap.size + 1), 0, none⟩ = some (.int .u32 c') ∧ w1.cell? ⟨(w.heap.size + 1), 1, none⟩ = some (.int .u32 s') ∧ w1.cell? ⟨(w.heap.size + 1), 2, none⟩ = some (.int .u16 n')) ∧ (w1.cell? ⟨(w.heap.size + 1 + 1), 0, none⟩ = some (.int .u32 c'') ∧ w1.cell? ⟨(w.heap.size + 1 + 1), 1, none⟩ = some (.int .u32 s'') ∧ w1.cell? ⟨(w.heap.size + 1 + 1), 2, none⟩ = some (.int .u16 n'')) ∧ Below w.heap.size w w1 ∧ w.heap.size + 1 + 1 < w1.heap.size) (hb : Below w1.heap.size w1 w2) :
    (w2.cell? ⟨w.heap.size, 0, none⟩ = some (.int .u32 c) ∧ w2.cell? ⟨w.heap.size, 1, none⟩ = some (.int .u32 s) ∧ w2.cell? ⟨w.heap.size, 2, none⟩ = some (.int .u16 n)) ∧ (w2.cell? ⟨(w.heap.size + 1), 0, none⟩ = some (.int .u32 c') ∧ w2.cell? ⟨(w.heap.size + 1), 1, none⟩ = some (.int .u32 s') ∧ w2.cell? ⟨(w.heap.size + 1), 2, none⟩ = some (.int .u16 n')) ∧ (w2.cell? ⟨(w.heap.size + 1 + 1), 0, none⟩ = some (.int .u32 c'') ∧ w2.cell? ⟨(w.heap.size + 1 + 1), 1, none⟩ = some (.int .u32 s'') ∧ w2.cell? ⟨(w.heap.size + 1 + 1), 2, none⟩ = some (.int .u16 n'')) ∧ Below w.heap.size w w2 ∧ w.heap.size + 1 + 1 < w2.heap.size :=
  ⟨idc_below h.1 hb (by have := h.2.2.2.2; omega), idc_below h.2.1 hb (by have := h.2.2.2.2; omega), idc_below h.2.2.1 hb h.2.2.2.2, h.2.2.2.1.trans (hb.mono h.2.2.2.1.size), Nat.lt_of_lt_of_le h.2.2.2.2 hb.size⟩

set_option maxHeartbeats 3200000 in
set_option maxRecDepth 100000 in
theorem idLine_walk (c s n c' s' n' c'' s'' n'' near : Int) (w : World) (hs0 : 0 ≤ s) (hs1 : s ≤ 4294967295) (h0 : 0 ≤ near) (h1 : near ≤ 255) :
    Calls Tryd.prog 5 #[.agg #[.int .u32 c, .int .u32 s, .int .u16 n], .agg #[.int .u32 c', .int .u32 s', .int .u16 n'], .agg #[.int .u32 c'', .int .u32 s'', .int .u16 n''], .int .u8 near] w (fun e w' => e = .returned (.bool true) ∧ Below w.heap.size w w') := by
  replace hs1 := Lib.hid hs1
  go_enter Tryd.func5, Tryd.ntmps5
  go_wp2_with fail
  have e1 : (w.alloc (.cells #[.int .u32 c, .int .u32 s, .int .u16 n] 25)).heap.size = w.heap.size + 1 := by simp
  have e2 : ((w.alloc (.cells #[.int .u32 c, .int .u32 s, .int .u16 n] 25)).alloc (.cells #[.int .u32 c', .int .u32 s', .int .u16 n'] 25)).heap.size = w.heap.size + 1 + 1 := by simp
  have hb1 := ((((Below.refl w.heap.size w).alloc (Nat.le_refl _) (.cells #[.int .u32 c, .int .u32 s, .int .u16 n] 25)).alloc (by simp) (.cells #[.int .u32 c', .int .u32 s', .int .u16 n'] 25)).alloc (by rw [e2]; omega) (.cells #[.int .u32 c'', .int .u32 s'', .int .u16 n''] 25))
  have hx1 := ((Blk.new w 25 #[.int .u32 c, .int .u32 s, .int .u16 n]).alloc (.cells #[.int .u32 c', .int .u32 s', .int .u16 n'] 25)).alloc (.cells #[.int .u32 c'', .int .u32 s'', .int .u16 n''] 25)
  have hy1 := (Blk.new (w.alloc (.cells #[.int .u32 c, .int .u32 s, .int .u16 n] 25)) 25 #[.int .u32 c', .int .u32 s', .int .u16 n']).alloc (.cells #[.int .u32 c'', .int .u32 s'', .int .u16 n''] 25)
  have hz1 := Blk.new ((w.alloc (.cells #[.int .u32 c, .int .u32 s, .int .u16 n] 25)).alloc (.cells #[.int .u32 c', .int .u32 s', .int .u16 n'] 25)) 25 #[.int .u32 c'', .int .u32 s'', .int .u16 n'']
  rw [e1] at hy1
  rw [e2] at hz1
  generalize ((w.alloc (.cells #[.int .u32 c, .int .u32 s, .int .u16 n] 25)).alloc (.cells #[.int .u32 c', .int .u32 s', .int .u16 n'] 25)).alloc (.cells #[.int .u32 c'', .int .u32 s'', .int .u16 n''] 25) = w1 at *
  clear e1 e2
  have hS1 : (w1.cell? ⟨w.heap.size, 0, none⟩ = some (.int .u32 c) ∧ w1.cell? ⟨w.heap.size, 1, none⟩ = some (.int .u32 s) ∧ w1.cell? ⟨w.heap.size, 2, none⟩ = some (.int .u16 n)) ∧ (w1.cell? ⟨(w.heap.size + 1), 0, none⟩ = some (.int .u32 c') ∧ w1.cell? ⟨(w.heap.size + 1), 1, none⟩ = some (.int .u32 s') ∧ w1.cell? ⟨(w.heap.size + 1), 2, none⟩ = some (.int .u16 n')) ∧ (w1.cell? ⟨(w.heap.size + 1 + 1), 0, none⟩ = some (.int .u32 c'') ∧ w1.cell? ⟨(w.heap.size + 1 + 1), 1, none⟩ = some (.int .u32 s'') ∧ w1.cell? ⟨(w.heap.size + 1 + 1), 2, none⟩ = some (.int .u16 n'')) ∧ Below w.heap.size w w1 ∧ w.heap.size + 1 + 1 < w1.heap.size := ⟨⟨hx1.cell 0, hx1.cell 1, hx1.cell 2⟩, ⟨hy1.cell 0, hy1.cell 1, hy1.cell 2⟩, ⟨hz1.cell 0, hz1.cell 1, hz1.cell 2⟩, hb1, hz1.lt⟩
  clear hx1 hy1 hz1 hb1
  refine (known_true w1).mono ?_
  rintro e w2 ⟨rfl, hb2⟩
  dsimp only
  have hS2 := tri_below hS1 hb2
  clear hS1 hb2
  go_upto_region 3 with fail
  go_cut [28] (fun v28 wx => v28 = .bool false ∧ (wx.cell? ⟨w.heap.size, 0, none⟩ = some (.int .u32 c) ∧ wx.cell? ⟨w.heap.size, 1, none⟩ = some (.int .u32 s) ∧ wx.cell? ⟨w.heap.size, 2, none⟩ = some (.int .u16 n)) ∧ (wx.cell? ⟨(w.heap.size + 1), 0, none⟩ = some (.int .u32 c') ∧ wx.cell? ⟨(w.heap.size + 1), 1, none⟩ = some (.int .u32 s') ∧ wx.cell? ⟨(w.heap.size + 1), 2, none⟩ = some (.int .u16 n')) ∧ (wx.cell? ⟨(w.heap.size + 1 + 1), 0, none⟩ = some (.int .u32 c'') ∧ wx.cell? ⟨(w.heap.size + 1 + 1), 1, none⟩ = some (.int .u32 s'') ∧ wx.cell? ⟨(w.heap.size + 1 + 1), 2, none⟩ = some (.int .u16 n'')) ∧ Below w.heap.size w wx ∧ w.heap.size + 1 + 1 < wx.heap.size)
  case first =>
    rcases h12 : idLt c s n c' s' n' with _ | _
    · skip
      obtain ⟨⟨x0, x1, x2⟩, ⟨y0, y1, y2⟩, ⟨z0, z1, z2⟩, -, -⟩ := id hS2
      go_wp2_with fail
      refine (less_walk c s n c' s' n' _).mono ?_
      rw [h12]
      rintro e w3 ⟨rfl, hb3⟩
      dsimp only
      have hS3 := tri_below hS2 hb3
      clear hS2 hb3 x0 x1 x2 y0 y1 y2 z0 z1 z2
      obtain ⟨⟨x0, x1, x2⟩, ⟨y0, y1, y2⟩, ⟨z0, z1, z2⟩, -, -⟩ := id hS3
      go_wp2_with fail
      go_meet
      exact ⟨rfl, hS3⟩
    · rcases h23 : idLt c' s' n' c'' s'' n'' with _ | _
      · skip
        obtain ⟨⟨x0, x1, x2⟩, ⟨y0, y1, y2⟩, ⟨z0, z1, z2⟩, -, -⟩ := id hS2
        go_wp2_with fail
        refine (less_walk c s n c' s' n' _).mono ?_
        rw [h12]
        rintro e w3 ⟨rfl, hb3⟩
        dsimp only
        have hS3 := tri_below hS2 hb3
        clear hS2 hb3 x0 x1 x2 y0 y1 y2 z0 z1 z2
        obtain ⟨⟨x0, x1, x2⟩, ⟨y0, y1, y2⟩, ⟨z0, z1, z2⟩, -, -⟩ := id hS3
        go_wp2_with fail
        refine (less_walk c' s' n' c'' s'' n'' _).mono ?_
        rw [h23]
        rintro e w4 ⟨rfl, hb4⟩
        dsimp only
        have hS4 := tri_below hS3 hb4
        clear hS3 hb4 x0 x1 x2 y0 y1 y2 z0 z1 z2
        obtain ⟨⟨x0, x1, x2⟩, ⟨y0, y1, y2⟩, ⟨z0, z1, z2⟩, -, -⟩ := id hS4
        go_wp2_with fail
        go_meet
        exact ⟨rfl, hS4⟩
      · have h13 := idLt_trans h12 h23
        obtain ⟨⟨x0, x1, x2⟩, ⟨y0, y1, y2⟩, ⟨z0, z1, z2⟩, -, -⟩ := id hS2
        go_wp2_with fail
        refine (less_walk c s n c' s' n' _).mono ?_
        rw [h12]
        rintro e w3 ⟨rfl, hb3⟩
        dsimp only
        have hS3 := tri_below hS2 hb3
        clear hS2 hb3 x0 x1 x2 y0 y1 y2 z0 z1 z2
        obtain ⟨⟨x0, x1, x2⟩, ⟨y0, y1, y2⟩, ⟨z0, z1, z2⟩, -, -⟩ := id hS3
        go_wp2_with fail
        refine (less_walk c' s' n' c'' s'' n'' _).mono ?_
        rw [h23]
        rintro e w4 ⟨rfl, hb4⟩
        dsimp only
        have hS4 := tri_below hS3 hb4
        clear hS3 hb4 x0 x1 x2 y0 y1 y2 z0 z1 z2
        obtain ⟨⟨x0, x1, x2⟩, ⟨y0, y1, y2⟩, ⟨z0, z1, z2⟩, -, -⟩ := id hS4
        go_wp2_with fail
        refine (less_walk c s n c'' s'' n'' _).mono ?_
        rw [h13]
        rintro e w5 ⟨rfl, hb5⟩
        dsimp only
        have hS5 := tri_below hS4 hb5
        clear hS4 hb5 x0 x1 x2 y0 y1 y2 z0 z1 z2
        obtain ⟨⟨x0, x1, x2⟩, ⟨y0, y1, y2⟩, ⟨z0, z1, z2⟩, -, -⟩ := id hS5
        go_wp2_with fail
        go_meet
        exact ⟨rfl, hS5⟩
  case rest =>
  obtain ⟨rfl, hS3⟩ := hcut
  clear hS2
  go_upto_region 5 with fail
  go_cut [43] (fun v43 wx => v43 = .bool false ∧ (wx.cell? ⟨w.heap.size, 0, none⟩ = some (.int .u32 c) ∧ wx.cell? ⟨w.heap.size, 1, none⟩ = some (.int .u32 s) ∧ wx.cell? ⟨w.heap.size, 2, none⟩ = some (.int .u16 n)) ∧ (wx.cell? ⟨(w.heap.size + 1), 0, none⟩ = some (.int .u32 c') ∧ wx.cell? ⟨(w.heap.size + 1), 1, none⟩ = some (.int .u32 s') ∧ wx.cell? ⟨(w.heap.size + 1), 2, none⟩ = some (.int .u16 n')) ∧ (wx.cell? ⟨(w.heap.size + 1 + 1), 0, none⟩ = some (.int .u32 c'') ∧ wx.cell? ⟨(w.heap.size + 1 + 1), 1, none⟩ = some (.int .u32 s'') ∧ wx.cell? ⟨(w.heap.size + 1 + 1), 2, none⟩ = some (.int .u16 n'')) ∧ Below w.heap.size w wx ∧ w.heap.size + 1 + 1 < wx.heap.size)
  case first =>
    rcases h12 : idLt c s n c' s' n' with _ | _
    · rcases h21 : idLt c' s' n' c s n with _ | _
      · obtain ⟨rfl, rfl, rfl⟩ := idLt_conn h12 h21
        obtain ⟨⟨x0, x1, x2⟩, ⟨y0, y1, y2⟩, ⟨z0, z1, z2⟩, -, -⟩ := id hS3
        go_wp2_with fail
        refine (less_walk c s n c s n _).mono ?_
        rw [h12]
        rintro e w4 ⟨rfl, hb4⟩
        dsimp only
        have hS4 := tri_below hS3 hb4
        clear hS3 hb4 x0 x1 x2 y0 y1 y2 z0 z1 z2
        obtain ⟨⟨x0, x1, x2⟩, ⟨y0, y1, y2⟩, ⟨z0, z1, z2⟩, -, -⟩ := id hS4
        go_wp2_with fail
        refine (less_walk c s n c s n _).mono ?_
        rw [h12]
        rintro e w5 ⟨rfl, hb5⟩
        dsimp only
        have hS5 := tri_below hS4 hb5
        clear hS4 hb5 x0 x1 x2 y0 y1 y2 z0 z1 z2
        obtain ⟨⟨x0, x1, x2⟩, ⟨y0, y1, y2⟩, ⟨z0, z1, z2⟩, -, -⟩ := id hS5
        go_wp2_with fail
        go_meet
        exact ⟨rfl, hS5⟩
      · skip
        obtain ⟨⟨x0, x1, x2⟩, ⟨y0, y1, y2⟩, ⟨z0, z1, z2⟩, -, -⟩ := id hS3
        go_wp2_with fail
        refine (less_walk c s n c' s' n' _).mono ?_
        rw [h12]
        rintro e w4 ⟨rfl, hb4⟩
        dsimp only
        have hS4 := tri_below hS3 hb4
        clear hS3 hb4 x0 x1 x2 y0 y1 y2 z0 z1 z2
        obtain ⟨⟨x0, x1, x2⟩, ⟨y0, y1, y2⟩, ⟨z0, z1, z2⟩, -, -⟩ := id hS4
        go_wp2_with fail
        refine (less_walk c' s' n' c s n _).mono ?_
        rw [h21]
        rintro e w5 ⟨rfl, hb5⟩
        dsimp only
        have hS5 := tri_below hS4 hb5
        clear hS4 hb5 x0 x1 x2 y0 y1 y2 z0 z1 z2
        obtain ⟨⟨x0, x1, x2⟩, ⟨y0, y1, y2⟩, ⟨z0, z1, z2⟩, -, -⟩ := id hS5
        go_wp2_with fail
        go_meet
        exact ⟨rfl, hS5⟩
    · skip
      obtain ⟨⟨x0, x1, x2⟩, ⟨y0, y1, y2⟩, ⟨z0, z1, z2⟩, -, -⟩ := id hS3
      go_wp2_with fail
      refine (less_walk c s n c' s' n' _).mono ?_
      rw [h12]
      rintro e w4 ⟨rfl, hb4⟩
      dsimp only
      have hS4 := tri_below hS3 hb4
      clear hS3 hb4 x0 x1 x2 y0 y1 y2 z0 z1 z2
      obtain ⟨⟨x0, x1, x2⟩, ⟨y0, y1, y2⟩, ⟨z0, z1, z2⟩, -, -⟩ := id hS4
      go_wp2_with fail
      go_meet
      exact ⟨rfl, hS4⟩
  case rest =>
  obtain ⟨rfl, hS4⟩ := hcut
  clear hS3
  obtain ⟨⟨x0, x1, x2⟩, -, -, hb4, -⟩ := hS4
  go_wp2_with fail
  refine (root_walk c s n _).mono ?_
  rintro e w5 ⟨rfl, hb5'⟩
  dsimp only
  have hb5 := hb4.trans (hb5'.mono hb4.size)
  clear hb4 hb5' x0 x1 x2
  go_wp2_with fail
  obtain ⟨m, hm, hm1, hm8⟩ : ∃ m : Int, near % 8 + 1 = m ∧ 1 ≤ m ∧ m ≤ 8 := ⟨_, rfl, by omega, by omega⟩
  rw [hm]
  have hb6 := hb5.alloc hb5.size (.cells #[.int .u32 c, .int .u32 s, .int .u16 0] 25)
  have hr6 := Blk.new w5 25 #[.int .u32 c, .int .u32 s, .int .u16 0]
  generalize w5.alloc (.cells #[.int .u32 c, .int .u32 s, .int .u16 0] 25) = w6 at *
  generalize w5.heap.size = qr at *
  clear hb5
  refine (nested_ok c s m hm1 hm8 _).mono ?_
  rintro e w7 ⟨rfl, hb7'⟩
  dsimp only
  have hb7 := hb6.trans (hb7'.mono hb6.size)
  have hr7 := hr6.below hb7' hr6.lt
  clear hb6 hb7' hr6
  have hr8 := hr7.alloc (.cells #[.int .u32 c, .int .u32 s, .int .u16 m] 25)
  have hx8 := Blk.new w7 25 #[.int .u32 c, .int .u32 s, .int .u16 m]
  have hb8 := hb7.alloc hb7.size (.cells #[.int .u32 c, .int .u32 s, .int .u16 m] 25)
  have q0 := hr8.cell 0
  have q1 := hr8.cell 1
  clear hr7 hb7
  obtain ⟨s2, hs2⟩ : ∃ s2, IntKind.u32.wrap (s + 1) = s2 := ⟨_, rfl⟩
  go_upto_region 10 with fail
  have e8 : (w7.alloc (.cells #[.int .u32 c, .int .u32 s, .int .u16 m] 25)).heap.size = w7.heap.size + 1 := by simp
  have hb9 := hb8.alloc hb8.size (.cells #[.int .u32 c, .int .u32 s2, .int .u16 0] 25)
  have hr9 := hr8.alloc (.cells #[.int .u32 c, .int .u32 s2, .int .u16 0] 25)
  have hx9 := hx8.alloc (.cells #[.int .u32 c, .int .u32 s2, .int .u16 0] 25)
  have hn9 := Blk.new (w7.alloc (.cells #[.int .u32 c, .int .u32 s, .int .u16 m] 25)) 25 #[.int .u32 c, .int .u32 s2, .int .u16 0]
  rw [e8] at hn9
  generalize (w7.alloc (.cells #[.int .u32 c, .int .u32 s, .int .u16 m] 25)).alloc (.cells #[.int .u32 c, .int .u32 s2, .int .u16 0] 25) = w9 at *
  generalize w7.heap.size = qx at *
  clear hb8 hr8 hx8 q0 q1 e8 hm
  have q0 := hr9.cell 0
  have q1 := hr9.cell 1
  have q2 := hr9.cell 2
  have p0 := hx9.cell 0
  have p1 := hx9.cell 1
  have p2 := hx9.cell 2
  have hlt : idLt c s 0 c s m = true := by rw [idLt_iff]; omega
  go_wp2_with fail
  refine (less_walk c s 0 c s m _).mono ?_
  rw [hlt]
  rintro e w10 ⟨rfl, hb10'⟩
  dsimp only
  have hb10 := hb9.trans (hb10'.mono hb9.size)
  have hr10 := hr9.below hb10' hr9.lt
  have hx10 := hx9.below hb10' hx9.lt
  have hn10 := hn9.below hb10' hn9.lt
  clear hb9 hb10' hr9 hx9 hn9 q0 q1 q2 p0 p1 p2
  have q1 := hr10.cell 1
  have p0 := hx10.cell 0
  have p1 := hx10.cell 1
  have p2 := hx10.cell 2
  have n0 := hn10.cell 0
  have n1 := hn10.cell 1
  have n2 := hn10.cell 2
  have hs1' := hs1.out
  by_cases hmax : s = 4294967295
  · subst hmax
    go_wp2_with fail
    go_ret
    exact ⟨rfl, hb10⟩
  · have hmb : (s == 4294967295) = false := beq_eq_false_iff_ne.2 hmax
    have hs2' : s2 = s + 1 := by rw [← hs2, IntKind.wrap_u32]; omega
    have hlt2 : idLt c s m c s2 0 = true := by rw [idLt_iff]; omega
    clear hs2 hs2'
    go_wp2_with fail
    refine (less_walk c s m c s2 0 _).mono ?_
    rw [hlt2]
    rintro e w11 ⟨rfl, hb11'⟩
    dsimp only
    have hb11 := hb10.trans (hb11'.mono hb10.size)
    go_wp2_with fail
    go_ret
    exact ⟨rfl, hb11⟩
end Go.Proofs.YtdfccpknjfkhpaaDoor
