/- VoteAlike: which replies are alike; the walk. -/
import Derived.Test.YtiajbcfelhlapaaAlikeV
import Derived.Test.YtiajbcfelhlapaaVote6
import Derived.Test.YtiajbcfelhlapaaPair
import Derived.Deep.CutRange
namespace Go.Proofs.Ytiajbcfelhlapaa
open Go.RowKit

theorem Blk.cells9 {w : World} {g : Nat} {t : TypeId} {a b c d e f h i j : Value} (x : Blk w g t #[a, b, c, d, e, f, h, i, j]) : w.cell? ⟨g, 0, none⟩ = some a ∧ w.cell? ⟨g, 1, none⟩ = some b ∧ w.cell? ⟨g, 2, none⟩ = some c ∧ w.cell? ⟨g, 3, none⟩ = some d ∧ w.cell? ⟨g, 4, none⟩ = some e ∧ w.cell? ⟨g, 5, none⟩ = some f ∧ w.cell? ⟨g, 6, none⟩ = some h ∧ w.cell? ⟨g, 7, none⟩ = some i ∧ w.cell? ⟨g, 8, none⟩ = some j := ⟨x.cell 0, x.cell 1, x.cell 2, x.cell 3, x.cell 4, x.cell 5, x.cell 6, x.cell 7, x.cell 8⟩

theorem VReads.up {w : World} {B B' : Nat} {v : Val} {cs : Array Value} (h : VReads w B v cs) (hB : B ≤ B') : VReads w B' v cs := by
  induction h with
  | mk css hn hr hx hxs ih => exact .mk css hn ⟨hr.1, fun h0 => by obtain ⟨ad, e, hb, hc⟩ := hr.2 h0; exact ⟨ad, e, Nat.lt_of_lt_of_le hb hB, hc⟩⟩ (fun j v hv => ih j v hv) hxs

theorem cb_cb (f : Nat) : cb (cb f) = cb f := by
  unfold cb
  cases h : nanB f
  · simp [h]
  · simp only [if_true]
    rw [show nanB 9221120237041090561 = true by decide]; rfl
theorem clean_okv {v : Val} (h : OkV v) : OkV (cleanV v) := by
  induction h with
  | @mk k i f s l hf hi hl hs ih =>
    unfold cleanV
    split
    · exact .mk (by decide) hi (by simp) (by simp)
    · split
      · exact .mk (cb_lt hf) (by decide) (by simp) (by simp)
      · split
        · exact .mk (by decide) (by decide) (by simp) (by simp)
        · split
          · rw [cleanL_map]
            refine .mk (by decide) (by decide) (fun v hv => ?_) (by rw [List.length_map]; exact hs)
            obtain ⟨x, hx, rfl⟩ := List.mem_map.1 hv
            exact ih x hx
          · exact .mk (by decide) (by decide) (by simp) (by simp)

set_option maxHeartbeats 6400000 in
theorem voteAlike_walk (c1 s1 n1 e1 k1 i1 c2 s2 n2 e2 k2 i2 : Int) (f1 f2 : Nat) (t1 t2 : ByteArray) (A1 A2 : Option Addr) (m1 d1 m2 d2 : Nat) (v u : Val) (same : Bool) (f g : Nat) (w : World) (hv : VReads w w.heap.size v #[.int .i64 k1, .int .i64 i1, .float .f64 f1, .string t1, .slice A1 m1 d1]) (ho : OkV v) (hu : VReads w w.heap.size u #[.int .i64 k2, .int .i64 i2, .float .f64 f2, .string t2, .slice A2 m2 d2]) (hu2 : OkV u) (hf : f < 18446744073709551616) (hg : g < 18446744073709551616) :
    Calls Try.prog 3 #[.agg #[.int .u32 c1, .int .u32 s1, .int .u16 n1, .int .i64 e1, .int .i64 k1, .int .i64 i1, .float .f64 f1, .string t1, .slice A1 m1 d1], .agg #[.int .u32 c2, .int .u32 s2, .int .u16 n2, .int .i64 e2, .int .i64 k2, .int .i64 i2, .float .f64 f2, .string t2, .slice A2 m2 d2], .bool same, .float .f64 f, .float .f64 g] w (SaysTrue w) := by
  have hsf := fun a k x m w => run_store_float (P := Try.prog) a k x m w
  have b1 := Blk.new w 32 #[.int .u32 c1, .int .u32 s1, .int .u16 n1, .int .i64 e1, .int .i64 k1, .int .i64 i1, .float .f64 f1, .string t1, .slice A1 m1 d1]
  have b1' := b1.alloc (.cells #[.int .u32 c2, .int .u32 s2, .int .u16 n2, .int .i64 e2, .int .i64 k2, .int .i64 i2, .float .f64 f2, .string t2, .slice A2 m2 d2] 32)
  have b2 := Blk.new (w.alloc (.cells #[.int .u32 c1, .int .u32 s1, .int .u16 n1, .int .i64 e1, .int .i64 k1, .int .i64 i1, .float .f64 f1, .string t1, .slice A1 m1 d1] 32)) 32 #[.int .u32 c2, .int .u32 s2, .int .u16 n2, .int .i64 e2, .int .i64 k2, .int .i64 i2, .float .f64 f2, .string t2, .slice A2 m2 d2]
  have hsz : (w.alloc (.cells #[.int .u32 c1, .int .u32 s1, .int .u16 n1, .int .i64 e1, .int .i64 k1, .int .i64 i1, .float .f64 f1, .string t1, .slice A1 m1 d1] 32)).heap.size = w.heap.size + 1 := by simp
  rw [hsz] at b2
  have hbl := ((Below.refl w.heap.size w).alloc (Nat.le_refl _) (.cells #[.int .u32 c1, .int .u32 s1, .int .u16 n1, .int .i64 e1, .int .i64 k1, .int .i64 i1, .float .f64 f1, .string t1, .slice A1 m1 d1] 32)).alloc (by simp) (.cells #[.int .u32 c2, .int .u32 s2, .int .u16 n2, .int .i64 e2, .int .i64 k2, .int .i64 i2, .float .f64 f2, .string t2, .slice A2 m2 d2] 32)
  clear b1 hsz
  go_enter Try.func3, Try.ntmps3
  go_wp2_with fail
  refine (known_true _).mono ?_
  rintro e w1 ⟨rfl, hb1⟩
  dsimp only
  have B1 := b1'.below hb1 b1'.lt
  have B2 := b2.below hb1 b2.lt
  have hB1 := below_then hb1 hbl
  obtain ⟨g5, hg5⟩ : ∃ g5, w.heap.size = g5 := ⟨_, rfl⟩
  have hw5 : w.heap.size ≤ g5 := by omega
  rw [hg5] at B1 B2 ⊢
  clear hbl b1' b2 hb1
  have l1 := light_any hv
  have l2 := light_any hu
  replace l1 := Lib.hid l1
  replace l2 := Lib.hid l2
  replace hg5 := Lib.hid hg5
  obtain ⟨E0, E1, E2, E3, E4, E5, E6, E7, E8⟩ := B1.cells9
  go_wp2_with fail
  refine (l1.out w1 hB1 hB1.size).mono ?_
  rintro e w2 ⟨q, rfl, hb2⟩
  dsimp only
  have B1' := B1.below hb2 B1.lt
  have B2' := B2.below hb2 B2.lt
  have hB2 := below_then hb2 hB1
  clear E0 E1 E2 E3 E4 E5 E6 E7 E8 B1 B2 hb2 hB1
  obtain ⟨F0, F1, F2, F3, F4, F5, F6, F7, F8⟩ := B2'.cells9
  cases q
  · go_wp2_with fail
    go_ret
    exact ⟨rfl, hB2⟩
  go_wp2_with fail
  refine (l2.out w2 hB2 hB2.size).mono ?_
  rintro e w3 ⟨q, rfl, hb3⟩
  dsimp only
  have B1 := B1'.below hb3 B1'.lt
  have B2 := B2'.below hb3 B2'.lt
  have hB3 := below_then hb3 hB2
  clear F0 F1 F2 F3 F4 F5 F6 F7 F8 B1' B2' hb3 hB2
  cases q
  · go_wp2_with fail
    go_ret
    exact ⟨rfl, hB3⟩
  clear l1 l2
  go_upto_if 25 with (fail)
  go_cut [] from 26 to 30 (fun wx => ∃ (c3 s3 n3 e3 k3 i3 : Int) (f3 : Nat) (t3 : ByteArray) (A3 : Option Addr) (m3 d3 : Nat) (x : Val), Blk wx g5 32 #[.int .u32 c1, .int .u32 s1, .int .u16 n1, .int .i64 e1, .int .i64 k1, .int .i64 i1, .float .f64 f1, .string t1, .slice A1 m1 d1] ∧ Blk wx (g5 + 1) 32 #[.int .u32 c3, .int .u32 s3, .int .u16 n3, .int .i64 e3, .int .i64 k3, .int .i64 i3, .float .f64 f3, .string t3, .slice A3 m3 d3] ∧ VReads wx wx.heap.size x #[.int .i64 k3, .int .i64 i3, .float .f64 f3, .string t3, .slice A3 m3 d3] ∧ OkV x ∧ Below w.heap.size w wx)
  case first =>
    cases same
    · go_wp2_with fail
      go_meet
      exact ⟨c2, s2, n2, e2, k2, i2, f2, t2, A2, m2, d2, u, B1, B2, (hu.under hB3).up hB3.size, hu2, hB3⟩
    · obtain ⟨E0, E1, E2, E3, E4, E5, E6, E7, E8⟩ := B1.cells9
      have B2r := B2.row #[.int .u32 c1, .int .u32 s1, .int .u16 n1, .int .i64 e1, .int .i64 k1, .int .i64 i1, .float .f64 f1, .string t1, .slice A1 m1 d1]
      have B1r := B1.farRow (g := g5 + 1) (by omega) #[.int .u32 c1, .int .u32 s1, .int .u16 n1, .int .i64 e1, .int .i64 k1, .int .i64 i1, .float .f64 f1, .string t1, .slice A1 m1 d1]
      have hBr := below_row hB3 (g := g5 + 1) (by omega) #[.int .u32 c1, .int .u32 s1, .int .u16 n1, .int .i64 e1, .int .i64 k1, .int .i64 i1, .float .f64 f1, .string t1, .slice A1 m1 d1]
      go_wp2_with (refine store_row_gen rfl 32 (Operand.tmp 6) _ rfl (g5 + 1) #[.int .u32 c1, .int .u32 s1, .int .u16 n1, .int .i64 e1, .int .i64 k1, .int .i64 i1, .float .f64 f1, .string t1, .slice A1 m1 d1] (by simp [go_sem]) (by simp [go_sem]) 32 _ B2 (by kernel_rfl) rfl (by simp [Value.oneCell']) (fun w9 hw9 => ?_); rw [← hw9] at B2r B1r hBr; clear hw9 E0 E1 E2 E3 E4 E5 E6 E7 E8 B1 B2 hB3; obtain ⟨E0, E1, E2, E3, E4, E5, E6, E7, E8⟩ := B1r.cells9)
      refine (ref_clean_s hv w9 (short_of_ok ho) hBr hBr.size).mono ?_
      rintro e w10 ⟨cs', rfl, hv3, hb10⟩
      dsimp only
      obtain ⟨k3, i3, f3, t3, A3, m3, d3, hform⟩ := hv3.reads.form
      subst hform
      have B1 := B1r.below hb10 B1r.lt
      have B2 := B2r.below hb10 B2r.lt
      have hBB := below_then hb10 hBr
      have hl9 := B2r.lt
      clear E0 E1 E2 E3 E4 E5 E6 E7 E8 B1r B2r
      obtain ⟨F0, F1, F2, F3, F4, F5, F6, F7, F8⟩ := B2.cells9
      have z4 := B2.frozen 4
      have z5 := B2.frozen 5
      have z6 := B2.frozen 6
      have z7 := B2.frozen 7
      have z8 := B2.frozen 8
      go_wp2_with fail
      go_meet
      have B2' : Blk (((((w10.setCell ⟨g5 + 1, 4, none⟩ (.int .i64 k3)).setCell ⟨g5 + 1, 5, none⟩ (.int .i64 i3)).setCell ⟨g5 + 1, 6, none⟩ (.float .f64 f3)).setCell ⟨g5 + 1, 7, none⟩ (.string t3)).setCell ⟨g5 + 1, 8, none⟩ (.slice A3 m3 d3)) (g5 + 1) 32 #[.int .u32 c1, .int .u32 s1, .int .u16 n1, .int .i64 e1, .int .i64 k3, .int .i64 i3, .float .f64 f3, .string t3, .slice A3 m3 d3] := ((((B2.set_ 4 (.int .i64 k3)).set_ 5 (.int .i64 i3)).set_ 6 (.float .f64 f3)).set_ 7 (.string t3)).set_ 8 (.slice A3 m3 d3)
      have B1' := ((((B1.far (p := ⟨g5 + 1, 4, none⟩) (show g5 ≠ g5 + 1 by omega) (.int .i64 k3)).far (p := ⟨g5 + 1, 5, none⟩) (show g5 ≠ g5 + 1 by omega) (.int .i64 i3)).far (p := ⟨g5 + 1, 6, none⟩) (show g5 ≠ g5 + 1 by omega) (.float .f64 f3)).far (p := ⟨g5 + 1, 7, none⟩) (show g5 ≠ g5 + 1 by omega) (.string t3)).far (p := ⟨g5 + 1, 8, none⟩) (show g5 ≠ g5 + 1 by omega) (.slice A3 m3 d3)
      have hu10 : Upd (fun k => k = g5 + 1) w10 (((((w10.setCell ⟨g5 + 1, 4, none⟩ (.int .i64 k3)).setCell ⟨g5 + 1, 5, none⟩ (.int .i64 i3)).setCell ⟨g5 + 1, 6, none⟩ (.float .f64 f3)).setCell ⟨g5 + 1, 7, none⟩ (.string t3)).setCell ⟨g5 + 1, 8, none⟩ (.slice A3 m3 d3)) := (((((Upd.refl (fun k => k = g5 + 1) w10).setCell (p := ⟨g5 + 1, 4, none⟩) (fun _ => rfl) _).setCell (p := ⟨g5 + 1, 5, none⟩) (fun _ => rfl) _).setCell (p := ⟨g5 + 1, 6, none⟩) (fun _ => rfl) _).setCell (p := ⟨g5 + 1, 7, none⟩) (fun _ => rfl) _).setCell (p := ⟨g5 + 1, 8, none⟩) (fun _ => rfl) _
      have hv4 := hv3.upd hu10 (fun g hg e => by have h9 : w9.heap.size ≤ g := hg; omega)
      exact ⟨c1, s1, n1, e1, k3, i3, f3, t3, A3, m3, d3, cleanV v, B1', B2', hv4.reads, clean_okv ho, hBB.trans (hu10.below (B := w.heap.size) hBB.size (fun k hk e => by omega))⟩
  case rest =>
    obtain ⟨c3, s3, n3, e3, k3, i3, f3, t3, A3, m3, d3, x, B1, B2, hx, hxo, hB⟩ := hcut
    generalize wc = w4 at *
    go_upto_region 8 with (fail)
    go_cut [11, 12] from 31 to 32 (fun x11 x12 wx => ∃ p1 p2 : Nat, x11 = .pointer (some ⟨p1, 0, none⟩) ∧ x12 = .pointer (some ⟨p2, 0, none⟩) ∧ p1 ≠ p2 ∧ (g5 + 1 < p1 ∧ w4.heap.size ≤ p1) ∧ (g5 + 1 < p2 ∧ w4.heap.size ≤ p2) ∧ Blk wx g5 32 #[.int .u32 c1, .int .u32 s1, .int .u16 n1, .int .i64 e1, .int .i64 k1, .int .i64 i1, .float .f64 f1, .string t1, .slice A1 m1 d1] ∧ Blk wx (g5 + 1) 32 #[.int .u32 c3, .int .u32 s3, .int .u16 n3, .int .i64 e3, .int .i64 k3, .int .i64 i3, .float .f64 f3, .string t3, .slice A3 m3 d3] ∧ Blk wx p1 32 #[.int .u32 c1, .int .u32 s1, .int .u16 n1, .int .i64 e1, .int .i64 k1, .int .i64 i1, .float .f64 f1, .string t1, .slice A1 m1 d1] ∧ Blk wx p2 32 #[.int .u32 c1, .int .u32 s1, .int .u16 n1, .int .i64 e1, .int .i64 k1, .int .i64 i1, .float .f64 f1, .string t1, .slice A1 m1 d1] ∧ Below w4.heap.size w4 wx)
    case first =>
      have hS : Blk w4.drew g5 32 #[.int .u32 c1, .int .u32 s1, .int .u16 n1, .int .i64 e1, .int .i64 k1, .int .i64 i1, .float .f64 f1, .string t1, .slice A1 m1 d1] := B1
      have hl4 := B2.lt
      have Z1 : Blk (((w4.alloc (.cells #[.int .u32 0, .int .u32 0, .int .u16 0, .int .i64 0, .int .i64 0, .int .i64 0, .float .f64 0, .string ⟨#[]⟩, .slice none 0 0] 32)).alloc (.cells #[.int .u32 0, .int .u32 0, .int .u16 0, .int .i64 0, .int .i64 0, .int .i64 0, .float .f64 0, .string ⟨#[]⟩, .slice none 0 0] 32)).drew) w4.heap.size 32 #[.int .u32 0, .int .u32 0, .int .u16 0, .int .i64 0, .int .i64 0, .int .i64 0, .float .f64 0, .string ⟨#[]⟩, .slice none 0 0] := ((Blk.new w4 32 #[.int .u32 0, .int .u32 0, .int .u16 0, .int .i64 0, .int .i64 0, .int .i64 0, .float .f64 0, .string ⟨#[]⟩, .slice none 0 0]).alloc _).drew
      have Z2 : Blk (((w4.alloc (.cells #[.int .u32 0, .int .u32 0, .int .u16 0, .int .i64 0, .int .i64 0, .int .i64 0, .float .f64 0, .string ⟨#[]⟩, .slice none 0 0] 32)).alloc (.cells #[.int .u32 0, .int .u32 0, .int .u16 0, .int .i64 0, .int .i64 0, .int .i64 0, .float .f64 0, .string ⟨#[]⟩, .slice none 0 0] 32)).drew) (w4.heap.size + 1) 32 #[.int .u32 0, .int .u32 0, .int .u16 0, .int .i64 0, .int .i64 0, .int .i64 0, .float .f64 0, .string ⟨#[]⟩, .slice none 0 0] := by
        have h := (Blk.new (w4.alloc (.cells #[.int .u32 0, .int .u32 0, .int .u16 0, .int .i64 0, .int .i64 0, .int .i64 0, .float .f64 0, .string ⟨#[]⟩, .slice none 0 0] 32)) 32 #[.int .u32 0, .int .u32 0, .int .u16 0, .int .i64 0, .int .i64 0, .int .i64 0, .float .f64 0, .string ⟨#[]⟩, .slice none 0 0]).drew
        rw [World.size_alloc] at h
        exact h
      have hw6 : Blk (((w4.alloc (.cells #[.int .u32 0, .int .u32 0, .int .u16 0, .int .i64 0, .int .i64 0, .int .i64 0, .float .f64 0, .string ⟨#[]⟩, .slice none 0 0] 32)).alloc (.cells #[.int .u32 0, .int .u32 0, .int .u16 0, .int .i64 0, .int .i64 0, .int .i64 0, .float .f64 0, .string ⟨#[]⟩, .slice none 0 0] 32)).drew) g5 32 #[.int .u32 c1, .int .u32 s1, .int .u16 n1, .int .i64 e1, .int .i64 k1, .int .i64 i1, .float .f64 f1, .string t1, .slice A1 m1 d1] := ((B1.alloc _).alloc _).drew
      have hw6b : Blk (((w4.alloc (.cells #[.int .u32 0, .int .u32 0, .int .u16 0, .int .i64 0, .int .i64 0, .int .i64 0, .float .f64 0, .string ⟨#[]⟩, .slice none 0 0] 32)).alloc (.cells #[.int .u32 0, .int .u32 0, .int .u16 0, .int .i64 0, .int .i64 0, .int .i64 0, .float .f64 0, .string ⟨#[]⟩, .slice none 0 0] 32)).drew) (g5 + 1) 32 #[.int .u32 c3, .int .u32 s3, .int .u16 n3, .int .i64 e3, .int .i64 k3, .int .i64 i3, .float .f64 f3, .string t3, .slice A3 m3 d3] := ((B2.alloc _).alloc _).drew
      have hb6 : Below w4.heap.size w4 (((w4.alloc (.cells #[.int .u32 0, .int .u32 0, .int .u16 0, .int .i64 0, .int .i64 0, .int .i64 0, .float .f64 0, .string ⟨#[]⟩, .slice none 0 0] 32)).alloc (.cells #[.int .u32 0, .int .u32 0, .int .u16 0, .int .i64 0, .int .i64 0, .int .i64 0, .float .f64 0, .string ⟨#[]⟩, .slice none 0 0] 32)).drew) := below_drewN (((Below.refl w4.heap.size w4).alloc (Nat.le_refl _) _).alloc (by simp) _) 1
      refine wp_region_pair (fun W => Blk W g5 32 #[.int .u32 c1, .int .u32 s1, .int .u16 n1, .int .i64 e1, .int .i64 k1, .int .i64 i1, .float .f64 f1, .string t1, .slice A1 m1 d1]) [0, 1] [2, 3, 4, 5] [0, 1] 2 3 [3, 4, 5] [2, 4, 5] (by kernel_rfl) rfl rfl (by kernel_rfl) (by kernel_rfl) (by kernel_rfl) rfl rfl (by kernel_rfl) (by kernel_rfl) (fun _ _ d _ _ h => by cases d <;> exact h) ?_
      (refine lexG_held _ ?_ rfl rfl rfl rfl (by assumption) (fun _ hSw => ?_) ?_; rotate_left; (focus (obtain ⟨E0, E1, E2, E3, E4, E5, E6, E7, E8⟩ := Blk.cells9 hSw; go_simp; with_reducible rfl)); try simp only [Act.put, List.setIfInBounds_toArray, List.set_cons_zero, List.set_cons_succ])
      (refine lexG_held _ ?_ rfl rfl rfl rfl (by assumption) (fun _ hSw => ?_) ?_; rotate_left; (focus (obtain ⟨E0, E1, E2, E3, E4, E5, E6, E7, E8⟩ := Blk.cells9 hSw; go_simp; with_reducible rfl)); try simp only [Act.put, List.setIfInBounds_toArray, List.set_cons_zero, List.set_cons_succ])
      refine lexG_nil ?_
      refine ⟨?_, ?_⟩
      · refine lexG_now _ rfl rfl rfl (fun K hK => ?_)
        go_simp
        refine hK _ _ _ (fun _ h => h) (B1.alloc (.cells #[.int .u32 0, .int .u32 0, .int .u16 0, .int .i64 0, .int .i64 0, .int .i64 0, .float .f64 0, .string ⟨#[]⟩, .slice none 0 0] 32)) ?_
        clear hK K
        try simp only [Act.put, List.setIfInBounds_toArray, List.set_cons_zero, List.set_cons_succ]
        refine lexG_now _ rfl rfl rfl (fun K hK => ?_)
        go_simp
        refine hK _ _ _ (fun _ h => h) hw6 ?_
        clear hK K
        try simp only [Act.put, List.setIfInBounds_toArray, List.set_cons_zero, List.set_cons_succ]
        generalize ((w4.alloc (.cells #[.int .u32 0, .int .u32 0, .int .u16 0, .int .i64 0, .int .i64 0, .int .i64 0, .float .f64 0, .string ⟨#[]⟩, .slice none 0 0] 32)).alloc (.cells #[.int .u32 0, .int .u32 0, .int .u16 0, .int .i64 0, .int .i64 0, .int .i64 0, .float .f64 0, .string ⟨#[]⟩, .slice none 0 0] 32)).drew = w6 at *
        refine lexG_now _ rfl rfl rfl (fun K hK => ?_)
        refine wp_store_row 32 (Operand.tmp 11) (Operand.tmp 31) rfl w4.heap.size #[.int .u32 c1, .int .u32 s1, .int .u16 n1, .int .i64 e1, .int .i64 k1, .int .i64 i1, .float .f64 f1, .string t1, .slice A1 m1 d1] (by simp [go_sem]) (by simp [go_sem]) 32 _ Z1 (by kernel_rfl) rfl (by simp [Value.oneCell']) ?_
        refine hK _ _ _ (fun _ h => h) (hw6.farRow (by omega) #[.int .u32 c1, .int .u32 s1, .int .u16 n1, .int .i64 e1, .int .i64 k1, .int .i64 i1, .float .f64 f1, .string t1, .slice A1 m1 d1]) ?_
        clear hK K
        have Y1 := Z1.row #[.int .u32 c1, .int .u32 s1, .int .u16 n1, .int .i64 e1, .int .i64 k1, .int .i64 i1, .float .f64 f1, .string t1, .slice A1 m1 d1]
        have Y2 := Z2.farRow (g := w4.heap.size) (by omega) #[.int .u32 c1, .int .u32 s1, .int .u16 n1, .int .i64 e1, .int .i64 k1, .int .i64 i1, .float .f64 f1, .string t1, .slice A1 m1 d1]
        have hA7 := hw6.farRow (g := w4.heap.size) (by omega) #[.int .u32 c1, .int .u32 s1, .int .u16 n1, .int .i64 e1, .int .i64 k1, .int .i64 i1, .float .f64 f1, .string t1, .slice A1 m1 d1]
        have hB7 := hw6b.farRow (g := w4.heap.size) (by omega) #[.int .u32 c1, .int .u32 s1, .int .u16 n1, .int .i64 e1, .int .i64 k1, .int .i64 i1, .float .f64 f1, .string t1, .slice A1 m1 d1]
        have hb7 := below_row hb6 (g := w4.heap.size) (by omega) #[.int .u32 c1, .int .u32 s1, .int .u16 n1, .int .i64 e1, .int .i64 k1, .int .i64 i1, .float .f64 f1, .string t1, .slice A1 m1 d1]
        generalize w6.setRow w4.heap.size #[.int .u32 c1, .int .u32 s1, .int .u16 n1, .int .i64 e1, .int .i64 k1, .int .i64 i1, .float .f64 f1, .string t1, .slice A1 m1 d1] = w7 at *
        try simp only [Act.put, List.setIfInBounds_toArray, List.set_cons_zero, List.set_cons_succ]
        refine lexG_now _ rfl rfl rfl (fun K hK => ?_)
        refine wp_store_row 32 (Operand.tmp 12) (Operand.tmp 32) rfl (w4.heap.size + 1) #[.int .u32 c1, .int .u32 s1, .int .u16 n1, .int .i64 e1, .int .i64 k1, .int .i64 i1, .float .f64 f1, .string t1, .slice A1 m1 d1] (by simp [go_sem]) (by simp [go_sem]) 32 _ Y2 (by kernel_rfl) rfl (by simp [Value.oneCell']) ?_
        refine hK _ _ _ (fun _ h => h) (hA7.farRow (by omega) #[.int .u32 c1, .int .u32 s1, .int .u16 n1, .int .i64 e1, .int .i64 k1, .int .i64 i1, .float .f64 f1, .string t1, .slice A1 m1 d1]) ?_
        clear hK K
        have X1 := Y1.farRow (g := (w4.heap.size + 1)) (by omega) #[.int .u32 c1, .int .u32 s1, .int .u16 n1, .int .i64 e1, .int .i64 k1, .int .i64 i1, .float .f64 f1, .string t1, .slice A1 m1 d1]
        have X2 := Y2.row #[.int .u32 c1, .int .u32 s1, .int .u16 n1, .int .i64 e1, .int .i64 k1, .int .i64 i1, .float .f64 f1, .string t1, .slice A1 m1 d1]
        have hA8 := hA7.farRow (g := (w4.heap.size + 1)) (by omega) #[.int .u32 c1, .int .u32 s1, .int .u16 n1, .int .i64 e1, .int .i64 k1, .int .i64 i1, .float .f64 f1, .string t1, .slice A1 m1 d1]
        have hB8 := hB7.farRow (g := (w4.heap.size + 1)) (by omega) #[.int .u32 c1, .int .u32 s1, .int .u16 n1, .int .i64 e1, .int .i64 k1, .int .i64 i1, .float .f64 f1, .string t1, .slice A1 m1 d1]
        have hb8 := below_row hb7 (g := (w4.heap.size + 1)) (by omega) #[.int .u32 c1, .int .u32 s1, .int .u16 n1, .int .i64 e1, .int .i64 k1, .int .i64 i1, .float .f64 f1, .string t1, .slice A1 m1 d1]
        generalize w7.setRow (w4.heap.size + 1) #[.int .u32 c1, .int .u32 s1, .int .u16 n1, .int .i64 e1, .int .i64 k1, .int .i64 i1, .float .f64 f1, .string t1, .slice A1 m1 d1] = w8 at *
        try simp only [Act.put, List.setIfInBounds_toArray, List.set_cons_zero, List.set_cons_succ]
        refine lexG_nil ?_
        go_wp2_with fail
        go_meet
        exact ⟨w4.heap.size, (w4.heap.size + 1), rfl, rfl, by omega, ⟨by omega, by omega⟩, ⟨by omega, by omega⟩, hA8, hB8, X1, X2, hb8⟩
      · refine lexG_now _ rfl rfl rfl (fun K hK => ?_)
        go_simp
        refine hK _ _ _ (fun _ h => h) (B1.alloc (.cells #[.int .u32 0, .int .u32 0, .int .u16 0, .int .i64 0, .int .i64 0, .int .i64 0, .float .f64 0, .string ⟨#[]⟩, .slice none 0 0] 32)) ?_
        clear hK K
        try simp only [Act.put, List.setIfInBounds_toArray, List.set_cons_zero, List.set_cons_succ]
        refine lexG_now _ rfl rfl rfl (fun K hK => ?_)
        go_simp
        refine hK _ _ _ (fun _ h => h) hw6 ?_
        clear hK K
        try simp only [Act.put, List.setIfInBounds_toArray, List.set_cons_zero, List.set_cons_succ]
        generalize ((w4.alloc (.cells #[.int .u32 0, .int .u32 0, .int .u16 0, .int .i64 0, .int .i64 0, .int .i64 0, .float .f64 0, .string ⟨#[]⟩, .slice none 0 0] 32)).alloc (.cells #[.int .u32 0, .int .u32 0, .int .u16 0, .int .i64 0, .int .i64 0, .int .i64 0, .float .f64 0, .string ⟨#[]⟩, .slice none 0 0] 32)).drew = w6 at *
        refine lexG_now _ rfl rfl rfl (fun K hK => ?_)
        refine wp_store_row 32 (Operand.tmp 11) (Operand.tmp 31) rfl (w4.heap.size + 1) #[.int .u32 c1, .int .u32 s1, .int .u16 n1, .int .i64 e1, .int .i64 k1, .int .i64 i1, .float .f64 f1, .string t1, .slice A1 m1 d1] (by simp [go_sem]) (by simp [go_sem]) 32 _ Z2 (by kernel_rfl) rfl (by simp [Value.oneCell']) ?_
        refine hK _ _ _ (fun _ h => h) (hw6.farRow (by omega) #[.int .u32 c1, .int .u32 s1, .int .u16 n1, .int .i64 e1, .int .i64 k1, .int .i64 i1, .float .f64 f1, .string t1, .slice A1 m1 d1]) ?_
        clear hK K
        have Y1 := Z2.row #[.int .u32 c1, .int .u32 s1, .int .u16 n1, .int .i64 e1, .int .i64 k1, .int .i64 i1, .float .f64 f1, .string t1, .slice A1 m1 d1]
        have Y2 := Z1.farRow (g := (w4.heap.size + 1)) (by omega) #[.int .u32 c1, .int .u32 s1, .int .u16 n1, .int .i64 e1, .int .i64 k1, .int .i64 i1, .float .f64 f1, .string t1, .slice A1 m1 d1]
        have hA7 := hw6.farRow (g := (w4.heap.size + 1)) (by omega) #[.int .u32 c1, .int .u32 s1, .int .u16 n1, .int .i64 e1, .int .i64 k1, .int .i64 i1, .float .f64 f1, .string t1, .slice A1 m1 d1]
        have hB7 := hw6b.farRow (g := (w4.heap.size + 1)) (by omega) #[.int .u32 c1, .int .u32 s1, .int .u16 n1, .int .i64 e1, .int .i64 k1, .int .i64 i1, .float .f64 f1, .string t1, .slice A1 m1 d1]
        have hb7 := below_row hb6 (g := (w4.heap.size + 1)) (by omega) #[.int .u32 c1, .int .u32 s1, .int .u16 n1, .int .i64 e1, .int .i64 k1, .int .i64 i1, .float .f64 f1, .string t1, .slice A1 m1 d1]
        generalize w6.setRow (w4.heap.size + 1) #[.int .u32 c1, .int .u32 s1, .int .u16 n1, .int .i64 e1, .int .i64 k1, .int .i64 i1, .float .f64 f1, .string t1, .slice A1 m1 d1] = w7 at *
        try simp only [Act.put, List.setIfInBounds_toArray, List.set_cons_zero, List.set_cons_succ]
        refine lexG_now _ rfl rfl rfl (fun K hK => ?_)
        refine wp_store_row 32 (Operand.tmp 12) (Operand.tmp 32) rfl w4.heap.size #[.int .u32 c1, .int .u32 s1, .int .u16 n1, .int .i64 e1, .int .i64 k1, .int .i64 i1, .float .f64 f1, .string t1, .slice A1 m1 d1] (by simp [go_sem]) (by simp [go_sem]) 32 _ Y2 (by kernel_rfl) rfl (by simp [Value.oneCell']) ?_
        refine hK _ _ _ (fun _ h => h) (hA7.farRow (by omega) #[.int .u32 c1, .int .u32 s1, .int .u16 n1, .int .i64 e1, .int .i64 k1, .int .i64 i1, .float .f64 f1, .string t1, .slice A1 m1 d1]) ?_
        clear hK K
        have X1 := Y1.farRow (g := w4.heap.size) (by omega) #[.int .u32 c1, .int .u32 s1, .int .u16 n1, .int .i64 e1, .int .i64 k1, .int .i64 i1, .float .f64 f1, .string t1, .slice A1 m1 d1]
        have X2 := Y2.row #[.int .u32 c1, .int .u32 s1, .int .u16 n1, .int .i64 e1, .int .i64 k1, .int .i64 i1, .float .f64 f1, .string t1, .slice A1 m1 d1]
        have hA8 := hA7.farRow (g := w4.heap.size) (by omega) #[.int .u32 c1, .int .u32 s1, .int .u16 n1, .int .i64 e1, .int .i64 k1, .int .i64 i1, .float .f64 f1, .string t1, .slice A1 m1 d1]
        have hB8 := hB7.farRow (g := w4.heap.size) (by omega) #[.int .u32 c1, .int .u32 s1, .int .u16 n1, .int .i64 e1, .int .i64 k1, .int .i64 i1, .float .f64 f1, .string t1, .slice A1 m1 d1]
        have hb8 := below_row hb7 (g := w4.heap.size) (by omega) #[.int .u32 c1, .int .u32 s1, .int .u16 n1, .int .i64 e1, .int .i64 k1, .int .i64 i1, .float .f64 f1, .string t1, .slice A1 m1 d1]
        generalize w7.setRow w4.heap.size #[.int .u32 c1, .int .u32 s1, .int .u16 n1, .int .i64 e1, .int .i64 k1, .int .i64 i1, .float .f64 f1, .string t1, .slice A1 m1 d1] = w8 at *
        try simp only [Act.put, List.setIfInBounds_toArray, List.set_cons_zero, List.set_cons_succ]
        refine lexG_nil ?_
        go_wp2_with fail
        go_meet
        exact ⟨(w4.heap.size + 1), w4.heap.size, rfl, rfl, by omega, ⟨by omega, by omega⟩, ⟨by omega, by omega⟩, hA8, hB8, X1, X2, hb8⟩
    case rest =>
      obtain ⟨p1, p2, rfl, rfl, hne, ⟨hp1, hp1l⟩, ⟨hp2, hp2l⟩, B1, B2, X1, X2, hbx⟩ := hcut
      have hne' : p2 ≠ p1 := fun e => hne e.symm
      generalize wc = w5 at *
      obtain ⟨xf, hxf⟩ : ∃ xf, cb f = xf := ⟨_, rfl⟩
      obtain ⟨yf, hyf⟩ : ∃ yf, cb g = yf := ⟨_, rfl⟩
      have hff := fun w => float_ref f w
      have hgg := fun w => float_ref g w
      have hbf := fun w => ref_bits f w
      have hbg := fun w => ref_bits g w
      rw [hxf] at hff hbf
      rw [hyf] at hgg hbg
      have hxl : xf < 18446744073709551616 := by rw [← hxf]; exact cb_lt hf
      have hyl : yf < 18446744073709551616 := by rw [← hyf]; exact cb_lt hg
      have hcx : cb xf = xf := by rw [← hxf]; exact cb_cb f
      have hcy : cb yf = yf := by rw [← hyf]; exact cb_cb g
      have hv4 := (hv.under hB).up hB.size
      have hzz := ordFl_zero xf yf hxl hyl
      rw [hcx, hcy] at hzz
      replace hxf := Lib.hid hxf
      replace hyf := Lib.hid hyf
      replace hzz := Lib.hid hzz
      replace hxl := Lib.hid hxl
      replace hyl := Lib.hid hyl
      clear hcx hcy
      go_wp2_with fail
      refine (hff _).mono ?_
      rintro e w6 ⟨rfl, hb6⟩
      dsimp only
      have B1' := B1.below hb6 B1.lt
      have B2' := B2.below hb6 B2.lt
      have X1' := X1.below hb6 X1.lt
      have X2' := X2.below hb6 X2.lt
      have hbx' := below_then hb6 hbx
      clear B1 B2 X1 X2 hbx hb6
      generalize w5 = w55 at *
      go_wp2_with fail
      refine (hgg _).mono ?_
      rintro e w7 ⟨rfl, hb7⟩
      dsimp only
      have B1 := B1'.below hb7 B1'.lt
      have B2 := B2'.below hb7 B2'.lt
      have X1 := X1'.below hb7 X1'.lt
      have X2 := X2'.below hb7 X2'.lt
      have hbx := below_then hb7 hbx'
      clear B1' B2' X1' X2' hbx' hb7 hff hgg
      generalize w6 = w66 at *
      generalize w7 = w6 at *
      have hc1 := X1.cells9
      have hc2 := X2.cells9
      have q4 := X1.frozen 4
      have q5 := X1.frozen 5
      have q6 := X1.frozen 6
      have q7 := X1.frozen 7
      have q8 := X1.frozen 8
      have r4 := X2.frozen 4
      have r5 := X2.frozen 5
      have r6 := X2.frozen 6
      have r7 := X2.frozen 7
      have r8 := X2.frozen 8
      go_wp2_with fail
      have Y1 : Blk ((((((((((w6.setCell ⟨p1, 4, none⟩ (.int .i64 2)).setCell ⟨p1, 5, none⟩ (.int .i64 0)).setCell ⟨p1, 6, none⟩ (.float .f64 xf)).setCell ⟨p1, 7, none⟩ (.string ⟨#[]⟩)).setCell ⟨p1, 8, none⟩ (.slice none 0 0)).setCell ⟨p2, 4, none⟩ (.int .i64 2)).setCell ⟨p2, 5, none⟩ (.int .i64 0)).setCell ⟨p2, 6, none⟩ (.float .f64 yf)).setCell ⟨p2, 7, none⟩ (.string ⟨#[]⟩)).setCell ⟨p2, 8, none⟩ (.slice none 0 0)) p1 32 #[.int .u32 c1, .int .u32 s1, .int .u16 n1, .int .i64 e1, .int .i64 2, .int .i64 0, .float .f64 xf, .string ⟨#[]⟩, .slice none 0 0] := ((((((((((X1.set_ 4 (.int .i64 2)).set_ 5 (.int .i64 0)).set_ 6 (.float .f64 xf)).set_ 7 (.string ⟨#[]⟩)).set_ 8 (.slice none 0 0)).far (p := ⟨p2, 4, none⟩) (show p1 ≠ p2 by omega) (.int .i64 2)).far (p := ⟨p2, 5, none⟩) (show p1 ≠ p2 by omega) (.int .i64 0)).far (p := ⟨p2, 6, none⟩) (show p1 ≠ p2 by omega) (.float .f64 yf)).far (p := ⟨p2, 7, none⟩) (show p1 ≠ p2 by omega) (.string ⟨#[]⟩)).far (p := ⟨p2, 8, none⟩) (show p1 ≠ p2 by omega) (.slice none 0 0))
      have Y2 : Blk ((((((((((w6.setCell ⟨p1, 4, none⟩ (.int .i64 2)).setCell ⟨p1, 5, none⟩ (.int .i64 0)).setCell ⟨p1, 6, none⟩ (.float .f64 xf)).setCell ⟨p1, 7, none⟩ (.string ⟨#[]⟩)).setCell ⟨p1, 8, none⟩ (.slice none 0 0)).setCell ⟨p2, 4, none⟩ (.int .i64 2)).setCell ⟨p2, 5, none⟩ (.int .i64 0)).setCell ⟨p2, 6, none⟩ (.float .f64 yf)).setCell ⟨p2, 7, none⟩ (.string ⟨#[]⟩)).setCell ⟨p2, 8, none⟩ (.slice none 0 0)) p2 32 #[.int .u32 c1, .int .u32 s1, .int .u16 n1, .int .i64 e1, .int .i64 2, .int .i64 0, .float .f64 yf, .string ⟨#[]⟩, .slice none 0 0] := ((((((((((X2.far (p := ⟨p1, 4, none⟩) (show p2 ≠ p1 by omega) (.int .i64 2)).far (p := ⟨p1, 5, none⟩) (show p2 ≠ p1 by omega) (.int .i64 0)).far (p := ⟨p1, 6, none⟩) (show p2 ≠ p1 by omega) (.float .f64 xf)).far (p := ⟨p1, 7, none⟩) (show p2 ≠ p1 by omega) (.string ⟨#[]⟩)).far (p := ⟨p1, 8, none⟩) (show p2 ≠ p1 by omega) (.slice none 0 0)).set_ 4 (.int .i64 2)).set_ 5 (.int .i64 0)).set_ 6 (.float .f64 yf)).set_ 7 (.string ⟨#[]⟩)).set_ 8 (.slice none 0 0))
      have D1 : Blk ((((((((((w6.setCell ⟨p1, 4, none⟩ (.int .i64 2)).setCell ⟨p1, 5, none⟩ (.int .i64 0)).setCell ⟨p1, 6, none⟩ (.float .f64 xf)).setCell ⟨p1, 7, none⟩ (.string ⟨#[]⟩)).setCell ⟨p1, 8, none⟩ (.slice none 0 0)).setCell ⟨p2, 4, none⟩ (.int .i64 2)).setCell ⟨p2, 5, none⟩ (.int .i64 0)).setCell ⟨p2, 6, none⟩ (.float .f64 yf)).setCell ⟨p2, 7, none⟩ (.string ⟨#[]⟩)).setCell ⟨p2, 8, none⟩ (.slice none 0 0)) g5 32 #[.int .u32 c1, .int .u32 s1, .int .u16 n1, .int .i64 e1, .int .i64 k1, .int .i64 i1, .float .f64 f1, .string t1, .slice A1 m1 d1] := ((((((((((B1.far (p := ⟨p1, 4, none⟩) (show g5 ≠ p1 by omega) (.int .i64 2)).far (p := ⟨p1, 5, none⟩) (show g5 ≠ p1 by omega) (.int .i64 0)).far (p := ⟨p1, 6, none⟩) (show g5 ≠ p1 by omega) (.float .f64 xf)).far (p := ⟨p1, 7, none⟩) (show g5 ≠ p1 by omega) (.string ⟨#[]⟩)).far (p := ⟨p1, 8, none⟩) (show g5 ≠ p1 by omega) (.slice none 0 0)).far (p := ⟨p2, 4, none⟩) (show g5 ≠ p2 by omega) (.int .i64 2)).far (p := ⟨p2, 5, none⟩) (show g5 ≠ p2 by omega) (.int .i64 0)).far (p := ⟨p2, 6, none⟩) (show g5 ≠ p2 by omega) (.float .f64 yf)).far (p := ⟨p2, 7, none⟩) (show g5 ≠ p2 by omega) (.string ⟨#[]⟩)).far (p := ⟨p2, 8, none⟩) (show g5 ≠ p2 by omega) (.slice none 0 0))
      have D2 : Blk ((((((((((w6.setCell ⟨p1, 4, none⟩ (.int .i64 2)).setCell ⟨p1, 5, none⟩ (.int .i64 0)).setCell ⟨p1, 6, none⟩ (.float .f64 xf)).setCell ⟨p1, 7, none⟩ (.string ⟨#[]⟩)).setCell ⟨p1, 8, none⟩ (.slice none 0 0)).setCell ⟨p2, 4, none⟩ (.int .i64 2)).setCell ⟨p2, 5, none⟩ (.int .i64 0)).setCell ⟨p2, 6, none⟩ (.float .f64 yf)).setCell ⟨p2, 7, none⟩ (.string ⟨#[]⟩)).setCell ⟨p2, 8, none⟩ (.slice none 0 0)) (g5 + 1) 32 #[.int .u32 c3, .int .u32 s3, .int .u16 n3, .int .i64 e3, .int .i64 k3, .int .i64 i3, .float .f64 f3, .string t3, .slice A3 m3 d3] := ((((((((((B2.far (p := ⟨p1, 4, none⟩) (show g5 + 1 ≠ p1 by omega) (.int .i64 2)).far (p := ⟨p1, 5, none⟩) (show g5 + 1 ≠ p1 by omega) (.int .i64 0)).far (p := ⟨p1, 6, none⟩) (show g5 + 1 ≠ p1 by omega) (.float .f64 xf)).far (p := ⟨p1, 7, none⟩) (show g5 + 1 ≠ p1 by omega) (.string ⟨#[]⟩)).far (p := ⟨p1, 8, none⟩) (show g5 + 1 ≠ p1 by omega) (.slice none 0 0)).far (p := ⟨p2, 4, none⟩) (show g5 + 1 ≠ p2 by omega) (.int .i64 2)).far (p := ⟨p2, 5, none⟩) (show g5 + 1 ≠ p2 by omega) (.int .i64 0)).far (p := ⟨p2, 6, none⟩) (show g5 + 1 ≠ p2 by omega) (.float .f64 yf)).far (p := ⟨p2, 7, none⟩) (show g5 + 1 ≠ p2 by omega) (.string ⟨#[]⟩)).far (p := ⟨p2, 8, none⟩) (show g5 + 1 ≠ p2 by omega) (.slice none 0 0))
      have hu9 : Upd (fun k => k = p1 ∨ k = p2) w6 ((((((((((w6.setCell ⟨p1, 4, none⟩ (.int .i64 2)).setCell ⟨p1, 5, none⟩ (.int .i64 0)).setCell ⟨p1, 6, none⟩ (.float .f64 xf)).setCell ⟨p1, 7, none⟩ (.string ⟨#[]⟩)).setCell ⟨p1, 8, none⟩ (.slice none 0 0)).setCell ⟨p2, 4, none⟩ (.int .i64 2)).setCell ⟨p2, 5, none⟩ (.int .i64 0)).setCell ⟨p2, 6, none⟩ (.float .f64 yf)).setCell ⟨p2, 7, none⟩ (.string ⟨#[]⟩)).setCell ⟨p2, 8, none⟩ (.slice none 0 0)) := (((((((((((Upd.refl (fun k => k = p1 ∨ k = p2) w6).setCell (p := ⟨p1, 4, none⟩) (fun _ => by show (p1 = p1 ∨ p1 = p2); omega) (.int .i64 2)).setCell (p := ⟨p1, 5, none⟩) (fun _ => by show (p1 = p1 ∨ p1 = p2); omega) (.int .i64 0)).setCell (p := ⟨p1, 6, none⟩) (fun _ => by show (p1 = p1 ∨ p1 = p2); omega) (.float .f64 xf)).setCell (p := ⟨p1, 7, none⟩) (fun _ => by show (p1 = p1 ∨ p1 = p2); omega) (.string ⟨#[]⟩)).setCell (p := ⟨p1, 8, none⟩) (fun _ => by show (p1 = p1 ∨ p1 = p2); omega) (.slice none 0 0)).setCell (p := ⟨p2, 4, none⟩) (fun _ => by show (p2 = p1 ∨ p2 = p2); omega) (.int .i64 2)).setCell (p := ⟨p2, 5, none⟩) (fun _ => by show (p2 = p1 ∨ p2 = p2); omega) (.int .i64 0)).setCell (p := ⟨p2, 6, none⟩) (fun _ => by show (p2 = p1 ∨ p2 = p2); omega) (.float .f64 yf)).setCell (p := ⟨p2, 7, none⟩) (fun _ => by show (p2 = p1 ∨ p2 = p2); omega) (.string ⟨#[]⟩)).setCell (p := ⟨p2, 8, none⟩) (fun _ => by show (p2 = p1 ∨ p2 = p2); omega) (.slice none 0 0))
      have hD : Below w4.heap.size w4 ((((((((((w6.setCell ⟨p1, 4, none⟩ (.int .i64 2)).setCell ⟨p1, 5, none⟩ (.int .i64 0)).setCell ⟨p1, 6, none⟩ (.float .f64 xf)).setCell ⟨p1, 7, none⟩ (.string ⟨#[]⟩)).setCell ⟨p1, 8, none⟩ (.slice none 0 0)).setCell ⟨p2, 4, none⟩ (.int .i64 2)).setCell ⟨p2, 5, none⟩ (.int .i64 0)).setCell ⟨p2, 6, none⟩ (.float .f64 yf)).setCell ⟨p2, 7, none⟩ (.string ⟨#[]⟩)).setCell ⟨p2, 8, none⟩ (.slice none 0 0)) := hbx.trans (hu9.below (B := w4.heap.size) hbx.size (fun k hk e => by omega))
      clear hc1 hc2 q4 q5 q6 q7 q8 r4 r5 r6 r7 r8 hu9 B1 B2 X1 X2 hbx
      generalize ((((((((((w6.setCell ⟨p1, 4, none⟩ (.int .i64 2)).setCell ⟨p1, 5, none⟩ (.int .i64 0)).setCell ⟨p1, 6, none⟩ (.float .f64 xf)).setCell ⟨p1, 7, none⟩ (.string ⟨#[]⟩)).setCell ⟨p1, 8, none⟩ (.slice none 0 0)).setCell ⟨p2, 4, none⟩ (.int .i64 2)).setCell ⟨p2, 5, none⟩ (.int .i64 0)).setCell ⟨p2, 6, none⟩ (.float .f64 yf)).setCell ⟨p2, 7, none⟩ (.string ⟨#[]⟩)).setCell ⟨p2, 8, none⟩ (.slice none 0 0)) = w0 at *
      have Sw0 : Blk w0.drew g5 32 #[.int .u32 c1, .int .u32 s1, .int .u16 n1, .int .i64 e1, .int .i64 k1, .int .i64 i1, .float .f64 f1, .string t1, .slice A1 m1 d1] ∧ Blk w0.drew (g5 + 1) 32 #[.int .u32 c3, .int .u32 s3, .int .u16 n3, .int .i64 e3, .int .i64 k3, .int .i64 i3, .float .f64 f3, .string t3, .slice A3 m3 d3] ∧ Blk w0.drew p1 32 #[.int .u32 c1, .int .u32 s1, .int .u16 n1, .int .i64 e1, .int .i64 2, .int .i64 0, .float .f64 xf, .string ⟨#[]⟩, .slice none 0 0] ∧ Blk w0.drew p2 32 #[.int .u32 c1, .int .u32 s1, .int .u16 n1, .int .i64 e1, .int .i64 2, .int .i64 0, .float .f64 yf, .string ⟨#[]⟩, .slice none 0 0] ∧ Below w4.heap.size w4 w0.drew := ⟨D1, D2, Y1, Y2, ⟨hD.os, hD.tape, hD.output, hD.size, hD.block⟩⟩
      clear D1 D2 Y1 Y2 hD
      obtain ⟨r, hr⟩ : ∃ r, alikeB c1 s1 n1 e1 c3 s3 n3 e3 (ordV v x) = r := ⟨_, rfl⟩
      have hcA : ∀ w2, Below w4.heap.size w4 w2 → Calls Try.prog 10 #[.agg #[.int .u32 c1, .int .u32 s1, .int .u16 n1, .int .i64 e1, .int .i64 k1, .int .i64 i1, .float .f64 f1, .string t1, .slice A1 m1 d1], .agg #[.int .u32 c3, .int .u32 s3, .int .u16 n3, .int .i64 e3, .int .i64 k3, .int .i64 i3, .float .f64 f3, .string t3, .slice A3 m3 d3]] w2 (Says w2 (.bool r)) := fun w2 hb2 => by
        rw [← hr]
        exact alike_val c1 s1 n1 e1 k1 i1 c3 s3 n3 e3 k3 i3 f1 f3 t1 t3 A1 A3 m1 d1 m3 d3 _ w2 (fun w3 hb3 => order_tree hv4 x _ w3 hx ho hxo (hb2.trans (hb3.mono hb2.size)) (Nat.le_trans hb2.size hb3.size))
      have hcR : ∀ w2, Below w4.heap.size w4 w2 → Calls Try.prog 11 #[.agg #[.int .u32 c1, .int .u32 s1, .int .u16 n1, .int .i64 e1, .int .i64 k1, .int .i64 i1, .float .f64 f1, .string t1, .slice A1 m1 d1], .agg #[.int .u32 c3, .int .u32 s3, .int .u16 n3, .int .i64 e3, .int .i64 k3, .int .i64 i3, .float .f64 f3, .string t3, .slice A3 m3 d3]] w2 (Says w2 (.bool r)) := fun w2 hb2 => by
        rw [← hr]
        exact ref_alike_val c1 s1 n1 e1 k1 i1 c3 s3 n3 e3 k3 i3 f1 f3 t1 t3 A1 A3 m1 d1 m3 d3 _ w2 (fun w3 hb3 => ref_order_tree hv4 x _ w3 hx ho hxo (hb2.trans (hb3.mono hb2.size)) (Nat.le_trans hb2.size hb3.size))
      have hcS : ∀ w2, Below w4.heap.size w4 w2 → Calls Try.prog 10 #[.agg #[.int .u32 c1, .int .u32 s1, .int .u16 n1, .int .i64 e1, .int .i64 k1, .int .i64 i1, .float .f64 f1, .string t1, .slice A1 m1 d1], .agg #[.int .u32 c1, .int .u32 s1, .int .u16 n1, .int .i64 e1, .int .i64 k1, .int .i64 i1, .float .f64 f1, .string t1, .slice A1 m1 d1]] w2 (Says w2 (.bool true)) := fun w2 hb2 => by
        have h := alike_val c1 s1 n1 e1 k1 i1 c1 s1 n1 e1 k1 i1 f1 f1 t1 t1 A1 A1 m1 d1 m1 d1 _ w2 (fun w3 hb3 => order_tree hv4 v _ w3 hv4 ho ho (hb2.trans (hb3.mono hb2.size)) (Nat.le_trans hb2.size hb3.size))
        rw [ordV_self] at h
        have e : alikeB c1 s1 n1 e1 c1 s1 n1 e1 0 = true := by unfold alikeB; simp
        rw [e] at h
        exact h
      obtain ⟨z, hz⟩ : ∃ z, decide (xf = yf) = z := ⟨_, rfl⟩
      have hcF : ∀ w2, Calls Try.prog 10 #[.agg #[.int .u32 c1, .int .u32 s1, .int .u16 n1, .int .i64 e1, .int .i64 2, .int .i64 0, .float .f64 xf, .string ⟨#[]⟩, .slice none 0 0], .agg #[.int .u32 c1, .int .u32 s1, .int .u16 n1, .int .i64 e1, .int .i64 2, .int .i64 0, .float .f64 yf, .string ⟨#[]⟩, .slice none 0 0]] w2 (Says w2 (.bool z)) := fun w2 => by
        have h := alike_val c1 s1 n1 e1 2 0 c1 s1 n1 e1 2 0 xf yf ⟨#[]⟩ ⟨#[]⟩ none none 0 0 0 0 _ w2 (fun w3 hb3 => order_val 2 0 2 0 xf yf ⟨#[]⟩ ⟨#[]⟩ none none 0 0 0 0 0 w3 hxl.out hyl.out (fun _ _ h4 => by rw [show kindOf 2 = 2 by decide] at h4; cases h4))
        have e : alikeB c1 s1 n1 e1 c1 s1 n1 e1 (ordC 2 0 2 0 xf yf ⟨#[]⟩ ⟨#[]⟩ 0) = z := by
          rw [← hz]
          unfold alikeB
          simp only [decide_true, Bool.true_and]
          exact decide_eq_decide.2 hzz.out
        rw [e] at h
        exact h
      have hzi : ((xf : Int) == (yf : Int)) = z := by
        rw [← hz]
        by_cases h : xf = yf
        · simp [h]
        · have h' : ¬ (xf : Int) = (yf : Int) := by omega
          rw [decide_eq_false h, beq_eq_false_iff_ne.2 h']
      clear hv hu hv4 hx ho hu2 hxo hz hr hzz hxl hyl hf hg hxf hyf hne hne' hp1 hp2
      replace hcA := Lib.hid hcA
      replace hcR := Lib.hid hcR
      replace hcS := Lib.hid hcS
      replace hcF := Lib.hid hcF
      refine wp_region_lex (fun W => Blk W g5 32 #[.int .u32 c1, .int .u32 s1, .int .u16 n1, .int .i64 e1, .int .i64 k1, .int .i64 i1, .float .f64 f1, .string t1, .slice A1 m1 d1] ∧ Blk W (g5 + 1) 32 #[.int .u32 c3, .int .u32 s3, .int .u16 n3, .int .i64 e3, .int .i64 k3, .int .i64 i3, .float .f64 f3, .string t3, .slice A3 m3 d3] ∧ Blk W p1 32 #[.int .u32 c1, .int .u32 s1, .int .u16 n1, .int .i64 e1, .int .i64 2, .int .i64 0, .float .f64 xf, .string ⟨#[]⟩, .slice none 0 0] ∧ Blk W p2 32 #[.int .u32 c1, .int .u32 s1, .int .u16 n1, .int .i64 e1, .int .i64 2, .int .i64 0, .float .f64 yf, .string ⟨#[]⟩, .slice none 0 0] ∧ Below w4.heap.size w4 W) [0, 1, 3, 4, 8, 9, 13, 14] [2, 5, 10, 15, 17, 19] [0, 1, 3, 4, 2, 5, 6, 7, 8, 9, 10, 11, 12, 13, 14, 16, 18, 15, 17, 19, 20, 21, 22, 23] (by kernel_rfl) rfl (by kernel_rfl) (by kernel_rfl) (fun _ _ d _ _ h => by cases d <;> exact h) ?_
      repeat (first | (refine lexG_take _ ?_ rfl rfl rfl rfl (fun _ => ?_) ?_; rotate_left; (focus (go_simp; with_reducible rfl)); try simp only [Act.put, List.setIfInBounds_toArray, List.set_cons_zero, List.set_cons_succ]) | (refine lexG_held _ ?_ rfl rfl rfl rfl (by assumption) (fun _ hSw => ?_) ?_; rotate_left; (focus (have h1 := Blk.cells9 hSw.1; have h2 := Blk.cells9 hSw.2.1; have h3 := Blk.cells9 hSw.2.2.1; have h4 := Blk.cells9 hSw.2.2.2.1; clear hSw; go_simp; with_reducible rfl)); try simp only [Act.put, List.setIfInBounds_toArray, List.set_cons_zero, List.set_cons_succ]) | (refine lexG_skip _ rfl rfl (by assumption) ?_; try simp only [Act.put, List.setIfInBounds_toArray, List.set_cons_zero, List.set_cons_succ]))
      refine lexG_now _ rfl rfl rfl (fun K hK => ?_)
      go_wp2_with fail
      refine (hcA.out _ Sw0.2.2.2.2).mono ?_
      rintro e w12 ⟨rfl, hbn⟩
      dsimp only
      have Sw12 : Blk w12 g5 32 #[.int .u32 c1, .int .u32 s1, .int .u16 n1, .int .i64 e1, .int .i64 k1, .int .i64 i1, .float .f64 f1, .string t1, .slice A1 m1 d1] ∧ Blk w12 (g5 + 1) 32 #[.int .u32 c3, .int .u32 s3, .int .u16 n3, .int .i64 e3, .int .i64 k3, .int .i64 i3, .float .f64 f3, .string t3, .slice A3 m3 d3] ∧ Blk w12 p1 32 #[.int .u32 c1, .int .u32 s1, .int .u16 n1, .int .i64 e1, .int .i64 2, .int .i64 0, .float .f64 xf, .string ⟨#[]⟩, .slice none 0 0] ∧ Blk w12 p2 32 #[.int .u32 c1, .int .u32 s1, .int .u16 n1, .int .i64 e1, .int .i64 2, .int .i64 0, .float .f64 yf, .string ⟨#[]⟩, .slice none 0 0] ∧ Below w4.heap.size w4 w12 := ⟨Sw0.1.below hbn Sw0.1.lt, Sw0.2.1.below hbn Sw0.2.1.lt, Sw0.2.2.1.below hbn Sw0.2.2.1.lt, Sw0.2.2.2.1.below hbn Sw0.2.2.2.1.lt, below_then hbn Sw0.2.2.2.2⟩
      refine hK _ _ _ (fun _ h => h) Sw12 ?_
      clear hK K hbn
      try simp only [Act.put, List.setIfInBounds_toArray, List.set_cons_zero, List.set_cons_succ]
      repeat (first | (refine lexG_take _ ?_ rfl rfl rfl rfl (fun _ => ?_) ?_; rotate_left; (focus (go_simp; with_reducible rfl)); try simp only [Act.put, List.setIfInBounds_toArray, List.set_cons_zero, List.set_cons_succ]) | (refine lexG_held _ ?_ rfl rfl rfl rfl (by assumption) (fun _ hSw => ?_) ?_; rotate_left; (focus (have h1 := Blk.cells9 hSw.1; have h2 := Blk.cells9 hSw.2.1; have h3 := Blk.cells9 hSw.2.2.1; have h4 := Blk.cells9 hSw.2.2.2.1; clear hSw; go_simp; with_reducible rfl)); try simp only [Act.put, List.setIfInBounds_toArray, List.set_cons_zero, List.set_cons_succ]) | (refine lexG_skip _ rfl rfl (by assumption) ?_; try simp only [Act.put, List.setIfInBounds_toArray, List.set_cons_zero, List.set_cons_succ]))
      refine lexG_now _ rfl rfl rfl (fun K hK => ?_)
      go_wp2_with fail
      refine (hcR.out _ Sw12.2.2.2.2).mono ?_
      rintro e w13 ⟨rfl, hbn⟩
      dsimp only
      have Sw13 : Blk w13 g5 32 #[.int .u32 c1, .int .u32 s1, .int .u16 n1, .int .i64 e1, .int .i64 k1, .int .i64 i1, .float .f64 f1, .string t1, .slice A1 m1 d1] ∧ Blk w13 (g5 + 1) 32 #[.int .u32 c3, .int .u32 s3, .int .u16 n3, .int .i64 e3, .int .i64 k3, .int .i64 i3, .float .f64 f3, .string t3, .slice A3 m3 d3] ∧ Blk w13 p1 32 #[.int .u32 c1, .int .u32 s1, .int .u16 n1, .int .i64 e1, .int .i64 2, .int .i64 0, .float .f64 xf, .string ⟨#[]⟩, .slice none 0 0] ∧ Blk w13 p2 32 #[.int .u32 c1, .int .u32 s1, .int .u16 n1, .int .i64 e1, .int .i64 2, .int .i64 0, .float .f64 yf, .string ⟨#[]⟩, .slice none 0 0] ∧ Below w4.heap.size w4 w13 := ⟨Sw12.1.below hbn Sw12.1.lt, Sw12.2.1.below hbn Sw12.2.1.lt, Sw12.2.2.1.below hbn Sw12.2.2.1.lt, Sw12.2.2.2.1.below hbn Sw12.2.2.2.1.lt, below_then hbn Sw12.2.2.2.2⟩
      refine hK _ _ _ (fun _ h => h) Sw13 ?_
      clear hK K hbn
      try simp only [Act.put, List.setIfInBounds_toArray, List.set_cons_zero, List.set_cons_succ]
      repeat (first | (refine lexG_take _ ?_ rfl rfl rfl rfl (fun _ => ?_) ?_; rotate_left; (focus (go_simp; with_reducible rfl)); try simp only [Act.put, List.setIfInBounds_toArray, List.set_cons_zero, List.set_cons_succ]) | (refine lexG_held _ ?_ rfl rfl rfl rfl (by assumption) (fun _ hSw => ?_) ?_; rotate_left; (focus (have h1 := Blk.cells9 hSw.1; have h2 := Blk.cells9 hSw.2.1; have h3 := Blk.cells9 hSw.2.2.1; have h4 := Blk.cells9 hSw.2.2.2.1; clear hSw; go_simp; with_reducible rfl)); try simp only [Act.put, List.setIfInBounds_toArray, List.set_cons_zero, List.set_cons_succ]) | (refine lexG_skip _ rfl rfl (by assumption) ?_; try simp only [Act.put, List.setIfInBounds_toArray, List.set_cons_zero, List.set_cons_succ]))
      refine lexG_now _ rfl rfl rfl (fun K hK => ?_)
      go_wp2_with fail
      refine (hcS.out _ Sw13.2.2.2.2).mono ?_
      rintro e w14 ⟨rfl, hbn⟩
      dsimp only
      have Sw14 : Blk w14 g5 32 #[.int .u32 c1, .int .u32 s1, .int .u16 n1, .int .i64 e1, .int .i64 k1, .int .i64 i1, .float .f64 f1, .string t1, .slice A1 m1 d1] ∧ Blk w14 (g5 + 1) 32 #[.int .u32 c3, .int .u32 s3, .int .u16 n3, .int .i64 e3, .int .i64 k3, .int .i64 i3, .float .f64 f3, .string t3, .slice A3 m3 d3] ∧ Blk w14 p1 32 #[.int .u32 c1, .int .u32 s1, .int .u16 n1, .int .i64 e1, .int .i64 2, .int .i64 0, .float .f64 xf, .string ⟨#[]⟩, .slice none 0 0] ∧ Blk w14 p2 32 #[.int .u32 c1, .int .u32 s1, .int .u16 n1, .int .i64 e1, .int .i64 2, .int .i64 0, .float .f64 yf, .string ⟨#[]⟩, .slice none 0 0] ∧ Below w4.heap.size w4 w14 := ⟨Sw13.1.below hbn Sw13.1.lt, Sw13.2.1.below hbn Sw13.2.1.lt, Sw13.2.2.1.below hbn Sw13.2.2.1.lt, Sw13.2.2.2.1.below hbn Sw13.2.2.2.1.lt, below_then hbn Sw13.2.2.2.2⟩
      refine hK _ _ _ (fun _ h => h) Sw14 ?_
      clear hK K hbn
      try simp only [Act.put, List.setIfInBounds_toArray, List.set_cons_zero, List.set_cons_succ]
      repeat (first | (refine lexG_take _ ?_ rfl rfl rfl rfl (fun _ => ?_) ?_; rotate_left; (focus (go_simp; with_reducible rfl)); try simp only [Act.put, List.setIfInBounds_toArray, List.set_cons_zero, List.set_cons_succ]) | (refine lexG_held _ ?_ rfl rfl rfl rfl (by assumption) (fun _ hSw => ?_) ?_; rotate_left; (focus (have h1 := Blk.cells9 hSw.1; have h2 := Blk.cells9 hSw.2.1; have h3 := Blk.cells9 hSw.2.2.1; have h4 := Blk.cells9 hSw.2.2.2.1; clear hSw; go_simp; with_reducible rfl)); try simp only [Act.put, List.setIfInBounds_toArray, List.set_cons_zero, List.set_cons_succ]) | (refine lexG_skip _ rfl rfl (by assumption) ?_; try simp only [Act.put, List.setIfInBounds_toArray, List.set_cons_zero, List.set_cons_succ]))
      refine lexG_now _ rfl rfl rfl (fun K hK => ?_)
      go_wp2_with fail
      refine (hcF.out _).mono ?_
      rintro e w15 ⟨rfl, hbn⟩
      dsimp only
      have Sw15 : Blk w15 g5 32 #[.int .u32 c1, .int .u32 s1, .int .u16 n1, .int .i64 e1, .int .i64 k1, .int .i64 i1, .float .f64 f1, .string t1, .slice A1 m1 d1] ∧ Blk w15 (g5 + 1) 32 #[.int .u32 c3, .int .u32 s3, .int .u16 n3, .int .i64 e3, .int .i64 k3, .int .i64 i3, .float .f64 f3, .string t3, .slice A3 m3 d3] ∧ Blk w15 p1 32 #[.int .u32 c1, .int .u32 s1, .int .u16 n1, .int .i64 e1, .int .i64 2, .int .i64 0, .float .f64 xf, .string ⟨#[]⟩, .slice none 0 0] ∧ Blk w15 p2 32 #[.int .u32 c1, .int .u32 s1, .int .u16 n1, .int .i64 e1, .int .i64 2, .int .i64 0, .float .f64 yf, .string ⟨#[]⟩, .slice none 0 0] ∧ Below w4.heap.size w4 w15 := ⟨Sw14.1.below hbn Sw14.1.lt, Sw14.2.1.below hbn Sw14.2.1.lt, Sw14.2.2.1.below hbn Sw14.2.2.1.lt, Sw14.2.2.2.1.below hbn Sw14.2.2.2.1.lt, below_then hbn Sw14.2.2.2.2⟩
      refine hK _ _ _ (fun _ h => h) Sw15 ?_
      clear hK K hbn
      try simp only [Act.put, List.setIfInBounds_toArray, List.set_cons_zero, List.set_cons_succ]
      repeat (first | (refine lexG_take _ ?_ rfl rfl rfl rfl (fun _ => ?_) ?_; rotate_left; (focus (go_simp; with_reducible rfl)); try simp only [Act.put, List.setIfInBounds_toArray, List.set_cons_zero, List.set_cons_succ]) | (refine lexG_held _ ?_ rfl rfl rfl rfl (by assumption) (fun _ hSw => ?_) ?_; rotate_left; (focus (have h1 := Blk.cells9 hSw.1; have h2 := Blk.cells9 hSw.2.1; have h3 := Blk.cells9 hSw.2.2.1; have h4 := Blk.cells9 hSw.2.2.2.1; clear hSw; go_simp; with_reducible rfl)); try simp only [Act.put, List.setIfInBounds_toArray, List.set_cons_zero, List.set_cons_succ]) | (refine lexG_skip _ rfl rfl (by assumption) ?_; try simp only [Act.put, List.setIfInBounds_toArray, List.set_cons_zero, List.set_cons_succ]))
      refine lexG_now _ rfl rfl rfl (fun K hK => ?_)
      go_wp2_with fail
      refine (hbf _).mono ?_
      rintro e w16 ⟨rfl, rfl⟩
      dsimp only
      refine hK _ _ _ (fun _ h => h) Sw15 ?_
      clear hK K
      try simp only [Act.put, List.setIfInBounds_toArray, List.set_cons_zero, List.set_cons_succ]
      repeat (first | (refine lexG_take _ ?_ rfl rfl rfl rfl (fun _ => ?_) ?_; rotate_left; (focus (go_simp; with_reducible rfl)); try simp only [Act.put, List.setIfInBounds_toArray, List.set_cons_zero, List.set_cons_succ]) | (refine lexG_held _ ?_ rfl rfl rfl rfl (by assumption) (fun _ hSw => ?_) ?_; rotate_left; (focus (have h1 := Blk.cells9 hSw.1; have h2 := Blk.cells9 hSw.2.1; have h3 := Blk.cells9 hSw.2.2.1; have h4 := Blk.cells9 hSw.2.2.2.1; clear hSw; go_simp; with_reducible rfl)); try simp only [Act.put, List.setIfInBounds_toArray, List.set_cons_zero, List.set_cons_succ]) | (refine lexG_skip _ rfl rfl (by assumption) ?_; try simp only [Act.put, List.setIfInBounds_toArray, List.set_cons_zero, List.set_cons_succ]))
      refine lexG_now _ rfl rfl rfl (fun K hK => ?_)
      go_wp2_with fail
      refine (hbg _).mono ?_
      rintro e w16 ⟨rfl, rfl⟩
      dsimp only
      refine hK _ _ _ (fun _ h => h) Sw15 ?_
      clear hK K
      try simp only [Act.put, List.setIfInBounds_toArray, List.set_cons_zero, List.set_cons_succ]
      repeat (first | (refine lexG_take _ ?_ rfl rfl rfl rfl (fun _ => ?_) ?_; rotate_left; (focus (go_simp; with_reducible rfl)); try simp only [Act.put, List.setIfInBounds_toArray, List.set_cons_zero, List.set_cons_succ]) | (refine lexG_held _ ?_ rfl rfl rfl rfl (by assumption) (fun _ hSw => ?_) ?_; rotate_left; (focus (have h1 := Blk.cells9 hSw.1; have h2 := Blk.cells9 hSw.2.1; have h3 := Blk.cells9 hSw.2.2.1; have h4 := Blk.cells9 hSw.2.2.2.1; clear hSw; go_simp; with_reducible rfl)); try simp only [Act.put, List.setIfInBounds_toArray, List.set_cons_zero, List.set_cons_succ]) | (refine lexG_skip _ rfl rfl (by assumption) ?_; try simp only [Act.put, List.setIfInBounds_toArray, List.set_cons_zero, List.set_cons_succ]))
      refine lexG_nil ?_
      have hfin : Below w.heap.size w w15 := hB.trans (Sw15.2.2.2.2.mono hB.size)
      go_wp2_with fail
      go_ret
      exact ⟨by simp, hfin⟩
end Go.Proofs.Ytiajbcfelhlapaa
