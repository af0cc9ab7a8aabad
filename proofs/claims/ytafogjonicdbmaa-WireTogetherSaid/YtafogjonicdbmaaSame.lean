/- choirhelp.Same: two values that are the same tree are the same. -/
import Derived.Test.YtafogjonicdbmaaClean
import Derived.BigQuiet
namespace Go.Proofs.Ytafogjonicdbmaa
open Go.RowKit

theorem ref_bits' (x : Nat) (w : World) : Calls Try.prog 37 #[.float .f64 x] w fun e w' => e = .returned (.int .u64 (cb x : Int)) ∧ w' = w :=
  (ref_bits x w).mono fun _ _ ⟨h1, h2⟩ => ⟨h1, h2.symm⟩

theorem cell_keep {w w' : World} {p : Addr} {u : Value} (hb : Below w.heap.size w w') (h : w.cell? p = some u) : w'.cell? p = some u := (hb.cell (World.block_lt_of_cell? w p h)).trans h

set_option maxHeartbeats 3200000 in
theorem same_true {w : World} {B : Nat} {v : Val} {cs : Array Value} (h : VReads w B v cs) : ∀ (cs' : Array Value) (w1 : World), VReads w B v cs' → Below B w w1 → B ≤ w1.heap.size → Calls Try.prog 15 #[.agg cs, .agg cs'] w1 (Says w1 (.bool true)) := by
  induction h with
  | @mk k i f s l A c xs css hn hr hx hxs ih =>
    intro cs' w1 h' hb1 hB1
    obtain ⟨css', hn', hr', hx', hxs'⟩ := h'
    rename_i A' c' xs'
    have hS := SV.alloc w1 (Below.refl _ _) k i f (bstr s) A l.length c
    have hfin := (Below.refl w1.heap.size w1).alloc (Nat.le_refl _) (.cells #[.int .i64 k, .int .i64 i, .float .f64 f, .string (bstr s), .slice A l.length c] 26)
    have hS' := SV.alloc (w0 := w1) (w1.alloc (.cells #[.int .i64 k, .int .i64 i, .float .f64 f, .string (bstr s), .slice A l.length c] 26)) hfin k i f (bstr s) A' l.length c'
    have hfin2 := hfin.alloc hfin.size (.cells #[.int .i64 k, .int .i64 i, .float .f64 f, .string (bstr s), .slice A' l.length c'] 26)
    have hsz : (w1.alloc (.cells #[.int .i64 k, .int .i64 i, .float .f64 f, .string (bstr s), .slice A l.length c] 26)).heap.size = w1.heap.size + 1 := by simp
    rw [hsz] at hS'
    have hS2 := hS.below ((Below.refl _ _).alloc (Nat.le_refl _) (.cells #[.int .i64 k, .int .i64 i, .float .f64 f, .string (bstr s), .slice A' l.length c'] 26))
    have hb2 := hb1.trans (hfin2.mono hB1)
    have hB2 := Nat.le_trans hB1 hfin2.size
    replace ih := Lib.hid ih
    have k0 : (k != k) = false := by simp
    have i0 : (i != i) = false := by simp
    have s0 : decide (bstr s = bstr s) = true := decide_eq_true rfl
    obtain ⟨y, hy⟩ : ∃ y, cb f = y := ⟨_, rfl⟩
    have hbit := fun w => ref_bits' f w
    rw [hy] at hbit
    have y0 : ((y : Int) != (y : Int)) = false := by simp
    have l0 : ((l.length : Int) != (l.length : Int)) = false := by simp
    generalize bstr s = sb at *
    clear hS hfin hy
    go_enter Try.func15, Try.ntmps15
    go_wp2_with fail
    generalize (w1.alloc (.cells #[.int .i64 k, .int .i64 i, .float .f64 f, .string sb, .slice A l.length c] 26)).alloc (.cells #[.int .i64 k, .int .i64 i, .float .f64 f, .string sb, .slice A' l.length c'] 26) = w2 at *
    have hSS := Lib.hid hS2
    have hSS' := Lib.hid hS'
    obtain ⟨e0, e1, e2, e3, e4, -, -⟩ := hS2
    obtain ⟨f0, f1, f2, f3, f4, -, -⟩ := hS'
    go_quiet (refine (hbit _).mono (fun e w'' hh => ⟨hh.1, _, hh.2⟩))
    clear e0 e1 e2 e3 e4 f0 f1 f2 f3 f4 hbit k0 i0 s0 y0 l0
    go_wp2_with fail
    have hbq : ∀ n, Below w2.heap.size w2 (w2.drewN n) := fun n => below_drewN (Below.refl _ _) n
    go_loopw [5] (fun i wr => ∃ j : Nat, j ≤ l.length ∧ i = .int .i64 (j : Int) ∧ Below w2.heap.size w2 wr) (fun i _ => l.length - (intOf i).toNat)
    case atStart => exact ⟨0, Nat.zero_le _, rfl, hbq _⟩
    case round =>
      rename_i hrel
      obtain ⟨j, hj, rfl, hb⟩ := hrel
      obtain ⟨-, -, -, -, e4, -, -⟩ := hSS.out.below hb
      obtain ⟨-, -, -, -, f4, -, -⟩ := hSS'.out.below hb
      by_cases hlt : j < l.length
      · have hbb : Below B w wr := hb2.trans (hb.mono hB2)
        obtain ⟨ad, k1, i1, f1, s1, A1, n1, c1, rfl, hform, hgk, g0, g1, g2, g3, g4⟩ := kid hr hx hxs hbb hlt
        obtain ⟨ad', k2, i2, f2, s2, A2, n2, c2, rfl, hform', -, d0, d1, d2, d3, d4⟩ := kid hr' hx' hxs' hbb hlt
        have hcl := fun w4 (hb4 : Below w2.heap.size w2 w4) => ih.out j l[j] hgk (css' j) w4 (hx' j l[j] hgk) (hb2.trans (hb4.mono hB2)) (Nat.le_trans hB2 hb4.size)
        rw [hform, hform'] at hcl
        replace hcl := Lib.hid hcl
        clear hform hform' hgk hbb
        have hS3 : (wr.drew.cell? ⟨w1.heap.size, 4, none⟩ = some (.slice (some ad) l.length c) ∧ wr.drew.cell? ⟨w1.heap.size + 1, 4, none⟩ = some (.slice (some ad') l.length c')) ∧ (wr.drew.cell? (ad.add (j * 5)) = some (.int .i64 k1) ∧ wr.drew.cell? ⟨(ad.add (j * 5)).block, (ad.add (j * 5)).off + 1, none⟩ = some (.int .i64 i1) ∧ wr.drew.cell? ⟨(ad.add (j * 5)).block, (ad.add (j * 5)).off + 2, none⟩ = some (.float .f64 f1) ∧ wr.drew.cell? ⟨(ad.add (j * 5)).block, (ad.add (j * 5)).off + 3, none⟩ = some (.string s1) ∧ wr.drew.cell? ⟨(ad.add (j * 5)).block, (ad.add (j * 5)).off + 4, none⟩ = some (.slice A1 n1 c1)) ∧ (wr.drew.cell? (ad'.add (j * 5)) = some (.int .i64 k2) ∧ wr.drew.cell? ⟨(ad'.add (j * 5)).block, (ad'.add (j * 5)).off + 1, none⟩ = some (.int .i64 i2) ∧ wr.drew.cell? ⟨(ad'.add (j * 5)).block, (ad'.add (j * 5)).off + 2, none⟩ = some (.float .f64 f2) ∧ wr.drew.cell? ⟨(ad'.add (j * 5)).block, (ad'.add (j * 5)).off + 3, none⟩ = some (.string s2) ∧ wr.drew.cell? ⟨(ad'.add (j * 5)).block, (ad'.add (j * 5)).off + 4, none⟩ = some (.slice A2 n2 c2)) ∧ Below w2.heap.size w2 wr.drew := ⟨⟨e4, f4⟩, ⟨g0, g1, g2, g3, g4⟩, ⟨d0, d1, d2, d3, d4⟩, hb.drew⟩
        go_wp2_with fail
        clear e4 f4 g0 g1 g2 g3 g4 d0 d1 d2 d3 d4
        refine wp_region_lex (fun W => (W.cell? ⟨w1.heap.size, 4, none⟩ = some (.slice (some ad) l.length c) ∧ W.cell? ⟨w1.heap.size + 1, 4, none⟩ = some (.slice (some ad') l.length c')) ∧ (W.cell? (ad.add (j * 5)) = some (.int .i64 k1) ∧ W.cell? ⟨(ad.add (j * 5)).block, (ad.add (j * 5)).off + 1, none⟩ = some (.int .i64 i1) ∧ W.cell? ⟨(ad.add (j * 5)).block, (ad.add (j * 5)).off + 2, none⟩ = some (.float .f64 f1) ∧ W.cell? ⟨(ad.add (j * 5)).block, (ad.add (j * 5)).off + 3, none⟩ = some (.string s1) ∧ W.cell? ⟨(ad.add (j * 5)).block, (ad.add (j * 5)).off + 4, none⟩ = some (.slice A1 n1 c1)) ∧ (W.cell? (ad'.add (j * 5)) = some (.int .i64 k2) ∧ W.cell? ⟨(ad'.add (j * 5)).block, (ad'.add (j * 5)).off + 1, none⟩ = some (.int .i64 i2) ∧ W.cell? ⟨(ad'.add (j * 5)).block, (ad'.add (j * 5)).off + 2, none⟩ = some (.float .f64 f2) ∧ W.cell? ⟨(ad'.add (j * 5)).block, (ad'.add (j * 5)).off + 3, none⟩ = some (.string s2) ∧ W.cell? ⟨(ad'.add (j * 5)).block, (ad'.add (j * 5)).off + 4, none⟩ = some (.slice A2 n2 c2)) ∧ Below w2.heap.size w2 W) [1, 4, 6, 9] [10] [0, 1, 2, 3, 4, 5, 6, 7, 8, 9, 10, 11] (by kernel_rfl) rfl (by kernel_rfl) (by kernel_rfl) (fun _ _ d _ _ h => by cases d <;> exact h) ?_
        repeat (first | (refine lexG_take _ ?_ rfl rfl rfl rfl (fun _ => ?_) ?_; rotate_left; (focus (go_simp; with_reducible rfl)); try simp only [Act.put, List.setIfInBounds_toArray, List.set_cons_zero, List.set_cons_succ]) | (refine lexG_held _ ?_ rfl rfl rfl rfl (by assumption) (fun _ hSw => ?_) ?_; rotate_left; (focus ((try dsimp only at hSw); go_simp; with_reducible rfl)); try simp only [Act.put, List.setIfInBounds_toArray, List.set_cons_zero, List.set_cons_succ]) | (refine lexG_skip _ rfl rfl (by assumption) ?_; try simp only [Act.put, List.setIfInBounds_toArray, List.set_cons_zero, List.set_cons_succ]))
        refine lexG_now _ rfl rfl rfl (fun K hK => ?_)
        go_wp2_with fail
        refine (hcl.out wr.drew hS3.2.2.2).mono ?_
        rintro e w4 ⟨rfl, hb4⟩
        dsimp only
        have hb4' := below_then hb4 hS3.2.2.2
        obtain ⟨⟨e4, f4⟩, ⟨g0, g1, g2, g3, g4⟩, ⟨d0, d1, d2, d3, d4⟩, -⟩ := hS3
        refine hK _ _ _ (fun _ h => h) ⟨⟨cell_keep hb4 e4, cell_keep hb4 f4⟩, ⟨cell_keep hb4 g0, cell_keep hb4 g1, cell_keep hb4 g2, cell_keep hb4 g3, cell_keep hb4 g4⟩, ⟨cell_keep hb4 d0, cell_keep hb4 d1, cell_keep hb4 d2, cell_keep hb4 d3, cell_keep hb4 d4⟩, hb4'⟩ ?_
        clear hK K e4 f4 g0 g1 g2 g3 g4 d0 d1 d2 d3 d4 hb4
        try simp only [Act.put, List.setIfInBounds_toArray, List.set_cons_zero, List.set_cons_succ]
        repeat (first | (refine lexG_take _ ?_ rfl rfl rfl rfl (fun _ => ?_) ?_; rotate_left; (focus (go_simp; with_reducible rfl)); try simp only [Act.put, List.setIfInBounds_toArray, List.set_cons_zero, List.set_cons_succ]) | (refine lexG_held _ ?_ rfl rfl rfl rfl (by assumption) (fun _ hSw => ?_) ?_; rotate_left; (focus ((try dsimp only at hSw); go_simp; with_reducible rfl)); try simp only [Act.put, List.setIfInBounds_toArray, List.set_cons_zero, List.set_cons_succ]) | (refine lexG_skip _ rfl rfl (by assumption) ?_; try simp only [Act.put, List.setIfInBounds_toArray, List.set_cons_zero, List.set_cons_succ]))
        refine lexG_nil ?_
        go_wp2_with fail
        go_roundw
        case rel => exact ⟨j + 1, by omega, by simp, by assumption⟩
        case measure => simp [intOf]; omega
      · have hj' : j = l.length := by omega
        subst hj'
        go_wp2_with fail
        go_ret
        exact ⟨rfl, below_then hb hfin2⟩
end Go.Proofs.Ytafogjonicdbmaa
