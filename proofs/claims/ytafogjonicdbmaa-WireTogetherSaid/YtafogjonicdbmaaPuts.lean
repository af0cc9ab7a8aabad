/- wire.Put, choirref3.Put at any value. -/
import Derived.Test.YtafogjonicdbmaaRefPutL
namespace Go.Proofs.Ytafogjonicdbmaa
open Go.RowKit

def PutOk (w : World) (r : List UInt8) (e : Ending) (w' : World) : Prop := ∃ A2 c2, e = .returned (.tuple #[.slice A2 r.length c2, .int .i64 0]) ∧ Own w' 5 1 A2 r.length c2 (bys r) ∧ Below w.heap.size w w' ∧ ∀ g, bOf A2 = some g → w.heap.size ≤ g
def PutNo (w : World) (x : Nat) (e : Ending) (w' : World) : Prop := e = .returned (.tuple #[.slice none 0 0, .int .i64 (x : Int)]) ∧ Below w.heap.size w w'

theorem wire_put_ok {w w1 : World} {B B' : Nat} {v : Val} {cs : Array Value} {A : Option Addr} {c : Nat} {bs : List UInt8} (h : VReads w B v cs) (hok : OkV v) (hc : checkV v = 0) (hb1 : Below B w w1) (hB1 : B ≤ w1.heap.size) (hA : Reads w1 B' 1 A bs.length (bys bs)) (hB' : B' ≤ w1.heap.size) (hl : bs.length ≤ 10000000) :
    Calls Try.prog 11 #[.slice A bs.length c, .agg cs] w1 (PutOk w1 (bs ++ encV v)) := by
  obtain ⟨hst, hg, hz⟩ : strangeV v = false ∧ greatV v 8 = false ∧ sizeV v ≤ 4096 := by
    rcases checkV_cases v with ⟨_, e⟩ | ⟨_, _, e⟩ | ⟨_, _, _, e⟩ | ⟨h1, h2, h3, _⟩
    · omega
    · omega
    · omega
    · exact ⟨h1, h2, h3⟩
  have hchk := fun w2 (hb : Below w1.heap.size w1 w2) => val_check_any h w2 (hb1.trans (hb.mono hB1)) (Nat.le_trans hB1 hb.size)
  rw [hc] at hchk
  have hput := fun w2 A1 c1 (hb : Below w1.heap.size w1 w2) (ho : Own w2 5 1 A1 bs.length c1 (bys bs)) (hg1 : ∀ g, bOf A1 = some g → w1.heap.size ≤ g) =>
    put_tree h 8 hok hst hg w2 A1 c1 bs (hb1.trans (hb.mono hB1)) (Nat.le_trans hB1 hb.size) ho (fun g e => Nat.le_trans hB1 (hg1 g e)) (by omega)
  obtain ⟨r, hr⟩ : ∃ r, bs ++ encV v = r := ⟨_, rfl⟩
  rw [hr] at hput ⊢
  obtain ⟨k, i, f, s, A', n, c', hform⟩ := h.form
  rw [hform] at hchk hput ⊢
  replace hchk := Lib.hid hchk
  replace hput := Lib.hid hput
  have hS := SV.alloc w1 (Below.refl _ _) k i f s A' n c'
  clear h hok hc hst hg hz hr hform hb1 hB1
  go_enter Try.func11, Try.ntmps11
  go_wp2_with fail
  have hr1 := hA.alloc hB' (.cells #[.int .i64 k, .int .i64 i, .float .f64 f, .string s, .slice A' n c'] 26)
  generalize w1.alloc (.cells #[.int .i64 k, .int .i64 i, .float .f64 f, .string s, .slice A' n c'] 26) = w0 at hS hr1 ⊢
  obtain ⟨b, hb⟩ : ∃ b, w1.heap.size = b := ⟨_, rfl⟩
  rw [hb] at hS hB' ⊢
  replace hb := Lib.hid hb
  refine (hchk.out w0 hS.2.2.2.2.2.1).mono ?_
  rintro e w2 ⟨rfl, hb2⟩
  dsimp only
  have hS2 := hS.below hb2
  have hb1s := hS.2.2.2.2.2.2
  have hr2 := hr1.below (hb2.mono (by omega))
  clear hS hr1
  have hS3 : w2.drew.cell? ⟨b, 0, none⟩ = some (.int .i64 k) ∧ w2.drew.cell? ⟨b, 1, none⟩ = some (.int .i64 i) ∧ w2.drew.cell? ⟨b, 2, none⟩ = some (.float .f64 f) ∧ w2.drew.cell? ⟨b, 3, none⟩ = some (.string s) ∧ w2.drew.cell? ⟨b, 4, none⟩ = some (.slice A' n c') ∧ Below w1.heap.size w1 w2.drew ∧ b < w2.drew.heap.size := hS2.drew
  clear hS2
  go_wp2_with fail
  refine wp_region_lex (fun W => W.cell? ⟨b, 0, none⟩ = some (.int .i64 k) ∧ W.cell? ⟨b, 1, none⟩ = some (.int .i64 i) ∧ W.cell? ⟨b, 2, none⟩ = some (.float .f64 f) ∧ W.cell? ⟨b, 3, none⟩ = some (.string s) ∧ W.cell? ⟨b, 4, none⟩ = some (.slice A' n c') ∧ Below w1.heap.size w1 W ∧ b < W.heap.size) [2] [1, 3] [0, 2, 1, 3, 4, 5] (by kernel_rfl) rfl (by kernel_rfl) (by kernel_rfl) (fun _ _ d _ _ h => by cases d <;> exact h) ?_
  repeat (first | (refine lexG_take _ ?_ rfl rfl rfl rfl (fun _ => ?_) ?_; rotate_left; (focus (go_simp; with_reducible rfl)); try simp only [Act.put, List.setIfInBounds_toArray, List.set_cons_zero, List.set_cons_succ]) | (refine lexG_held _ ?_ rfl rfl rfl rfl (by assumption) (fun _ hSw => ?_) ?_; rotate_left; (focus ((try dsimp only at hSw); go_simp; with_reducible rfl)); try simp only [Act.put, List.setIfInBounds_toArray, List.set_cons_zero, List.set_cons_succ]) | (refine lexG_skip _ rfl rfl (by assumption) ?_; try simp only [Act.put, List.setIfInBounds_toArray, List.set_cons_zero, List.set_cons_succ]))
  refine lexG_now _ rfl rfl rfl (fun K hK => ?_)
  go_wp2_with fail
  refine (clone_bytes (B := B') (hr2.drew) (by have := hS3.2.2.2.2.2.2; omega) (by omega)).mono ?_
  rintro e w3 ⟨A3, c3, rfl, ho3, hb3, hg3⟩
  dsimp only
  have hS4 : w3.cell? ⟨b, 0, none⟩ = some (.int .i64 k) ∧ w3.cell? ⟨b, 1, none⟩ = some (.int .i64 i) ∧ w3.cell? ⟨b, 2, none⟩ = some (.float .f64 f) ∧ w3.cell? ⟨b, 3, none⟩ = some (.string s) ∧ w3.cell? ⟨b, 4, none⟩ = some (.slice A' n c') ∧ Below w1.heap.size w1 w3 ∧ b < w3.heap.size := SV.below hS3 hb3
  refine hK _ _ _ (fun _ h => h) hS4 ?_
  have hbg : ∀ g, bOf A3 = some g → w1.heap.size ≤ g := fun g hg => by rw [hb.out]; exact Nat.le_trans (Nat.le_of_lt hS3.2.2.2.2.2.2) (hg3 g hg)
  clear hK K hS3 hr2 hb2
  try simp only [Act.put, List.setIfInBounds_toArray, List.set_cons_zero, List.set_cons_succ]
  repeat (first | (refine lexG_take _ ?_ rfl rfl rfl rfl (fun _ => ?_) ?_; rotate_left; (focus (go_simp; with_reducible rfl)); try simp only [Act.put, List.setIfInBounds_toArray, List.set_cons_zero, List.set_cons_succ]) | (refine lexG_held _ ?_ rfl rfl rfl rfl (by assumption) (fun _ hSw => ?_) ?_; rotate_left; (focus ((try dsimp only at hSw); go_simp; with_reducible rfl)); try simp only [Act.put, List.setIfInBounds_toArray, List.set_cons_zero, List.set_cons_succ]) | (refine lexG_skip _ rfl rfl (by assumption) ?_; try simp only [Act.put, List.setIfInBounds_toArray, List.set_cons_zero, List.set_cons_succ]))
  refine lexG_nowF _ rfl rfl rfl (by kernel_rfl) (fun K hK => ?_)
  go_wp2_with fail
  refine (hput.out w3 A3 c3 hS4.2.2.2.2.2.1 ho3 hbg).mono ?_
  rintro e w4 ⟨A4, c4, rfl, ho4, hu4, hg4⟩
  dsimp only
  refine hK _ _ ?_
  clear hK K
  try simp only [Act.put, List.setIfInBounds_toArray, List.set_cons_zero, List.set_cons_succ]
  repeat (first | (refine lexG_take _ ?_ rfl rfl rfl rfl (fun _ => ?_) ?_; rotate_left; (focus (go_simp; with_reducible rfl)); try simp only [Act.put, List.setIfInBounds_toArray, List.set_cons_zero, List.set_cons_succ]) | (refine lexG_held _ ?_ rfl rfl rfl rfl (by assumption) (fun _ hSw => ?_) ?_; rotate_left; (focus ((try dsimp only at hSw); go_simp; with_reducible rfl)); try simp only [Act.put, List.setIfInBounds_toArray, List.set_cons_zero, List.set_cons_succ]) | (refine lexG_skip _ rfl rfl (by assumption) ?_; try simp only [Act.put, List.setIfInBounds_toArray, List.set_cons_zero, List.set_cons_succ]))
  refine lexG_nil ?_
  go_wp2_with fail
  go_ret2
  refine ⟨A4, c4, rfl, ho4, ?_, ?_⟩
  · exact hS4.2.2.2.2.2.1.trans (hu4.below hS4.2.2.2.2.2.1.size (fun k hk e => absurd (hbg k e.symm) (by omega)))
  · rcases hg4 with e | e
    · rw [e]; exact hbg
    · intro g hg; exact Nat.le_trans hS4.2.2.2.2.2.1.size (e g hg)

theorem wire_put_no {w w1 : World} {B : Nat} {v : Val} {cs : Array Value} {A : Option Addr} {m c : Nat} (h : VReads w B v cs) (hc : checkV v ≠ 0) (hb1 : Below B w w1) (hB1 : B ≤ w1.heap.size) :
    Calls Try.prog 11 #[.slice A m c, .agg cs] w1 (PutNo w1 (checkV v)) := by
  have hchk := fun w2 (hb : Below w1.heap.size w1 w2) => val_check_any h w2 (hb1.trans (hb.mono hB1)) (Nat.le_trans hB1 hb.size)
  generalize checkV v = x at *
  have hne : ((x : Int) != 0) = true := by rw [bne_iff_ne]; omega
  obtain ⟨k, i, f, s, A', n, c', hform⟩ := h.form
  rw [hform] at hchk ⊢
  replace hchk := Lib.hid hchk
  have hS := SV.alloc w1 (Below.refl _ _) k i f s A' n c'
  clear h hc hform hb1 hB1
  go_enter Try.func11, Try.ntmps11
  go_wp2_with fail
  generalize w1.alloc (.cells #[.int .i64 k, .int .i64 i, .float .f64 f, .string s, .slice A' n c'] 26) = w0 at hS ⊢
  refine (hchk.out w0 hS.2.2.2.2.2.1).mono ?_
  rintro e w2 ⟨rfl, hb2⟩
  dsimp only
  have hb3 := below_then hb2 hS.2.2.2.2.2.1
  clear hS
  go_wp2_with fail
  go_ret2
  exact ⟨rfl, hb3⟩

def PutRowOk (w : World) (row : Option Nat) (bs : List UInt8) (e : Ending) (w' : World) : Prop :=
  ∃ A' c', e = .returned (.tuple #[.slice A' bs.length c', .int .i64 0]) ∧ Own w' 5 1 A' bs.length c' (bys bs) ∧ Upd (fun k => some k = row) w w' ∧ (bOf A' = row ∨ ∀ g, bOf A' = some g → w.heap.size ≤ g)

theorem ref_put_ok {w w1 : World} {B : Nat} {v : Val} {cs : Array Value} {A : Option Addr} {c : Nat} {row : Option Nat} {bs : List UInt8} (h : VReads w B v cs) (hok : OkV v) (hc : checkV v = 0) (hb1 : Below B w w1) (hB1 : B ≤ w1.heap.size) (hA : Grows w1 5 1 A bs.length c (bys bs) row) (hrow : ∀ g, row = some g → B ≤ g) (hl : bs.length ≤ 10000000) :
    Calls Try.prog 12 #[.slice A bs.length c, .agg cs] w1 (PutRowOk w1 row (bs ++ encV v)) := by
  obtain ⟨hst, hg, hz⟩ : strangeV v = false ∧ greatV v 8 = false ∧ sizeV v ≤ 4096 := by
    rcases checkV_cases v with ⟨_, e⟩ | ⟨_, _, e⟩ | ⟨_, _, _, e⟩ | ⟨h1, h2, h3, _⟩
    · omega
    · omega
    · omega
    · exact ⟨h1, h2, h3⟩
  have hchk := fun w2 (hb : Below w1.heap.size w1 w2) => ref_check h w2 (hb1.trans (hb.mono hB1)) (Nat.le_trans hB1 hb.size)
  rw [hc] at hchk
  have hput := fun w2 (hb : Below w1.heap.size w1 w2) =>
    refput_tree h 8 hok hst hg w2 A c row bs (hb1.trans (hb.mono hB1)) (Nat.le_trans hB1 hb.size) (hA.below hb) hrow (by omega)
  obtain ⟨r, hr⟩ : ∃ r, bs ++ encV v = r := ⟨_, rfl⟩
  rw [hr] at hput ⊢
  obtain ⟨k, i, f, s, A', n, c', hform⟩ := h.form
  rw [hform] at hchk hput ⊢
  replace hchk := Lib.hid hchk
  replace hput := Lib.hid hput
  have hS := SV.alloc w1 (Below.refl _ _) k i f s A' n c'
  clear h hok hc hst hg hz hr hform hb1 hB1
  go_enter Try.func12, Try.ntmps12
  go_wp2_with fail
  generalize w1.alloc (.cells #[.int .i64 k, .int .i64 i, .float .f64 f, .string s, .slice A' n c'] 26) = w0 at hS ⊢
  refine (hchk.out w0 hS.2.2.2.2.2.1).mono ?_
  rintro e w2 ⟨rfl, hb2⟩
  dsimp only
  obtain ⟨e0, e1, e2, e3, e4, hb3, -⟩ := hS.below hb2
  clear hS
  go_wp2_with fail
  refine (hput.out w2 hb3).mono ?_
  rintro e w4 ⟨A4, c4, rfl, ho4, hu4, hg4⟩
  dsimp only
  go_wp2_with fail
  go_ret2
  refine ⟨A4, c4, rfl, ho4, (Upd.of_below_size hb3).trans hu4 (fun _ _ h => h), ?_⟩
  rcases hg4 with e | e
  · exact .inl e
  · right; intro g hg; exact Nat.le_trans hb3.size (e g hg)

theorem ref_put_no {w w1 : World} {B : Nat} {v : Val} {cs : Array Value} {A : Option Addr} {m c : Nat} (h : VReads w B v cs) (hc : checkV v ≠ 0) (hb1 : Below B w w1) (hB1 : B ≤ w1.heap.size) :
    Calls Try.prog 12 #[.slice A m c, .agg cs] w1 (PutNo w1 (checkV v)) := by
  have hchk := fun w2 (hb : Below w1.heap.size w1 w2) => ref_check h w2 (hb1.trans (hb.mono hB1)) (Nat.le_trans hB1 hb.size)
  generalize checkV v = x at *
  have hne : ((x : Int) != 0) = true := by rw [bne_iff_ne]; omega
  obtain ⟨k, i, f, s, A', n, c', hform⟩ := h.form
  rw [hform] at hchk ⊢
  replace hchk := Lib.hid hchk
  have hS := SV.alloc w1 (Below.refl _ _) k i f s A' n c'
  clear h hc hform hb1 hB1
  go_enter Try.func12, Try.ntmps12
  go_wp2_with fail
  generalize w1.alloc (.cells #[.int .i64 k, .int .i64 i, .float .f64 f, .string s, .slice A' n c'] 26) = w0 at hS ⊢
  refine (hchk.out w0 hS.2.2.2.2.2.1).mono ?_
  rintro e w2 ⟨rfl, hb2⟩
  dsimp only
  have hb3 := below_then hb2 hS.2.2.2.2.2.1
  clear hS
  go_wp2_with fail
  go_ret2
  exact ⟨rfl, hb3⟩
end Go.Proofs.Ytafogjonicdbmaa
