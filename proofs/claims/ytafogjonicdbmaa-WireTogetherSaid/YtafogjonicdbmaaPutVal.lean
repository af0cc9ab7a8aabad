/- wire.put, wire.Put at a number. -/
import Derived.Test.YtafogjonicdbmaaWireRead
import Derived.Test.YtafogjonicdbmaaPut
namespace Go.Proofs.Ytafogjonicdbmaa
open Go.RowKit

def u64 (i : Int) : Nat := (i % 18446744073709551616).toNat

theorem wrap_u64 (i : Int) : IntKind.u64.wrap i = ((u64 i : Nat) : Int) := by
  simp [IntKind.wrap, IntKind.bits, IntKind.signed, u64]
  omega

set_option maxHeartbeats 800000 in
theorem put_int {A : Option Addr} {c : Nat} {bs r : List UInt8} {k i : Int} {f : Nat} {s : ByteArray} {A' : Option Addr} {n' c' : Nat} {w : World} (hk : k = 1) (h : Own w 5 1 A bs.length c (bys bs)) (hl : bs.length ≤ 1000000000) (hr : bs ++ (1 :: putU (u64 i) 8) = r) :
    Calls Try.prog 30 #[.slice A bs.length c, .agg #[.int .i64 k, .int .i64 i, .float .f64 f, .string s, .slice A' n' c']] w (PutBytes w A r) := by
  subst hk
  obtain ⟨i0, hi, hz0, hz1, hz2⟩ := info_parts info_u8
  obtain ⟨q, hq⟩ : ∃ q, bs ++ [1] = q := ⟨_, rfl⟩
  have hql : bs.length + 1 = q.length := by rw [← hq]; simp
  have hqr : q ++ putU (u64 i) 8 = r := by rw [← hr, ← hq]; simp
  have hqb : bys bs ++ [.int .u8 1] = bys q := by rw [← hq, bys_append]; rfl
  have hqbl : q.length ≤ 1000000100 := by omega
  have hu64 := Lib.hid (wrap_u64 i)
  have hul : u64 i < 18446744073709551616 := by unfold u64; omega
  clear hr
  replace hq := Lib.hid hq
  replace hql := Lib.hid hql
  replace hqr := Lib.hid hqr
  replace hqb := Lib.hid hqb
  go_enter Try.func30, Try.ntmps30
  have hb := Blk.new w 26 #[.int .i64 1, .int .i64 i, .float .f64 f, .string s, .slice A' n' c']
  have hsrc := Reads.lit (size := 1) (w.alloc (.cells #[.int .i64 1, .int .i64 i, .float .f64 f, .string s, .slice A' n' c'] 26)) #[.int .u8 1] 5 (0, 0) 1 [.int .u8 1] rfl rfl
  have hew : (w.alloc (.cells #[.int .i64 1, .int .i64 i, .float .f64 f, .string s, .slice A' n' c'] 26)).heap.size = w.heap.size + 1 := by simp
  rw [hew] at hsrc
  replace hew := Lib.hid hew
  replace hb := Lib.hid hb
  go_wp2_with (at_builtin; go_must (refine wpList_append_mine rfl _ _ 22 22 rfl 5 i0 (.int .u8 0) 1 1 Try.underlying22 hi hz0 hz1 hz2 rfl rfl ((h.alloc _).alloc _) rfl (Src.ofReads Try.underlying22 _ hsrc (by intro u hu; simp at hu; subst hu; rfl)) ?b1 ?b2 ?grow))
  case b1 => unfold maxLen; omega
  case b2 => omega
  case grow =>
    intro A3 c3 w3 ho3 hg3 hat3
    rw [hqb.out, hql.out] at ho3
    rw [hql.out]
    have hb1 := (hb.out.alloc (.cells #[.int .u8 1] 5)).grown hg3 (fun e => absurd (h.lt e.symm) (Nat.lt_irrefl _))
    have hu3 : Upd (fun x => some x = bOf A) w w3 := (((Upd.refl _ w).alloc _).alloc _).grown hg3 (fun k e _ => e.symm)
    have hf3 : bOf A3 = bOf A ∨ ∀ g, bOf A3 = some g → w.heap.size ≤ g := by
      rcases hat3 with e | e
      · exact .inl e
      · right; intro g hg; rw [e] at hg; simp at hg; omega
    clear hat3 hg3 hsrc
    have e0 := hb1.cell 0
    have e1 := hb1.cell 1
    go_wp2_with fail
    rw [hu64.out]
    refine (wire_put (m := 8) ho3.reads_ (Nat.le_refl _) (by omega) hul).mono ?_
    rw [show n8 8 = 8 from rfl, hqr.out]
    rintro e w4 ⟨A4, c4, rfl, ho4, hb4, hg4⟩
    dsimp only
    go_wp2_with fail
    go_ret
    exact ⟨A4, c4, rfl, ho4, hu3.thenBelow hb4 hu3.size, .inr fun g hg => Nat.le_trans hu3.size (hg4 g hg)⟩

set_option maxHeartbeats 800000 in
theorem wire_put_int {A : Option Addr} {c B : Nat} {bs r : List UInt8} {k i : Int} {f : Nat} {s : ByteArray} {A' : Option Addr} {n c' : Nat} {w : World} (hk : k = 1) (hs : s.size ≤ 256) (h : Reads w B 1 A bs.length (bys bs)) (hB : B ≤ w.heap.size) (hl : bs.length ≤ 1000000000) (hr : bs ++ (1 :: putU (u64 i) 8) = r) :
    Calls Try.prog 11 #[.slice A bs.length c, .agg #[.int .i64 k, .int .i64 i, .float .f64 f, .string s, .slice A' n c']] w (fun e w' => ∃ A2 c2, e = .returned (.tuple #[.slice A2 r.length c2, .int .i64 0]) ∧ Own w' 5 1 A2 r.length c2 (bys r) ∧ Below w.heap.size w w' ∧ ∀ g, bOf A2 = some g → w.heap.size ≤ g) := by
  have hS := SV.alloc w (Below.refl _ _) k i f s A' n c'
  replace hr := Lib.hid hr
  replace hk := Lib.hid hk
  go_enter Try.func11, Try.ntmps11
  go_wp2_with fail
  have hr1 := h.alloc hB (.cells #[.int .i64 k, .int .i64 i, .float .f64 f, .string s, .slice A' n c'] 26)
  generalize w.alloc (.cells #[.int .i64 k, .int .i64 i, .float .f64 f, .string s, .slice A' n c'] 26) = w1 at hS hr1 ⊢
  obtain ⟨b, hb⟩ : ∃ b, w.heap.size = b := ⟨_, rfl⟩
  rw [hb] at hS hB ⊢
  replace hb := Lib.hid hb
  refine (val_check_num k i f s A' n c' w1 (.inl hk.out) hs).mono ?_
  rintro e w2 ⟨rfl, hb2⟩
  dsimp only
  have hS2 := hS.below hb2
  have hb1s := hS.2.2.2.2.2.2
  have hr2 := hr1.below (hb2.mono (by omega))
  clear hS hr1
  have hS3 : w2.drew.cell? ⟨b, 0, none⟩ = some (.int .i64 k) ∧ w2.drew.cell? ⟨b, 1, none⟩ = some (.int .i64 i) ∧ w2.drew.cell? ⟨b, 2, none⟩ = some (.float .f64 f) ∧ w2.drew.cell? ⟨b, 3, none⟩ = some (.string s) ∧ w2.drew.cell? ⟨b, 4, none⟩ = some (.slice A' n c') ∧ Below w.heap.size w w2.drew ∧ b < w2.drew.heap.size := hS2.drew
  clear hS2
  go_wp2_with fail
  refine wp_region_lex (fun W => W.cell? ⟨b, 0, none⟩ = some (.int .i64 k) ∧ W.cell? ⟨b, 1, none⟩ = some (.int .i64 i) ∧ W.cell? ⟨b, 2, none⟩ = some (.float .f64 f) ∧ W.cell? ⟨b, 3, none⟩ = some (.string s) ∧ W.cell? ⟨b, 4, none⟩ = some (.slice A' n c') ∧ Below w.heap.size w W ∧ b < W.heap.size) [2] [1, 3] [0, 2, 1, 3, 4, 5] (by kernel_rfl) rfl (by kernel_rfl) (by kernel_rfl) (fun _ _ d _ _ h => by cases d <;> exact h) ?_
  repeat (first | (refine lexG_take _ ?_ rfl rfl rfl rfl (fun _ => ?_) ?_; rotate_left; (focus (go_simp; with_reducible rfl)); try simp only [Act.put, List.setIfInBounds_toArray, List.set_cons_zero, List.set_cons_succ]) | (refine lexG_held _ ?_ rfl rfl rfl rfl (by assumption) (fun _ hSw => ?_) ?_; rotate_left; (focus ((try dsimp only at hSw); go_simp; with_reducible rfl)); try simp only [Act.put, List.setIfInBounds_toArray, List.set_cons_zero, List.set_cons_succ]) | (refine lexG_skip _ rfl rfl (by assumption) ?_; try simp only [Act.put, List.setIfInBounds_toArray, List.set_cons_zero, List.set_cons_succ]))
  refine lexG_now _ rfl rfl rfl (fun K hK => ?_)
  go_wp2_with fail
  refine (clone_bytes (B := B) (hr2.drew) (by have := hS3.2.2.2.2.2.2; omega) (by omega)).mono ?_
  rintro e w3 ⟨A3, c3, rfl, ho3, hb3, hg3⟩
  dsimp only
  have hS4 : w3.cell? ⟨b, 0, none⟩ = some (.int .i64 k) ∧ w3.cell? ⟨b, 1, none⟩ = some (.int .i64 i) ∧ w3.cell? ⟨b, 2, none⟩ = some (.float .f64 f) ∧ w3.cell? ⟨b, 3, none⟩ = some (.string s) ∧ w3.cell? ⟨b, 4, none⟩ = some (.slice A' n c') ∧ Below w.heap.size w w3 ∧ b < w3.heap.size := SV.below hS3 hb3
  refine hK _ _ _ (fun _ h => h) hS4 ?_
  have hbg : ∀ g, bOf A3 = some g → b ≤ g := fun g hg => Nat.le_trans (Nat.le_of_lt hS3.2.2.2.2.2.2) (hg3 g hg)
  clear hK K hS3 hr2 hb2
  try simp only [Act.put, List.setIfInBounds_toArray, List.set_cons_zero, List.set_cons_succ]
  repeat (first | (refine lexG_take _ ?_ rfl rfl rfl rfl (fun _ => ?_) ?_; rotate_left; (focus (go_simp; with_reducible rfl)); try simp only [Act.put, List.setIfInBounds_toArray, List.set_cons_zero, List.set_cons_succ]) | (refine lexG_held _ ?_ rfl rfl rfl rfl (by assumption) (fun _ hSw => ?_) ?_; rotate_left; (focus ((try dsimp only at hSw); go_simp; with_reducible rfl)); try simp only [Act.put, List.setIfInBounds_toArray, List.set_cons_zero, List.set_cons_succ]) | (refine lexG_skip _ rfl rfl (by assumption) ?_; try simp only [Act.put, List.setIfInBounds_toArray, List.set_cons_zero, List.set_cons_succ]))
  refine lexG_nowF _ rfl rfl rfl (by kernel_rfl) (fun K hK => ?_)
  go_wp2_with fail
  refine (put_int hk.out ho3 hl hr.out).mono ?_
  rintro e w4 ⟨A4, c4, rfl, ho4, hu4, hg4⟩
  dsimp only
  refine hK _ _ ?_
  clear hK K
  try simp only [Act.put, List.setIfInBounds_toArray, List.set_cons_zero, List.set_cons_succ]
  repeat (first | (refine lexG_take _ ?_ rfl rfl rfl rfl (fun _ => ?_) ?_; rotate_left; (focus (go_simp; with_reducible rfl)); try simp only [Act.put, List.setIfInBounds_toArray, List.set_cons_zero, List.set_cons_succ]) | (refine lexG_held _ ?_ rfl rfl rfl rfl (by assumption) (fun _ hSw => ?_) ?_; rotate_left; (focus ((try dsimp only at hSw); go_simp; with_reducible rfl)); try simp only [Act.put, List.setIfInBounds_toArray, List.set_cons_zero, List.set_cons_succ]) | (refine lexG_skip _ rfl rfl (by assumption) ?_; try simp only [Act.put, List.setIfInBounds_toArray, List.set_cons_zero, List.set_cons_succ]))
  refine lexG_nil ?_
  go_wp2_with fail
  go_ret2
  refine ⟨A4, c4, rfl, ho4, hS4.2.2.2.2.2.1.trans (hu4.below (by have := hS4.2.2.2.2.2.1.size; omega) (fun k hk he => by have := hbg k he.symm; rw [hb.out] at hk; omega)), fun g hg => ?_⟩
  rcases hg4 with e | e
  · rw [hb.out]; exact hbg g (by rw [← e, hg])
  · exact Nat.le_trans hS4.2.2.2.2.2.1.size (e g hg)
end Go.Proofs.Ytafogjonicdbmaa
