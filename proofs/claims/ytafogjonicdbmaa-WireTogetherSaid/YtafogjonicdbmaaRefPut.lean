/- choirref3.put of any value that is not strange. -/
import Derived.Test.YtafogjonicdbmaaPutTree
namespace Go.Proofs.Ytafogjonicdbmaa
open Go.RowKit

def PutRow (w : World) (row : Option Nat) (bs : List UInt8) (e : Ending) (w' : World) : Prop :=
  ∃ A' c', e = .returned (.slice A' bs.length c') ∧ Own w' 5 1 A' bs.length c' (bys bs) ∧ Upd (fun k => some k = row) w w' ∧ (bOf A' = row ∨ ∀ g, bOf A' = some g → w.heap.size ≤ g)

/-- Behind a first append: what a call of PutU onto the new row leaves. -/
theorem row_then {w w3 w4 : World} {row : Option Nat} {A3 A4 : Option Addr} (hu3 : Upd (fun x => some x = row) w w3) (hf3 : bOf A3 = row ∨ ∀ g, bOf A3 = some g → w.heap.size < g) (hu4 : Upd (fun k => some k = bOf A3) w3 w4) (hf4 : bOf A4 = bOf A3 ∨ ∀ g, bOf A4 = some g → w3.heap.size ≤ g) (hlt : w.heap.size < w3.heap.size) :
    Upd (fun x => some x = row) w w4 ∧ (bOf A4 = row ∨ ∀ g, bOf A4 = some g → w.heap.size < g) := by
  refine ⟨hu3.trans hu4 (fun k hk e => ?_), ?_⟩
  · rcases hf3 with e3 | e3
    · rw [← e3]; exact e
    · have := e3 k e.symm; omega
  · rcases hf4 with e | e
    · rw [e]; exact hf3
    · right; intro g hg; have := e g hg; omega

set_option maxHeartbeats 1600000 in
theorem refput_nil {A : Option Addr} {c : Nat} {row : Option Nat} {bs r : List UInt8} {k i : Int} {f : Nat} {s : ByteArray} {A' : Option Addr} {n' c' : Nat} {w : World} (hk : k = 0) (h : Grows w 5 1 A bs.length c (bys bs) row) (hl : bs.length ≤ 1000000000)  (hr : bs ++ ([0]) = r) :
    Calls Try.prog 33 #[.slice A bs.length c, .agg #[.int .i64 k, .int .i64 i, .float .f64 f, .string s, .slice A' n' c']] w (PutRow w row r) := by
  subst hk
  obtain ⟨i0, hi, hz0, hz1, hz2⟩ := info_parts info_u8
  obtain ⟨q, hq⟩ : ∃ q, bs ++ [0] = q := ⟨_, rfl⟩
  have hql : bs.length + 1 = q.length := by rw [← hq]; simp
  have hqb : bys bs ++ [.int .u8 0] = bys q := by rw [← hq, bys_append]; rfl
  have hqbl : q.length ≤ 1000000100 := by omega
  have hqr : q = r := by rw [← hq, hr]
  clear hr
  replace hq := Lib.hid hq
  replace hql := Lib.hid hql
  replace hqb := Lib.hid hqb
  replace hqr := Lib.hid hqr
  go_enter Try.func33, Try.ntmps33
  have hb := Blk.new w 26 #[.int .i64 0, .int .i64 i, .float .f64 f, .string s, .slice A' n' c']
  have hsrc := Reads.lit (size := 1) (w.alloc (.cells #[.int .i64 0, .int .i64 i, .float .f64 f, .string s, .slice A' n' c'] 26)) #[.int .u8 0] 5 (0, 0) 1 [.int .u8 0] rfl rfl
  have hew : (w.alloc (.cells #[.int .i64 0, .int .i64 i, .float .f64 f, .string s, .slice A' n' c'] 26)).heap.size = w.heap.size + 1 := by simp
  rw [hew] at hsrc
  replace hew := Lib.hid hew
  replace hb := Lib.hid hb
  go_wp2_with (at_builtin; go_must (refine wpList_append_grows rfl _ _ 22 22 rfl 5 i0 (.int .u8 0) 1 1 Try.underlying22 hi hz0 hz1 hz2 rfl rfl ((h.alloc _).alloc _) rfl (Src.ofReads Try.underlying22 _ hsrc (by intro u hu; simp at hu; subst hu; rfl)) (by omega) ?b1 ?b2 ?grow))
  case b1 => unfold maxLen; omega
  case b2 => omega
  case grow =>
    intro A3 c3 w3 ho3 hg3 hat3
    rw [hqb.out, hql.out] at ho3
    rw [hql.out]
    have hb1 := (hb.out.alloc (.cells #[.int .u8 0] 5)).grown hg3 (fun e => absurd (h.lt e.symm) (Nat.lt_irrefl _))
    have hu3 : Upd (fun x => some x = row) w w3 := (((Upd.refl _ w).alloc _).alloc _).grown hg3 (fun k e _ => e.symm)
    have hf3 : bOf A3 = row ∨ ∀ g, bOf A3 = some g → w.heap.size < g := by
      rcases hat3 with e | e
      · exact .inl e
      · right; intro g hg; rw [e] at hg; simp at hg; omega
    have hne3 : some w.heap.size ≠ bOf A3 := by
      intro e
      rcases hf3 with e3 | e3
      · rw [e3] at e; exact absurd (h.lt e.symm) (Nat.lt_irrefl _)
      · exact absurd (e3 _ e.symm) (Nat.lt_irrefl _)
    clear hat3 hg3 hsrc
    have e0 := hb1.cell 0
    go_wp2_with fail
    go_ret
    rw [← hqr.out]
    exact ⟨A3, c3, rfl, ho3, hu3, hf3.imp id (fun h g hg => Nat.le_of_lt (h g hg))⟩

set_option maxHeartbeats 1600000 in
theorem refput_int {A : Option Addr} {c : Nat} {row : Option Nat} {bs r : List UInt8} {k i : Int} {f : Nat} {s : ByteArray} {A' : Option Addr} {n' c' : Nat} {w : World} (hk : k = 1) (h : Grows w 5 1 A bs.length c (bys bs) row) (hl : bs.length ≤ 1000000000)  (hr : bs ++ (1 :: putU (u64 i) 8) = r) :
    Calls Try.prog 33 #[.slice A bs.length c, .agg #[.int .i64 k, .int .i64 i, .float .f64 f, .string s, .slice A' n' c']] w (PutRow w row r) := by
  subst hk
  obtain ⟨i0, hi, hz0, hz1, hz2⟩ := info_parts info_u8
  obtain ⟨q, hq⟩ : ∃ q, bs ++ [1] = q := ⟨_, rfl⟩
  have hql : bs.length + 1 = q.length := by rw [← hq]; simp
  have hqb : bys bs ++ [.int .u8 1] = bys q := by rw [← hq, bys_append]; rfl
  have hqbl : q.length ≤ 1000000100 := by omega
  have hqr : q ++ putU (u64 i) 8 = r := by rw [← hr, ← hq]; simp
  have hu64 := Lib.hid (wrap_u64 i)
  have hul : u64 i < 18446744073709551616 := by unfold u64; omega
  clear hr
  replace hq := Lib.hid hq
  replace hql := Lib.hid hql
  replace hqb := Lib.hid hqb
  replace hqr := Lib.hid hqr
  go_enter Try.func33, Try.ntmps33
  have hb := Blk.new w 26 #[.int .i64 1, .int .i64 i, .float .f64 f, .string s, .slice A' n' c']
  have hsrc := Reads.lit (size := 1) (w.alloc (.cells #[.int .i64 1, .int .i64 i, .float .f64 f, .string s, .slice A' n' c'] 26)) #[.int .u8 1] 5 (0, 0) 1 [.int .u8 1] rfl rfl
  have hew : (w.alloc (.cells #[.int .i64 1, .int .i64 i, .float .f64 f, .string s, .slice A' n' c'] 26)).heap.size = w.heap.size + 1 := by simp
  rw [hew] at hsrc
  replace hew := Lib.hid hew
  replace hb := Lib.hid hb
  go_wp2_with (at_builtin; go_must (refine wpList_append_grows rfl _ _ 22 22 rfl 5 i0 (.int .u8 0) 1 1 Try.underlying22 hi hz0 hz1 hz2 rfl rfl ((h.alloc _).alloc _) rfl (Src.ofReads Try.underlying22 _ hsrc (by intro u hu; simp at hu; subst hu; rfl)) (by omega) ?b1 ?b2 ?grow))
  case b1 => unfold maxLen; omega
  case b2 => omega
  case grow =>
    intro A3 c3 w3 ho3 hg3 hat3
    rw [hqb.out, hql.out] at ho3
    rw [hql.out]
    have hb1 := (hb.out.alloc (.cells #[.int .u8 1] 5)).grown hg3 (fun e => absurd (h.lt e.symm) (Nat.lt_irrefl _))
    have hu3 : Upd (fun x => some x = row) w w3 := (((Upd.refl _ w).alloc _).alloc _).grown hg3 (fun k e _ => e.symm)
    have hf3 : bOf A3 = row ∨ ∀ g, bOf A3 = some g → w.heap.size < g := by
      rcases hat3 with e | e
      · exact .inl e
      · right; intro g hg; rw [e] at hg; simp at hg; omega
    have hne3 : some w.heap.size ≠ bOf A3 := by
      intro e
      rcases hf3 with e3 | e3
      · rw [e3] at e; exact absurd (h.lt e.symm) (Nat.lt_irrefl _)
      · exact absurd (e3 _ e.symm) (Nat.lt_irrefl _)
    clear hat3 hg3 hsrc
    have e0 := hb1.cell 0
    have e1 := hb1.cell 1
    go_wp2_with fail
    rw [hu64.out]
    refine (ref_put (m := 8) ho3 (by omega) hul).mono ?_
    rw [show n8 8 = 8 from rfl, hqr.out]
    rintro e w4 ⟨A4, c4, rfl, ho4, hu4, hg4⟩
    dsimp only
    obtain ⟨hu5, hf5⟩ := row_then hu3 hf3 hu4 hg4 hb1.lt
    go_wp2_with fail
    go_ret
    exact ⟨A4, c4, rfl, ho4, hu5, hf5.imp id (fun h g hg => Nat.le_of_lt (h g hg))⟩

set_option maxHeartbeats 1600000 in
theorem refput_float {A : Option Addr} {c : Nat} {row : Option Nat} {bs r : List UInt8} {k i : Int} {f : Nat} {s : ByteArray} {A' : Option Addr} {n' c' : Nat} {w : World} (hk : k = 2) (h : Grows w 5 1 A bs.length c (bys bs) row) (hl : bs.length ≤ 1000000000) (hf : cb f < 18446744073709551616) (hr : bs ++ (2 :: putU (cb f) 8) = r) :
    Calls Try.prog 33 #[.slice A bs.length c, .agg #[.int .i64 k, .int .i64 i, .float .f64 f, .string s, .slice A' n' c']] w (PutRow w row r) := by
  subst hk
  obtain ⟨i0, hi, hz0, hz1, hz2⟩ := info_parts info_u8
  obtain ⟨q, hq⟩ : ∃ q, bs ++ [2] = q := ⟨_, rfl⟩
  have hql : bs.length + 1 = q.length := by rw [← hq]; simp
  have hqb : bys bs ++ [.int .u8 2] = bys q := by rw [← hq, bys_append]; rfl
  have hqbl : q.length ≤ 1000000100 := by omega
  obtain ⟨y, hy⟩ : ∃ y, cb f = y := ⟨_, rfl⟩
  rw [hy] at hf
  have hbit := fun w => ref_bits f w
  rw [hy] at hbit
  have hqr : q ++ putU y 8 = r := by rw [← hr, ← hq, hy]; simp
  clear hr hy
  replace hf := Lib.hid hf
  replace hq := Lib.hid hq
  replace hql := Lib.hid hql
  replace hqb := Lib.hid hqb
  replace hqr := Lib.hid hqr
  go_enter Try.func33, Try.ntmps33
  have hb := Blk.new w 26 #[.int .i64 2, .int .i64 i, .float .f64 f, .string s, .slice A' n' c']
  have hsrc := Reads.lit (size := 1) (w.alloc (.cells #[.int .i64 2, .int .i64 i, .float .f64 f, .string s, .slice A' n' c'] 26)) #[.int .u8 2] 5 (0, 0) 1 [.int .u8 2] rfl rfl
  have hew : (w.alloc (.cells #[.int .i64 2, .int .i64 i, .float .f64 f, .string s, .slice A' n' c'] 26)).heap.size = w.heap.size + 1 := by simp
  rw [hew] at hsrc
  replace hew := Lib.hid hew
  replace hb := Lib.hid hb
  go_wp2_with (at_builtin; go_must (refine wpList_append_grows rfl _ _ 22 22 rfl 5 i0 (.int .u8 0) 1 1 Try.underlying22 hi hz0 hz1 hz2 rfl rfl ((h.alloc _).alloc _) rfl (Src.ofReads Try.underlying22 _ hsrc (by intro u hu; simp at hu; subst hu; rfl)) (by omega) ?b1 ?b2 ?grow))
  case b1 => unfold maxLen; omega
  case b2 => omega
  case grow =>
    intro A3 c3 w3 ho3 hg3 hat3
    rw [hqb.out, hql.out] at ho3
    rw [hql.out]
    have hb1 := (hb.out.alloc (.cells #[.int .u8 2] 5)).grown hg3 (fun e => absurd (h.lt e.symm) (Nat.lt_irrefl _))
    have hu3 : Upd (fun x => some x = row) w w3 := (((Upd.refl _ w).alloc _).alloc _).grown hg3 (fun k e _ => e.symm)
    have hf3 : bOf A3 = row ∨ ∀ g, bOf A3 = some g → w.heap.size < g := by
      rcases hat3 with e | e
      · exact .inl e
      · right; intro g hg; rw [e] at hg; simp at hg; omega
    have hne3 : some w.heap.size ≠ bOf A3 := by
      intro e
      rcases hf3 with e3 | e3
      · rw [e3] at e; exact absurd (h.lt e.symm) (Nat.lt_irrefl _)
      · exact absurd (e3 _ e.symm) (Nat.lt_irrefl _)
    clear hat3 hg3 hsrc
    have e0 := hb1.cell 0
    have e2 := hb1.cell 2
    go_wp2_with fail
    refine (hbit _).mono ?_
    rintro e w4 ⟨rfl, rfl⟩
    dsimp only
    go_wp2_with fail
    refine (ref_put (m := 8) ho3 (by omega) hf.out).mono ?_
    rw [show n8 8 = 8 from rfl, hqr.out]
    rintro e w4 ⟨A4, c4, rfl, ho4, hu4, hg4⟩
    dsimp only
    obtain ⟨hu5, hf5⟩ := row_then hu3 hf3 hu4 hg4 hb1.lt
    go_wp2_with fail
    go_ret
    exact ⟨A4, c4, rfl, ho4, hu5, hf5.imp id (fun h g hg => Nat.le_of_lt (h g hg))⟩

set_option maxHeartbeats 1600000 in
theorem refput_txt {A : Option Addr} {c : Nat} {row : Option Nat} {bs r : List UInt8} {k i : Int} {f : Nat} {s : List UInt8} {A' : Option Addr} {n' c' : Nat} {w : World} (hk : k = 3) (h : Grows w 5 1 A bs.length c (bys bs) row) (hl : bs.length ≤ 1000000000) (hs : s.length ≤ 65535) (hr : bs ++ (3 :: (putU s.length 2 ++ s)) = r) :
    Calls Try.prog 33 #[.slice A bs.length c, .agg #[.int .i64 k, .int .i64 i, .float .f64 f, .string (bstr s), .slice A' n' c']] w (PutRow w row r) := by
  subst hk
  obtain ⟨i0, hi, hz0, hz1, hz2⟩ := info_parts info_u8
  obtain ⟨q, hq⟩ : ∃ q, bs ++ [3] = q := ⟨_, rfl⟩
  have hql : bs.length + 1 = q.length := by rw [← hq]; simp
  have hqb : bys bs ++ [.int .u8 3] = bys q := by rw [← hq, bys_append]; rfl
  have hqbl : q.length ≤ 1000000100 := by omega
  obtain ⟨q2, hq2⟩ : ∃ q2, q ++ putU s.length 2 = q2 := ⟨_, rfl⟩
  have hqr : bys q2 ++ bys s = bys r := by rw [← bys_append, ← hr, ← hq2, ← hq]; simp
  have hqrl : q2.length + s.length = r.length := by rw [← hr, ← hq2, ← hq]; simp; omega
  have hq2l : q2.length = q.length + 2 := by rw [← hq2]; simp [putU_len]
  have hsz : (bstr s).size = s.length := bstr_size s
  clear hr
  replace hq := Lib.hid hq
  replace hql := Lib.hid hql
  replace hqb := Lib.hid hqb
  replace hq2 := Lib.hid hq2
  replace hqr := Lib.hid hqr
  replace hqrl := Lib.hid hqrl
  generalize hsb : bstr s = sb at *
  replace hsb := Lib.hid hsb
  go_enter Try.func33, Try.ntmps33
  have hb := Blk.new w 26 #[.int .i64 3, .int .i64 i, .float .f64 f, .string sb, .slice A' n' c']
  have hsrc := Reads.lit (size := 1) (w.alloc (.cells #[.int .i64 3, .int .i64 i, .float .f64 f, .string sb, .slice A' n' c'] 26)) #[.int .u8 3] 5 (0, 0) 1 [.int .u8 3] rfl rfl
  have hew : (w.alloc (.cells #[.int .i64 3, .int .i64 i, .float .f64 f, .string sb, .slice A' n' c'] 26)).heap.size = w.heap.size + 1 := by simp
  rw [hew] at hsrc
  replace hew := Lib.hid hew
  replace hb := Lib.hid hb
  go_wp2_with (at_builtin; go_must (refine wpList_append_grows rfl _ _ 22 22 rfl 5 i0 (.int .u8 0) 1 1 Try.underlying22 hi hz0 hz1 hz2 rfl rfl ((h.alloc _).alloc _) rfl (Src.ofReads Try.underlying22 _ hsrc (by intro u hu; simp at hu; subst hu; rfl)) (by omega) ?b1 ?b2 ?grow))
  case b1 => unfold maxLen; omega
  case b2 => omega
  case grow =>
    intro A3 c3 w3 ho3 hg3 hat3
    rw [hqb.out, hql.out] at ho3
    rw [hql.out]
    have hb1 := (hb.out.alloc (.cells #[.int .u8 3] 5)).grown hg3 (fun e => absurd (h.lt e.symm) (Nat.lt_irrefl _))
    have hu3 : Upd (fun x => some x = row) w w3 := (((Upd.refl _ w).alloc _).alloc _).grown hg3 (fun k e _ => e.symm)
    have hf3 : bOf A3 = row ∨ ∀ g, bOf A3 = some g → w.heap.size < g := by
      rcases hat3 with e | e
      · exact .inl e
      · right; intro g hg; rw [e] at hg; simp at hg; omega
    have hne3 : some w.heap.size ≠ bOf A3 := by
      intro e
      rcases hf3 with e3 | e3
      · rw [e3] at e; exact absurd (h.lt e.symm) (Nat.lt_irrefl _)
      · exact absurd (e3 _ e.symm) (Nat.lt_irrefl _)
    clear hat3 hg3 hsrc
    have e0 := hb1.cell 0
    go_wp2_with fail
    have hS : w3.drew.cell? ⟨w.heap.size, 3, none⟩ = some (.string sb) := hb1.cell 3
    have hblt := hb1.lt
    clear e0
    refine wp_region_lex (fun W => W.cell? ⟨w.heap.size, 3, none⟩ = some (.string sb)) [2, 7] [5, 8] [0, 1, 2, 3, 4, 6, 7, 5, 8, 9] (by kernel_rfl) rfl (by kernel_rfl) (by kernel_rfl) (fun _ _ d _ _ h => by cases d <;> exact h) ?_
    repeat (first | (refine lexG_take _ ?_ rfl rfl rfl rfl (fun _ => ?_) ?_; rotate_left; (focus (go_simp; with_reducible rfl)); try simp only [Act.put, List.setIfInBounds_toArray, List.set_cons_zero, List.set_cons_succ]) | (refine lexG_held _ ?_ rfl rfl rfl rfl (by assumption) (fun _ hSw => ?_) ?_; rotate_left; (focus ((try dsimp only at hSw); go_simp; with_reducible rfl)); try simp only [Act.put, List.setIfInBounds_toArray, List.set_cons_zero, List.set_cons_succ]) | (refine lexG_skip _ rfl rfl (by assumption) ?_; try simp only [Act.put, List.setIfInBounds_toArray, List.set_cons_zero, List.set_cons_succ]))
    refine lexG_now _ rfl rfl rfl (fun K hK => ?_)
    go_wp2_with fail
    refine (ref_put (m := 2) ho3.drew (by omega) (by omega)).mono ?_
    rw [show n8 2 = 2 from rfl, hq2.out]
    rintro e w4 ⟨A4, c4, rfl, ho4, hu4, hg4⟩
    dsimp only
    obtain ⟨hu5, hf5⟩ := row_then hu3 hf3 (upd_of_drew hu4) hg4 hblt
    have hb4 := hb1.drew.upd hu4 hne3
    have hne4 : some w.heap.size ≠ bOf A4 := by
      intro e
      rcases hg4 with e3 | e3
      · exact hne3 (e.trans e3)
      · have h1 := e3 _ e.symm; simp at h1; omega
    refine hK _ _ _ (fun _ h => h) (hb4.cell 3) ?_
    clear hK K
    try simp only [Act.put, List.setIfInBounds_toArray, List.set_cons_zero, List.set_cons_succ]
    repeat (first | (refine lexG_take _ ?_ rfl rfl rfl rfl (fun _ => ?_) ?_; rotate_left; (focus (go_simp; with_reducible rfl)); try simp only [Act.put, List.setIfInBounds_toArray, List.set_cons_zero, List.set_cons_succ]) | (refine lexG_held _ ?_ rfl rfl rfl rfl (by assumption) (fun _ hSw => ?_) ?_; rotate_left; (focus ((try dsimp only at hSw); go_simp; with_reducible rfl)); try simp only [Act.put, List.setIfInBounds_toArray, List.set_cons_zero, List.set_cons_succ]) | (refine lexG_skip _ rfl rfl (by assumption) ?_; try simp only [Act.put, List.setIfInBounds_toArray, List.set_cons_zero, List.set_cons_succ]))
    refine lexG_now _ rfl rfl rfl (fun K hK => ?_)
    have htx := text_src w4 s
    rw [hsb.out] at htx
    refine wp_append_mine _ _ 22 9 rfl 5 i0 (.int .u8 0) 1 1 Try.underlying22 hi hz0 hz1 hz2 rfl rfl ho4 rfl htx (by unfold maxLen; omega) (by omega) (fun A5 c5 w5 ho5 hg5 hat5 => ?_)
    rw [hqr.out, hqrl.out] at ho5
    rw [hqrl.out]
    have hb5 := hb4.grown hg5 hne4
    have hu6 : Upd (fun x => some x = row) w w5 := hu5.grown hg5 (fun k e hk => by
      rcases hf5 with e5 | e5
      · rw [← e5]; exact e.symm
      · have := e5 k e; omega)
    have hf6 : bOf A5 = row ∨ ∀ g, bOf A5 = some g → w.heap.size < g := by
      rcases hat5 with e | e
      · rw [e]; exact hf5
      · right; intro g hg; rw [e] at hg; cases hg; exact hb4.lt
    refine hK _ _ _ (fun _ h => h) (hb5.cell 3) ?_
    clear hK K
    try simp only [Act.put, List.setIfInBounds_toArray, List.set_cons_zero, List.set_cons_succ]
    repeat (first | (refine lexG_take _ ?_ rfl rfl rfl rfl (fun _ => ?_) ?_; rotate_left; (focus (go_simp; with_reducible rfl)); try simp only [Act.put, List.setIfInBounds_toArray, List.set_cons_zero, List.set_cons_succ]) | (refine lexG_held _ ?_ rfl rfl rfl rfl (by assumption) (fun _ hSw => ?_) ?_; rotate_left; (focus ((try dsimp only at hSw); go_simp; with_reducible rfl)); try simp only [Act.put, List.setIfInBounds_toArray, List.set_cons_zero, List.set_cons_succ]) | (refine lexG_skip _ rfl rfl (by assumption) ?_; try simp only [Act.put, List.setIfInBounds_toArray, List.set_cons_zero, List.set_cons_succ]))
    refine lexG_nil ?_
    go_wp2_with fail
    go_ret
    exact ⟨A5, c5, rfl, ho5, hu6, hf6.imp id (fun h g hg => Nat.le_of_lt (h g hg))⟩
end Go.Proofs.Ytafogjonicdbmaa
