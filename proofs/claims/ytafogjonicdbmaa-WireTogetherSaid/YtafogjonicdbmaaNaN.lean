/- wire's reader and writer at a float. -/
import Derived.Test.YtafogjonicdbmaaFloat
namespace Go.Proofs.Ytafogjonicdbmaa
open Go.RowKit

set_option maxHeartbeats 1600000 in
theorem value_float {ad : Addr} {c B r at_ : Nat} {deep : Int} {b : List UInt8} {w : World} (h : RdAt w r (some ad) b.length c at_ deep) (hr : Reads w B 1 (some ad) b.length (bys b)) (hB : B ≤ r) (hc : b.length ≤ c) (hl : b.length ≤ 1000000000)
    (hat : at_ + 9 ≤ b.length) (hv1 : readU ((b.drop at_).take 1) = 2) (v : Nat) (hv : readU ((b.drop (at_ + 1)).take 8) = v) (hcb : cb v = v) :
    Calls Try.prog 35 #[.pointer (some ⟨r, 0, none⟩)] w (ValRes w r ad b.length c (at_ + 9) deep (.agg #[.int .i64 2, .int .i64 0, .float .f64 v, .string ⟨#[]⟩, .slice none 0 0])) := by
  have hrl : r < w.heap.size := h.lt
  have hfb := fun n w => run_frombits n w
  replace hcb := Lib.hid hcb
  have hsf := fun a k x m w => run_store_float (P := Try.prog) a k x m w
  replace hv := Lib.hid hv
  replace hv1 := Lib.hid hv1
  go_enter Try.func35, Try.ntmps35
  go_wp2_with fail
  refine (number_ok (k := 1) (Blk.alloc h _) (hr.alloc (by omega) _) hB hc hl (by omega) (by omega) (by omega) 2 hv1.out).mono ?_
  rintro e w1 ⟨rfl, h1, hu1⟩
  dsimp only
  go_wp2_with fail
  have hz1 : Blk w1 w.heap.size 26 #[.int .i64 0, .int .i64 0, .float .f64 0, .string ⟨#[]⟩, .slice none 0 0] := (Blk.new w _ _).upd hu1 (by omega)
  have hzl := hz1.lt
  have hwl1 : w.heap.size < w1.heap.size := hzl
  refine (number_ok (k := 8) (at_ := at_ + 1) (Blk.alloc h1 _) ((hr.alloc (by omega) _ |>.upd hu1 (by omega) (by simp; omega)).alloc (by omega) _) hB hc hl (by omega) (by omega) (by omega) v hv.out).mono ?_
  rintro e w2 ⟨rfl, h2, hu2⟩
  dsimp only
  have hz2 : Blk w2 w.heap.size 26 #[.int .i64 0, .int .i64 0, .float .f64 0, .string ⟨#[]⟩, .slice none 0 0] := (hz1.alloc _).upd hu2 (by omega)
  have hv2 : Blk w2 w1.heap.size 26 #[.int .i64 2, .int .i64 0, .float .f64 0, .string ⟨#[]⟩, .slice none 0 0] := (Blk.new w1 _ _).upd hu2 (by omega)
  have hu : Upd (fun x => x = r) w w2 := (((Upd.refl _ w).alloc _).trans hu1 (fun _ _ h => h)).alloc _ |>.trans hu2 (fun _ _ h => h)
  have c0 := hz2.cell 0
  have c1 := hz2.cell 1
  have c2 := hz2.cell 2
  have c3 := hz2.cell 3
  have c4 := hz2.cell 4
  have d0 := hv2.cell 0
  have d1 := hv2.cell 1
  have d2 := hv2.cell 2
  have d3 := hv2.cell 3
  have d4 := hv2.cell 4
  have f0 := hz2.frozen
  have f1 := hv2.frozen
  have hne : w.heap.size ≠ w1.heap.size := by omega
  have hrz : r ≠ w.heap.size := by omega
  have hry : r ≠ w1.heap.size := by omega
  have hnz : ¬ w.heap.size < w.heap.size := by omega
  have hny : ¬ w1.heap.size < w.heap.size := by omega
  replace h2 := Lib.hid h2
  replace hu := Lib.hid hu
  generalize hzw : w.heap.size = z at *
  generalize w1.heap.size = y at *
  replace hzw := Lib.hid hzw
  go_wp2_with fail
  refine (num_bits v _).mono ?_
  rintro e w3 ⟨rfl, rfl⟩
  dsimp only
  rw [hcb.out]
  go_wp2_with fail
  refine (must_ok _).mono ?_
  rintro e w3 ⟨rfl, rfl⟩
  dsimp only
  go_wp2_with fail
  have hzf := (((((hz2.far (p := ⟨y, 2, none⟩) hne (.float .f64 v)).set_ 0 (.int .i64 2)).set_ 1 (.int .i64 0)).set_ 2 (.float .f64 v)).set_ 3 (.string ⟨#[]⟩)).set_ 4 (.slice none 0 0)
  have hRf := (((((Blk.far h2.out (p := ⟨y, 2, none⟩) hry (.float .f64 v)).far (p := ⟨z, 0, none⟩) hrz (.int .i64 2)).far (p := ⟨z, 1, none⟩) hrz (.int .i64 0)).far (p := ⟨z, 2, none⟩) hrz (.float .f64 v)).far (p := ⟨z, 3, none⟩) hrz (.string ⟨#[]⟩)).far (p := ⟨z, 4, none⟩) hrz (.slice none 0 0)
  have hUf := (((((hu.out.setCell (p := ⟨y, 2, none⟩) (fun h => absurd (hzw.out ▸ h) hny) (.float .f64 v)).setCell (p := ⟨z, 0, none⟩) (fun h => absurd (hzw.out ▸ h) hnz) (.int .i64 2)).setCell (p := ⟨z, 1, none⟩) (fun h => absurd (hzw.out ▸ h) hnz) (.int .i64 0)).setCell (p := ⟨z, 2, none⟩) (fun h => absurd (hzw.out ▸ h) hnz) (.float .f64 v)).setCell (p := ⟨z, 3, none⟩) (fun h => absurd (hzw.out ▸ h) hnz) (.string ⟨#[]⟩)).setCell (p := ⟨z, 4, none⟩) (fun h => absurd (hzw.out ▸ h) hnz) (.slice none 0 0)
  refine bodyPost_ret ?hr rfl ⟨rfl, hRf, hUf⟩
  case hr => exact results_cell_row rfl _ _ z 26 _ (0, 0) _ rfl hzf Try.underlying26 rfl (by kernel_rfl)

set_option maxHeartbeats 1600000 in
theorem value_float_no {ad : Addr} {c B r at_ : Nat} {deep : Int} {b : List UInt8} {w : World} (h : RdAt w r (some ad) b.length c at_ deep) (hr : Reads w B 1 (some ad) b.length (bys b)) (hB : B ≤ r) (hc : b.length ≤ c) (hl : b.length ≤ 1000000000)
    (hat : at_ + 9 ≤ b.length) (hv1 : readU ((b.drop at_).take 1) = 2) (v : Nat) (hv : readU ((b.drop (at_ + 1)).take 8) = v) (hcb : cb v ≠ v) :
    Calls Try.prog 35 #[.pointer (some ⟨r, 0, none⟩)] w (fun e w' => e = .panicked shortP ∧ Upd (fun x => x = r) w w') := by
  have hrl : r < w.heap.size := h.lt
  have hfb := fun n w => run_frombits n w
  replace hcb := Lib.hid hcb
  have hsf := fun a k x m w => run_store_float (P := Try.prog) a k x m w
  replace hv := Lib.hid hv
  replace hv1 := Lib.hid hv1
  go_enter Try.func35, Try.ntmps35
  go_wp2_with fail
  refine (number_ok (k := 1) (Blk.alloc h _) (hr.alloc (by omega) _) hB hc hl (by omega) (by omega) (by omega) 2 hv1.out).mono ?_
  rintro e w1 ⟨rfl, h1, hu1⟩
  dsimp only
  go_wp2_with fail
  have hz1 : Blk w1 w.heap.size 26 #[.int .i64 0, .int .i64 0, .float .f64 0, .string ⟨#[]⟩, .slice none 0 0] := (Blk.new w _ _).upd hu1 (by omega)
  have hzl := hz1.lt
  have hwl1 : w.heap.size < w1.heap.size := hzl
  refine (number_ok (k := 8) (at_ := at_ + 1) (Blk.alloc h1 _) ((hr.alloc (by omega) _ |>.upd hu1 (by omega) (by simp; omega)).alloc (by omega) _) hB hc hl (by omega) (by omega) (by omega) v hv.out).mono ?_
  rintro e w2 ⟨rfl, h2, hu2⟩
  dsimp only
  have hz2 : Blk w2 w.heap.size 26 #[.int .i64 0, .int .i64 0, .float .f64 0, .string ⟨#[]⟩, .slice none 0 0] := (hz1.alloc _).upd hu2 (by omega)
  have hv2 : Blk w2 w1.heap.size 26 #[.int .i64 2, .int .i64 0, .float .f64 0, .string ⟨#[]⟩, .slice none 0 0] := (Blk.new w1 _ _).upd hu2 (by omega)
  have hu : Upd (fun x => x = r) w w2 := (((Upd.refl _ w).alloc _).trans hu1 (fun _ _ h => h)).alloc _ |>.trans hu2 (fun _ _ h => h)
  have c0 := hz2.cell 0
  have c1 := hz2.cell 1
  have c2 := hz2.cell 2
  have c3 := hz2.cell 3
  have c4 := hz2.cell 4
  have d0 := hv2.cell 0
  have d1 := hv2.cell 1
  have d2 := hv2.cell 2
  have d3 := hv2.cell 3
  have d4 := hv2.cell 4
  have f0 := hz2.frozen
  have f1 := hv2.frozen
  have hne : w.heap.size ≠ w1.heap.size := by omega
  have hrz : r ≠ w.heap.size := by omega
  have hry : r ≠ w1.heap.size := by omega
  have hnz : ¬ w.heap.size < w.heap.size := by omega
  have hny : ¬ w1.heap.size < w.heap.size := by omega
  replace h2 := Lib.hid h2
  replace hu := Lib.hid hu
  generalize hzw : w.heap.size = z at *
  generalize w1.heap.size = y at *
  replace hzw := Lib.hid hzw
  go_wp2_with fail
  refine (num_bits v _).mono ?_
  rintro e w3 ⟨rfl, rfl⟩
  dsimp only
  have hneI : ((cb v : Nat) : Int) ≠ (v : Int) := by have := hcb.out; omega
  have hneB : (((cb v : Nat) : Int) == (v : Int)) = false := by rw [beq_eq_false_iff_ne]; exact hneI
  generalize ((cb v : Nat) : Int) = cv at hneI hneB ⊢
  go_wp2_with fail
  refine (must_no _).mono ?_
  rintro e w3 ⟨rfl, rfl⟩
  dsimp only
  go_wp2_with fail
  exact ⟨rfl, rfl, hu.out.setCell (p := ⟨y, 2, none⟩) (fun h => absurd (hzw.out ▸ h) hny) (.float .f64 v)⟩

set_option maxHeartbeats 800000 in
theorem put_float {A : Option Addr} {c : Nat} {bs r : List UInt8} {k i : Int} {f : Nat} {s : ByteArray} {A' : Option Addr} {n' c' : Nat} {w : World} (hk : k = 2) (h : Own w 5 1 A bs.length c (bys bs)) (hl : bs.length ≤ 1000000000) (hf : cb f < 18446744073709551616) (hr : bs ++ (2 :: putU (cb f) 8) = r) :
    Calls Try.prog 30 #[.slice A bs.length c, .agg #[.int .i64 k, .int .i64 i, .float .f64 f, .string s, .slice A' n' c']] w (PutBytes w A r) := by
  subst hk
  obtain ⟨i0, hi, hz0, hz1, hz2⟩ := info_parts info_u8
  obtain ⟨q, hq⟩ : ∃ q, bs ++ [2] = q := ⟨_, rfl⟩
  have hql : bs.length + 1 = q.length := by rw [← hq]; simp
  have hqr : q ++ putU (cb f) 8 = r := by rw [← hr, ← hq]; simp
  have hqb : bys bs ++ [.int .u8 2] = bys q := by rw [← hq, bys_append]; rfl
  have hqbl : q.length ≤ 1000000100 := by omega
  replace hf := Lib.hid hf
  clear hr
  replace hq := Lib.hid hq
  replace hql := Lib.hid hql
  replace hqr := Lib.hid hqr
  replace hqb := Lib.hid hqb
  go_enter Try.func30, Try.ntmps30
  have hb := Blk.new w 26 #[.int .i64 2, .int .i64 i, .float .f64 f, .string s, .slice A' n' c']
  have hsrc := Reads.lit (size := 1) (w.alloc (.cells #[.int .i64 2, .int .i64 i, .float .f64 f, .string s, .slice A' n' c'] 26)) #[.int .u8 2] 5 (0, 0) 1 [.int .u8 2] rfl rfl
  have hew : (w.alloc (.cells #[.int .i64 2, .int .i64 i, .float .f64 f, .string s, .slice A' n' c'] 26)).heap.size = w.heap.size + 1 := by simp
  rw [hew] at hsrc
  replace hew := Lib.hid hew
  replace hb := Lib.hid hb
  go_wp2_with (at_builtin; go_must (refine wpList_append_mine rfl _ _ 22 22 rfl 5 i0 (.int .u8 0) 1 1 Try.underlying22 hi hz0 hz1 hz2 rfl rfl ((h.alloc _).alloc _) rfl (Src.ofReads Try.underlying22 _ hsrc (by intro u hu; simp at hu; subst hu; rfl)) ?b1 ?b2 ?grow))
  case b1 => unfold maxLen; omega
  case b2 => omega
  case grow =>
    intro A3 c3 w3 ho3 hg3 hat3
    rw [hqb.out, hql.out] at ho3
    rw [hql.out]
    have hb1 := (hb.out.alloc (.cells #[.int .u8 2] 5)).grown hg3 (fun e => absurd (h.lt e.symm) (Nat.lt_irrefl _))
    have hu3 : Upd (fun x => some x = bOf A) w w3 := (((Upd.refl _ w).alloc _).alloc _).grown hg3 (fun k e _ => e.symm)
    have hf3 : bOf A3 = bOf A ∨ ∀ g, bOf A3 = some g → w.heap.size ≤ g := by
      rcases hat3 with e | e
      · exact .inl e
      · right; intro g hg; rw [e] at hg; simp at hg; omega
    clear hat3 hg3 hsrc
    have e0 := hb1.cell 0
    have e1 := hb1.cell 1
    have e2 := hb1.cell 2
    go_wp2_with fail
    refine (num_bits f _).mono ?_
    rintro e w3' ⟨rfl, rfl⟩
    dsimp only
    go_wp2_with fail
    refine (wire_put (m := 8) ho3.reads_ (Nat.le_refl _) (by omega) hf.out).mono ?_
    rw [show n8 8 = 8 from rfl, hqr.out]
    rintro e w4 ⟨A4, c4, rfl, ho4, hb4, hg4⟩
    dsimp only
    go_wp2_with fail
    go_ret
    exact ⟨A4, c4, rfl, ho4, hu3.thenBelow hb4 hu3.size, .inr fun g hg => Nat.le_trans hu3.size (hg4 g hg)⟩

set_option maxHeartbeats 800000 in
theorem wire_put_float {A : Option Addr} {c B : Nat} {bs r : List UInt8} {k i : Int} {f : Nat} {s : ByteArray} {A' : Option Addr} {n c' : Nat} {w : World} (hk : k = 2) (hs : s.size ≤ 256) (h : Reads w B 1 A bs.length (bys bs)) (hB : B ≤ w.heap.size) (hl : bs.length ≤ 1000000000) (hf : cb f < 18446744073709551616) (hr : bs ++ (2 :: putU (cb f) 8) = r) :
    Calls Try.prog 11 #[.slice A bs.length c, .agg #[.int .i64 k, .int .i64 i, .float .f64 f, .string s, .slice A' n c']] w (fun e w' => ∃ A2 c2, e = .returned (.tuple #[.slice A2 r.length c2, .int .i64 0]) ∧ Own w' 5 1 A2 r.length c2 (bys r) ∧ Below w.heap.size w w' ∧ ∀ g, bOf A2 = some g → w.heap.size ≤ g) := by
  have hS := SV.alloc w (Below.refl _ _) k i f s A' n c'
  replace hr := Lib.hid hr
  replace hk := Lib.hid hk
  replace hf := Lib.hid hf
  go_enter Try.func11, Try.ntmps11
  go_wp2_with fail
  have hr1 := h.alloc hB (.cells #[.int .i64 k, .int .i64 i, .float .f64 f, .string s, .slice A' n c'] 26)
  generalize w.alloc (.cells #[.int .i64 k, .int .i64 i, .float .f64 f, .string s, .slice A' n c'] 26) = w1 at hS hr1 ⊢
  obtain ⟨b, hb⟩ : ∃ b, w.heap.size = b := ⟨_, rfl⟩
  rw [hb] at hS hB ⊢
  replace hb := Lib.hid hb
  refine (val_check_num k i f s A' n c' w1 (.inr hk.out) hs).mono ?_
  rintro e w2 ⟨rfl, hb2⟩
  dsimp only
  have hS2 := hS.below hb2
  have hb1s := hS.2.2.2.2.2.2
  have hr2 := hr1.below (hb2.mono (by omega))
  clear hS hr1
  have hS3 : w2.drew.cell? ⟨b, 0, none⟩ = some (.int .i64 k) ∧ w2.drew.cell? ⟨b, 1, none⟩ = some (.int .i64 i) ∧ w2.drew.cell? ⟨b, 2, none⟩ = some (.float .f64 f) ∧ w2.drew.cell? ⟨b, 3, none⟩ = some (.string s) ∧ w2.drew.cell? ⟨b, 4, none⟩ = some (.slice A' n c') ∧ Below w.heap.size w w2.drew ∧ b < w2.drew.heap.size := hS2.drew
  clear hS2
  go_wp2_with fail
  refine wp_region_lex (fun W => W.cell? ⟨b, 0, none⟩ = some (.int .i64 k) ∧ W.cell? ⟨b, 1, none⟩ = some (.int .i64 i) ∧ W.cell? ⟨b, 2, none⟩ = some (.float .f64 f) ∧ W.cell? ⟨b, 3, none⟩ = some (.string s) ∧ W.cell? ⟨b, 4, none⟩ = some (.slice A' n c') ∧ Below w.heap.size w W ∧ b < W.heap.size) [2] [1, 3] [0, 2, 1, 3, 4, 5] (by kernel_rfl) rfl (by kernel_rfl) (by kernel_rfl) (fun _ _ d _ _ h => by cases d <;> exact h) ?_
  repeat (first | (refine lexG_take _ ?_ rfl rfl rfl rfl (fun _ => ?_) ?_; rotate_left; (focus (go_simp; with_reducible rfl)); try simp only [Act.put, List.setIfInBounds_toArray, List.set_cons_zero, List.set_cons_succ]) | (refine lexG_held _ ?_ rfl rfl rfl rfl (by assumption) (fun _ hSw => ?_) ?_; rotate_left; (focus ((try dsimp only at hSw); go_simp; with_reducible rfl)); try simp only [Act.put, List.setIfInBounds_toArray, List.set_cons_zero, List.set_cons_succ]) | (refine lexG_skip _ rfl rfl (by assumption) ?_; try simp only [Act.put, List.setIfInBounds_toArray, List.set_cons_zero, List.set_cons_succ]))
  refine lexG_now _ rfl rfl rfl (fun K hK => ?_)
  go_wp2_with fail
  refine (clone_bytes (B := B) (hr2.drew) (by have := hS3.2.2.2.2.2.2; omega) (by omega)).mono ?_
  rintro e w3 ⟨A3, c3, rfl, ho3, hb3, hg3⟩
  dsimp only
  have hS4 : w3.cell? ⟨b, 0, none⟩ = some (.int .i64 k) ∧ w3.cell? ⟨b, 1, none⟩ = some (.int .i64 i) ∧ w3.cell? ⟨b, 2, none⟩ = some (.float .f64 f) ∧ w3.cell? ⟨b, 3, none⟩ = some (.string s) ∧ w3.cell? ⟨b, 4, none⟩ = some (.slice A' n c') ∧ Below w.heap.size w w3 ∧ b < w3.heap.size := SV.below hS3 hb3
  refine hK _ _ _ (fun _ h => h) hS4 ?_
  have hbg : ∀ g, bOf A3 = some g → b ≤ g := fun g hg => Nat.le_trans (Nat.le_of_lt hS3.2.2.2.2.2.2) (hg3 g hg)
  clear hK K hS3 hr2 hb2
  try simp only [Act.put, List.setIfInBounds_toArray, List.set_cons_zero, List.set_cons_succ]
  repeat (first | (refine lexG_take _ ?_ rfl rfl rfl rfl (fun _ => ?_) ?_; rotate_left; (focus (go_simp; with_reducible rfl)); try simp only [Act.put, List.setIfInBounds_toArray, List.set_cons_zero, List.set_cons_succ]) | (refine lexG_held _ ?_ rfl rfl rfl rfl (by assumption) (fun _ hSw => ?_) ?_; rotate_left; (focus ((try dsimp only at hSw); go_simp; with_reducible rfl)); try simp only [Act.put, List.setIfInBounds_toArray, List.set_cons_zero, List.set_cons_succ]) | (refine lexG_skip _ rfl rfl (by assumption) ?_; try simp only [Act.put, List.setIfInBounds_toArray, List.set_cons_zero, List.set_cons_succ]))
  refine lexG_nowF _ rfl rfl rfl (by kernel_rfl) (fun K hK => ?_)
  go_wp2_with fail
  refine (put_float hk.out ho3 hl hf.out hr.out).mono ?_
  rintro e w4 ⟨A4, c4, rfl, ho4, hu4, hg4⟩
  dsimp only
  refine hK _ _ ?_
  clear hK K
  try simp only [Act.put, List.setIfInBounds_toArray, List.set_cons_zero, List.set_cons_succ]
  repeat (first | (refine lexG_take _ ?_ rfl rfl rfl rfl (fun _ => ?_) ?_; rotate_left; (focus (go_simp; with_reducible rfl)); try simp only [Act.put, List.setIfInBounds_toArray, List.set_cons_zero, List.set_cons_succ]) | (refine lexG_held _ ?_ rfl rfl rfl rfl (by assumption) (fun _ hSw => ?_) ?_; rotate_left; (focus ((try dsimp only at hSw); go_simp; with_reducible rfl)); try simp only [Act.put, List.setIfInBounds_toArray, List.set_cons_zero, List.set_cons_succ]) | (refine lexG_skip _ rfl rfl (by assumption) ?_; try simp only [Act.put, List.setIfInBounds_toArray, List.set_cons_zero, List.set_cons_succ]))
  refine lexG_nil ?_
  go_wp2_with fail
  go_ret2
  refine ⟨A4, c4, rfl, ho4, hS4.2.2.2.2.2.1.trans (hu4.below (by have := hS4.2.2.2.2.2.1.size; omega) (fun k hk he => by have := hbg k he.symm; rw [hb.out] at hk; omega)), fun g hg => ?_⟩
  rcases hg4 with e | e
  · rw [hb.out]; exact hbg g (by rw [← e, hg])
  · exact Nat.le_trans hS4.2.2.2.2.2.1.size (e g hg)
end Go.Proofs.Ytafogjonicdbmaa
