/- wire's reader at a text. -/
import Derived.Test.YtafogjonicdbmaaReadTree
namespace Go.Proofs.Ytafogjonicdbmaa
open Go.RowKit

set_option maxHeartbeats 1600000 in
theorem value_text {ad : Addr} {c B r at_ : Nat} {deep : Int} {b : List UInt8} {w : World} (h : RdAt w r (some ad) b.length c at_ deep) (hr : Reads w B 1 (some ad) b.length (bys b)) (hB : B ≤ r) (hc : b.length ≤ c) (hl : b.length ≤ 1000000000)
    (hat : at_ + 1 < b.length) (hv1 : readU ((b.drop at_).take 1) = 3) (t : List UInt8 × Nat × Nat) (ht : readT (b.drop (at_ + 1)) 256 = t) (o : Option (Val × Nat)) (ho : o = if t.2.2 = 0 then some (.mk 3 0 0 t.1 [], 1 + t.2.1) else none) (hte : t.2.2 = 0 ∨ t.2.2 = 20) (htn : t.2.1 ≤ 1000) :
    Calls Try.prog 35 #[.pointer (some ⟨r, 0, none⟩)] w (PRes w r ad b.length c at_ deep o) := by
  have hrl : r < w.heap.size := h.lt
  have hsf := fun a k x m w => run_store_float (P := Try.prog) a k x m w
  replace hv1 := Lib.hid hv1
  replace ht := Lib.hid ht
  replace ho := Lib.hid ho
  go_enter Try.func35, Try.ntmps35
  go_wp2_with fail
  refine (number_ok (k := 1) (Blk.alloc h _) (hr.alloc (by omega) _) hB hc hl (by omega) (by omega) (by omega) 3 hv1.out).mono ?_
  rintro e w1 ⟨rfl, h1, hu1⟩
  dsimp only
  have hz1 : Blk w1 w.heap.size 26 #[.int .i64 0, .int .i64 0, .float .f64 0, .string ⟨#[]⟩, .slice none 0 0] := (Blk.new w _ _).upd hu1 (by omega)
  have hwl1 : w.heap.size < w1.heap.size := hz1.lt
  have hr1 := (hr.alloc (by omega) (.cells #[.int .i64 0, .int .i64 0, .float .f64 0, .string ⟨#[]⟩, .slice none 0 0] 26)).upd hu1 (by omega) (by simp; omega)
  have hu := ((Upd.refl (fun x => x = r) w).alloc (.cells #[.int .i64 0, .int .i64 0, .float .f64 0, .string ⟨#[]⟩, .slice none 0 0] 26)).trans hu1 (fun _ _ h => h)
  have hz2 := hz1.alloc (.cells #[.int .i64 3, .int .i64 0, .float .f64 0, .string ⟨#[]⟩, .slice none 0 0] 26)
  have hy2 := Blk.new w1 26 #[.int .i64 3, .int .i64 0, .float .f64 0, .string ⟨#[]⟩, .slice none 0 0]
  have h2 := Blk.alloc h1 (.cells #[.int .i64 3, .int .i64 0, .float .f64 0, .string ⟨#[]⟩, .slice none 0 0] 26)
  have hu2 := hu.alloc (.cells #[.int .i64 3, .int .i64 0, .float .f64 0, .string ⟨#[]⟩, .slice none 0 0] 26)
  have hr2 := hr1.alloc (by omega) (.cells #[.int .i64 3, .int .i64 0, .float .f64 0, .string ⟨#[]⟩, .slice none 0 0] 26)
  have hs2 : (w1.alloc (.cells #[.int .i64 3, .int .i64 0, .float .f64 0, .string ⟨#[]⟩, .slice none 0 0] 26)).heap.size = w1.heap.size + 1 := by simp
  clear hz1 hr1 hu h1 hu1
  go_wp2_with fail
  generalize w1.alloc (.cells #[.int .i64 3, .int .i64 0, .float .f64 0, .string ⟨#[]⟩, .slice none 0 0] 26) = w2 at *
  generalize w1.heap.size = y at *
  obtain ⟨m, hm⟩ : ∃ m, b.length = m := ⟨_, rfl⟩
  obtain ⟨d, hd⟩ : ∃ d, b.drop (at_ + 1) = d := ⟨_, rfl⟩
  have hdl : d.length = m - (at_ + 1) := by rw [← hd, List.length_drop, hm]
  have hcut := hr2.cut (k := at_ + 1) (cap := c) (by omega) hc
  rw [if_neg (by omega), Nat.mul_one, bys_drop, hd, hm, ← hdl] at hcut
  have hcut : Reads w2 B 1 (some (ad.add (at_ + 1))) d.length (bys d) := hcut
  have ht2 := ht.out
  rw [hd] at ht2
  rw [hm] at h2 hc hl hat ⊢
  replace ht2 := Lib.hid ht2
  replace hdl := Lib.hid hdl
  have hmi := Lib.hid hm
  clear ht hd hm hr hr2 hv1
  have hS : w2.drew.cell? ⟨r, 0, none⟩ = some (.slice (some ad) m c) ∧ w2.drew.cell? ⟨r, 1, none⟩ = some (.int .i64 ((at_ + 1 : Nat) : Int)) ∧ Below w2.heap.size w2 w2.drew := ⟨Blk.cell h2 0, Blk.cell h2 1, (Below.refl _ _).drew⟩
  have hac : at_ + 1 < c := by omega
  have hcast : ((at_ + 1 : Nat) : Int) = (at_ : Int) + 1 := by omega
  replace hcast := Lib.hid hcast
  obtain ⟨a1, ha1⟩ : ∃ a1, at_ + 1 = a1 := ⟨_, rfl⟩
  rw [ha1] at hS hac hcut hat h2
  replace ha1 := Lib.hid ha1
  have ham : a1 ≤ m := by omega
  have hmc : m ≤ c := hc
  refine wp_region_lex (fun W => W.cell? ⟨r, 0, none⟩ = some (.slice (some ad) m c) ∧ W.cell? ⟨r, 1, none⟩ = some (.int .i64 (a1 : Int)) ∧ Below w2.heap.size w2 W) [3, 7] [9] [0, 1, 2, 3, 4, 5, 6, 7, 8, 9, 10, 11, 12, 13, 14, 15, 16] (by kernel_rfl) rfl (by kernel_rfl) (by kernel_rfl) (fun _ _ d _ _ h => by cases d <;> exact h) ?_
  repeat (first | (refine lexG_take _ ?_ rfl rfl rfl rfl (fun _ => ?_) ?_; rotate_left; (focus (go_simp; with_reducible rfl)); try simp only [Act.put, List.setIfInBounds_toArray, List.set_cons_zero, List.set_cons_succ]) | (refine lexG_held _ ?_ rfl rfl rfl rfl (by assumption) (fun _ hSw => ?_) ?_; rotate_left; (focus ((try dsimp only at hSw); go_simp; with_reducible rfl)); try simp only [Act.put, List.setIfInBounds_toArray, List.set_cons_zero, List.set_cons_succ]) | (refine lexG_skip _ rfl rfl (by assumption) ?_; try simp only [Act.put, List.setIfInBounds_toArray, List.set_cons_zero, List.set_cons_succ]))
  refine lexG_now _ rfl rfl rfl (fun K hK => ?_)
  go_wp2_with fail
  have hdl2 := hdl.out
  rw [ha1.out] at hdl2
  rw [← hdl2]
  have hrt : r < w2.heap.size := Blk.lt h2
  refine (read_text (hcut.drew.more (by simp; omega)) (by omega) (by omega) ht2.out).mono ?_
  rintro e w3 ⟨rfl, hb3⟩
  dsimp only
  have hS3 : w3.cell? ⟨r, 0, none⟩ = some (.slice (some ad) m c) ∧ w3.cell? ⟨r, 1, none⟩ = some (.int .i64 (a1 : Int)) ∧ Below w2.heap.size w2 w3 := ⟨(hb3.cell (by show r < _; simpa using hrt)).trans hS.1, (hb3.cell (by show r < _; simpa using hrt)).trans hS.2.1, below_then hb3 hS.2.2⟩
  refine hK _ _ _ (fun _ h => h) hS3 ?_
  clear hK K hS hb3 hcut hdl2
  try simp only [Act.put, List.setIfInBounds_toArray, List.set_cons_zero, List.set_cons_succ]
  repeat (first | (refine lexG_take _ ?_ rfl rfl rfl rfl (fun _ => ?_) ?_; rotate_left; (focus (go_simp; with_reducible rfl)); try simp only [Act.put, List.setIfInBounds_toArray, List.set_cons_zero, List.set_cons_succ]) | (refine lexG_held _ ?_ rfl rfl rfl rfl (by assumption) (fun _ hSw => ?_) ?_; rotate_left; (focus ((try dsimp only at hSw); go_simp; with_reducible rfl)); try simp only [Act.put, List.setIfInBounds_toArray, List.set_cons_zero, List.set_cons_succ]) | (refine lexG_skip _ rfl rfl (by assumption) ?_; try simp only [Act.put, List.setIfInBounds_toArray, List.set_cons_zero, List.set_cons_succ]))
  refine lexG_nil ?_
  have h3 : RdAt w3 r (some ad) m c a1 deep := Blk.below h2 hS3.2.2 hrt
  have hz3 := hz2.below hS3.2.2 hz2.lt
  have hy3 := hy2.below hS3.2.2 hy2.lt
  have hu3 := hu2.thenBelow hS3.2.2 hu2.size
  have q1 := Blk.cell h3 1
  have hfr := Blk.frozen h3
  clear h2 hz2 hy2 hu2 hS3
  rcases hte with h0 | h20
  · have ho' := ho.out
    rw [if_pos h0] at ho'
    obtain ⟨s, n, e0⟩ := t
    dsimp only at h0 htn ho' ⊢
    subst h0
    replace ho' := Lib.hid ho'
    go_wp2_with fail
    refine (must_ok w3).mono ?_
    rintro e w4 ⟨rfl, rfl⟩
    dsimp only
    have g0 := hy3.cell 0
    have g1 := hy3.cell 1
    have g2 := hy3.cell 2
    have g3 := hy3.cell 3
    have g4 := hy3.cell 4
    have gf := hy3.frozen
    have hry : r ≠ y := by omega
    have hzy : w.heap.size ≠ y := by omega
    have hrz : r ≠ w.heap.size := by omega
    have hzs := ((hz3.far (p := ⟨y, 3, none⟩) hzy (.string (bstr s))).far (p := ⟨r, 1, none⟩) hrz.symm (.int .i64 ((a1 : Int) + (n : Int))))
    have hys := ((hy3.set_ 3 (.string (bstr s))).far (p := ⟨r, 1, none⟩) hry.symm (.int .i64 ((a1 : Int) + (n : Int))))
    have hRs := ((Blk.far h3 (p := ⟨y, 3, none⟩) hry (.string (bstr s))).set_ 1 (.int .i64 ((a1 : Int) + (n : Int))))
    have hus := (hu3.setCell (p := ⟨y, 3, none⟩) (fun h => absurd h (by show ¬ y < _; omega)) (.string (bstr s))).setCell (p := ⟨r, 1, none⟩) (fun _ => rfl) (.int .i64 ((a1 : Int) + (n : Int)))
    have hzf := hzs.row #[.int .i64 3, .int .i64 0, .float .f64 0, .string (bstr s), .slice none 0 0]
    have hRf := Blk.farRow hRs (g := w.heap.size) hrz #[.int .i64 3, .int .i64 0, .float .f64 0, .string (bstr s), .slice none 0 0]
    have hUf := hus.setRow (g := w.heap.size) (fun h => absurd h (Nat.lt_irrefl _)) #[.int .i64 3, .int .i64 0, .float .f64 0, .string (bstr s), .slice none 0 0]
    replace hRs := Lib.hid hRs
    replace hus := Lib.hid hus
    replace hys := Lib.hid hys
    replace h3 := Lib.hid h3
    replace hu3 := Lib.hid hu3
    go_wp2_with (refine store_row_gen rfl 26 (Operand.tmp 2) _ rfl w.heap.size #[.int .i64 3, .int .i64 0, .float .f64 0, .string (bstr s), .slice none 0 0] rfl rfl 26 _ hzs (by kernel_rfl) rfl (by simp [Value.oneCell']) (fun w6 hw6 => ?_); rw [← hw6] at hzf hRf hUf; clear hw6 hzs)
    have e1 : (a1 : Int) + (n : Int) = ((at_ + (1 + n) : Nat) : Int) := by have := ha1.out; omega
    have hRg := hRf
    rw [e1] at hRg
    refine bodyPost_ret (v := .agg #[.int .i64 3, .int .i64 0, .float .f64 0, .string (bstr s), .slice none 0 0]) ?hr rfl ?_
    case hr => exact results_cell_row rfl _ _ w.heap.size 26 _ (0, 0) _ rfl hzf Try.underlying26 rfl (by kernel_rfl)
    rw [ho'.out, hmi.out]
    exact ⟨_, rfl, VOwn.flat _ _ _ _ _ _, hRg, hUf⟩
  · have ho' := ho.out
    rw [if_neg (by omega)] at ho'
    rw [h20]
    replace ho' := Lib.hid ho'
    go_wp2_with fail
    refine (must_no w3).mono ?_
    rintro e w4 ⟨rfl, rfl⟩
    dsimp only
    go_wp2_with fail
    refine ⟨rfl, ?_⟩
    rw [ho'.out]
    exact ⟨rfl, hu3⟩
end Go.Proofs.Ytafogjonicdbmaa
