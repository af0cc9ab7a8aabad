/- The link: Send. -/
import Derived.Test.YtflgmphghmkciaaLk2
import Derived.Deep.CutRange
set_option linter.unusedSimpArgs false
set_option linter.unusedVariables false
namespace Go.Proofs.Ytflgmphghmkciaa
open Go.RowKit
set_option maxRecDepth 100000

def sendD (d : LkD) (b : List UInt8) : LkD := { d with l := d.l ++ [(b, true)] }
/-- One message more. -/
theorem LinkX.pushM {col : Nat → Nat} {k : Nat} {w w7 w8 : World} {g : Nat} {own other : Nat} {l : List (List UInt8 × Bool)} {first came : Nat} {heard : Bool} {ticks : Nat} {A A8 : Option Addr} {c c8 cB n1 : Nat} {xs : List Value} {B : Option Addr} {b : List UInt8} (h : LinkX col k w g ⟨own, other, l, first, came, heard, ticks⟩ A c xs) (hc : Cx w col) (hb7 : Below w.heap.size w w7) (hn1 : l.length + 1 = n1)
    (ho8 : OwnO w8 47 2 A8 n1 c8 (xs ++ [.slice B b.length cB, .bool true])) (hg8 : w7.grownBy w8 (bOf A)) (hat : bOf A8 = bOf A ∨ bOf A8 = some w7.heap.size) (hB : Own w7 5 1 B b.length cB (bys b)) (hB' : ∀ y, bOf B = some y → w.heap.size ≤ y) :
    ∃ col', Stp col k w col' (w8.setCell ⟨g, 2, none⟩ (.slice A8 n1 c8)) ∧ LinkC col' k (w8.setCell ⟨g, 2, none⟩ (.slice A8 n1 c8)) g (sendD ⟨own, other, l, first, came, heard, ticks⟩ b) := by
  have hX7 := h.below hc hb7
  have hc7 := hc.below hb7
  obtain ⟨col', hs8, hA8⟩ := Stp.grown hc7 hg8 hX7.cA (fun y hy => ho8.lt hy) hat
  have hs78 := (Stp.below (k := k) hc hb7).trans hs8
  have hne : bOf A ≠ some g := fun e => h.neA g e rfl
  have hg8' : Blk w8 g 44 (LkD.cells ⟨own, other, l, first, came, heard, ticks⟩ A c) := hX7.blk.grown hg8 (fun e => hne e.symm)
  have hgc : col' g = k := (hs8.ext g hX7.lt).trans hX7.cg
  have hs9 : Stp col' k w8 col' (w8.setCell ⟨g, 2, none⟩ (.slice A8 n1 c8)) := Stp.cell hs8.cx (p := ⟨g, 2, none⟩) hgc _
  have hFB : FrB col w7 B b := FrB.own hB (fun y hy => hc y (hB' y hy))
  have hgA8 : ∀ y, bOf A8 = some y → y ≠ g := fun y hy e => by
    rcases hat with e2 | e2 <;> rw [e2] at hy
    · exact hne (by rw [hy, e])
    · have := hX7.lt; injection hy with hy; omega
  have hlx := h.ho.len
  refine ⟨col', hs78.trans hs9, A8, c8, xs ++ [.slice B b.length cB, .bool true], ?_, ?_, fun j m hj => ?_, hgc, hA8, h.k0⟩
  · have := hg8'.set_ 2 (.slice A8 n1 c8)
    unfold sendD LkD.cells at *
    simp only [List.length_append, List.length_cons, List.length_nil, Nat.zero_add, hn1]
    simpa using this
  · have := ho8.upd (Upd.set_ w8 ⟨g, 2, none⟩ (.slice A8 n1 c8)) (fun y hy e => hgA8 y hy e)
    unfold sendD
    simp only [List.length_append, List.length_cons, List.length_nil, Nat.zero_add, hn1]
    exact this
  · unfold sendD at hj
    dsimp only at hj hlx
    rcases Nat.lt_trichotomy j l.length with hlt | hlt | hlt
    · rw [List.getElem?_append_left hlt] at hj
      obtain ⟨B', cB', h1, h2, h3⟩ := h.hx j m hj
      exact ⟨B', cB', by rw [List.getElem?_append_left (by omega)]; exact h1, by rw [List.getElem?_append_left (by omega)]; exact h2, h3.keep (hs78.trans hs9) h.k0⟩
    · subst hlt
      rw [List.getElem?_append_right (Nat.le_refl _), Nat.sub_self] at hj
      cases hj
      exact ⟨B, cB, by rw [List.getElem?_append_right (by omega), hlx, Nat.sub_self]; rfl, by rw [List.getElem?_append_right (by omega), show l.length * 2 + 1 - xs.length = 1 from by omega]; rfl, hFB.keep (hs8.trans hs9) h.k0⟩
    · rw [List.getElem?_eq_none (by rw [List.length_append, List.length_singleton]; omega)] at hj; cases hj
set_option maxHeartbeats 3200000 in
theorem lk_send_ok {col : Nat → Nat} {k : Nat} {w : World} {g : Nat} {d : LkD} {b : List UInt8} {B : Option Addr} {cB : Nat} (hc : Cx w col) (h : LinkC col k w g d) (hd : d.l.length < 8) (hr : Reads w w.heap.size 1 B b.length (bys b)) (hb : b.length ≤ 60000) : Calls Try.prog 6 #[lnk g, .slice B b.length cB] w (Lnk col k w g (sendD d b) (.bool true)) := by
  obtain ⟨i0, hi, hz0, hz1, hz2⟩ := info_parts info_msg
  obtain ⟨A, c, xs, h⟩ := h
  have h2 := h.c2
  have hblk := h.blk
  obtain ⟨own, other, l, first, came, heard, ticks⟩ := d
  dsimp only at h2 hd
  have hoA := h.ho
  dsimp only at hoA
  obtain ⟨N, hN⟩ : ∃ N, l.length = N := ⟨_, rfl⟩
  have hblk2 : ∀ (S : Nat → Prop) (W : World), Upd S w W → ¬ S g → W.cell? ⟨g, 2, none⟩ = some (.slice A N c) := fun _ _ hu hn => by rw [← hN]; exact (hblk.upd hu hn).cell 2
  have hblkf : ∀ (S : Nat → Prop) (W : World), Upd S w W → ¬ S g → W.frozen? ⟨g, 2, none⟩ = false := fun _ _ hu hn => (hblk.upd hu hn).frozen 2
  replace hblk2 := Lib.hid hblk2
  replace hblkf := Lib.hid hblkf
  rw [hN] at h2 hd hoA
  obtain ⟨n, hn⟩ : ∃ n, b.length = n := ⟨_, rfl⟩
  have d1 : decide (8 ≤ (N : Int)) = false := decide_eq_false (by omega)
  have d2 : decide (60000 < (n : Int)) = false := decide_eq_false (by omega)
  have hgA : ¬ bOf A = some g := fun e => h.neA g e rfl
  have hcl := fun W (hW : Below w.heap.size w W) => clone_bytes (c := cB) (hr.below hW) hW.size (by omega)
  rw [hn] at hcl
  have hn' : n ≤ 60000 := by omega
  replace hn := Lib.hid hn
  replace hN := Lib.hid hN
  replace h := Lib.hid h
  unfold lnk
  rw [hn.out]
  go_enter Try.func6, Try.ntmps6
  go_upto_region 3 with (fail)
  have hS0 : Upd (fun y => bOf A = some y) w w.drew := Upd.of_below_size (Below.refl _ _).drew
  refine wp_region_lex (fun W => Upd (fun y => bOf A = some y) w W) [4] [6, 8, 9, 12] [0, 1, 2, 3, 4, 5, 6, 7, 8, 9, 10, 11, 12] (by kernel_rfl) rfl (by kernel_rfl) (by kernel_rfl) (fun _ _ d _ _ h => by cases d <;> exact h) ?_
  repeat (first | (refine lexG_take _ ?_ rfl rfl rfl rfl (fun _ => ?_) ?_; rotate_left; (focus (go_simp; with_reducible rfl)); try simp only [Act.put, List.setIfInBounds_toArray, List.set_cons_zero, List.set_cons_succ]) | (refine lexG_held _ ?_ rfl rfl rfl rfl (by assumption) (fun _ hSw => ?_) ?_; rotate_left; (focus (have h1 := hblk2.out _ _ hSw hgA; clear hSw; go_simp; with_reducible rfl)); try simp only [Act.put, List.setIfInBounds_toArray, List.set_cons_zero, List.set_cons_succ]) | (refine lexG_skip _ rfl rfl (by assumption) ?_; try simp only [Act.put, List.setIfInBounds_toArray, List.set_cons_zero, List.set_cons_succ]))
  have hcl1 := hcl w.drew (Below.refl _ _).drew
  refine lexG_now _ rfl rfl rfl (fun K0 hK => ?_)
  go_wp2_with fail
  refine hcl1.mono ?_
  clear hcl1
  rintro e w6 ⟨B', cB', rfl, hoB, hb6, hB'⟩
  try dsimp only
  rw [hn.out] at hoB ⊢
  have hb06 : Below w.heap.size w w6 := below_then hb6 (Below.refl w.heap.size w).drew
  refine hK _ _ _ (fun _ h => h) (Upd.of_below_size hb06) ?_
  clear hK K0
  try simp only [Act.put, List.setIfInBounds_toArray, List.set_cons_zero, List.set_cons_succ]
  repeat (first | (refine lexG_take _ ?_ rfl rfl rfl rfl (fun _ => ?_) ?_; rotate_left; (focus (go_simp; with_reducible rfl)); try simp only [Act.put, List.setIfInBounds_toArray, List.set_cons_zero, List.set_cons_succ]) | (refine lexG_held _ ?_ rfl rfl rfl rfl (by assumption) (fun _ hSw => ?_) ?_; rotate_left; (focus (have h1 := hblk2.out _ _ hSw hgA; clear hSw; go_simp; with_reducible rfl)); try simp only [Act.put, List.setIfInBounds_toArray, List.set_cons_zero, List.set_cons_succ]) | (refine lexG_skip _ rfl rfl (by assumption) ?_; try simp only [Act.put, List.setIfInBounds_toArray, List.set_cons_zero, List.set_cons_succ]))
  have hsrc := Reads.lit (size := 2) w6 #[.slice B' n cB', .bool true] 47 (0, 0) 1 [.slice B' n cB', .bool true] rfl rfl
  have hb67 := (Below.refl w6.heap.size w6).alloc (Nat.le_refl _) (.cells #[.slice B' n cB', .bool true] 47)
  have hb07 : Below w.heap.size w (w6.alloc (.cells #[.slice B' n cB', .bool true] 47)) := hb06.alloc hb06.size _
  have hoB7 := hoB.below hb67 (Nat.le_refl _)
  refine lexG_now _ rfl rfl rfl (fun K0 hK => ?_)
  go_wp2_with fail
  generalize w6.alloc (.cells #[.slice B' n cB', .bool true] 47) = w7 at *
  refine hK _ _ _ (fun _ h => h) (Upd.of_below_size hb07) ?_
  clear hK K0
  try simp only [Act.put, List.setIfInBounds_toArray, List.set_cons_zero, List.set_cons_succ]
  repeat (first | (refine lexG_take _ ?_ rfl rfl rfl rfl (fun _ => ?_) ?_; rotate_left; (focus (go_simp; with_reducible rfl)); try simp only [Act.put, List.setIfInBounds_toArray, List.set_cons_zero, List.set_cons_succ]) | (refine lexG_held _ ?_ rfl rfl rfl rfl (by assumption) (fun _ hSw => ?_) ?_; rotate_left; (focus (have h1 := hblk2.out _ _ hSw hgA; clear hSw; go_simp; with_reducible rfl)); try simp only [Act.put, List.setIfInBounds_toArray, List.set_cons_zero, List.set_cons_succ]) | (refine lexG_skip _ rfl rfl (by assumption) ?_; try simp only [Act.put, List.setIfInBounds_toArray, List.set_cons_zero, List.set_cons_succ]))
  have ho7 := hoA.below hb07 (Nat.le_refl _)
  refine lexG_now _ rfl rfl rfl (fun K0 hK => ?_)
  refine wp_append_off _ _ 42 42 rfl 47 i0 _ 2 32 Try.underlying42 hi hz0 hz1 hz2 rfl rfl ho7 rfl (Src.ofReads Try.underlying42 _ hsrc (by intro u hu; simp only [List.mem_cons, List.not_mem_nil, or_false] at hu; rcases hu with rfl | rfl <;> rfl)) (by unfold maxLen; omega) (by omega) (fun A8 c8 w8 ho8 hg8 hat8 => ?_)
  have hU8 := (Upd.of_below_size (S := fun y => bOf A = some y) hb07).grown hg8 (fun k e _ => e)
  refine hK _ _ _ (fun _ h => h) hU8 ?_
  clear hK K0
  try simp only [Act.put, List.setIfInBounds_toArray, List.set_cons_zero, List.set_cons_succ]
  repeat (first | (refine lexG_take _ ?_ rfl rfl rfl rfl (fun _ => ?_) ?_; rotate_left; (focus (go_simp; with_reducible rfl)); try simp only [Act.put, List.setIfInBounds_toArray, List.set_cons_zero, List.set_cons_succ]) | (refine lexG_held _ ?_ rfl rfl rfl rfl (by assumption) (fun _ hSw => ?_) ?_; rotate_left; (focus (have h1 := hblk2.out _ _ hSw hgA; clear hSw; go_simp; with_reducible rfl)); try simp only [Act.put, List.setIfInBounds_toArray, List.set_cons_zero, List.set_cons_succ]) | (refine lexG_skip _ rfl rfl (by assumption) ?_; try simp only [Act.put, List.setIfInBounds_toArray, List.set_cons_zero, List.set_cons_succ]))
  have k2 := hblk2.out _ _ hU8 hgA
  have f2 := hblkf.out _ _ hU8 hgA
  have hend : ∃ col', Stp col k w col' (w8.setCell ⟨g, 2, none⟩ (.slice A8 (N + 1) c8)) ∧ LinkC col' k (w8.setCell ⟨g, 2, none⟩ (.slice A8 (N + 1) c8)) g (sendD ⟨own, other, l, first, came, heard, ticks⟩ b) :=
    h.out.pushM hc hb07 (by rw [hN.out]) (by rw [hn.out]; exact ho8) hg8 hat8 (by rw [hn.out]; exact hoB7) (fun y hy => by have := hB' y hy; exact this)
  replace hend := Lib.hid hend
  clear hsrc hoB hoB7 ho7 ho8 hg8 hat8 hU8
  refine lexG_nowF _ rfl rfl rfl (by kernel_rfl) (fun K0 hK => ?_)
  go_wp2_with fail
  try simp only [Act.put, List.setIfInBounds_toArray, List.set_cons_zero, List.set_cons_succ]
  refine lexG_nil ?_
  go_wp2_with fail
  go_ret
  exact ⟨rfl, hend.out⟩
theorem lk_send_no {col : Nat → Nat} {k : Nat} {w : World} {g : Nat} {d : LkD} {n : Nat} {B : Option Addr} {cB : Nat} (hc : Cx w col) (h : LinkC col k w g d) (hd : d.l.length = 8) : Calls Try.prog 6 #[lnk g, .slice B n cB] w (Lnk col k w g d (.bool false)) := by
  obtain ⟨A, c, xs, h⟩ := h
  have h2 := h.c2
  rw [hd] at h2
  replace h := Lib.hid h
  unfold lnk
  go_enter Try.func6, Try.ntmps6
  go_wp2_with fail
  go_ret
  exact ⟨rfl, col, Stp.refl hc, A, c, xs, h.out⟩
end Go.Proofs.Ytflgmphghmkciaa
