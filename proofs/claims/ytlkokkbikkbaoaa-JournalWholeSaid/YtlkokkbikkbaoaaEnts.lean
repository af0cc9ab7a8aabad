/- choirhelp.Entries at the same log twice; choirlaw21.same. -/
import Derived.Test.YtlkokkbikkbaoaaJKnown
set_option linter.unusedSimpArgs false
set_option linter.unusedVariables false
set_option linter.unusedSimpArgs false
set_option linter.unusedVariables false
namespace Go.Proofs.Ytlkokkbikkbaoaa
open Go.RowKit
set_option maxRecDepth 100000

theorem LogR.form {w : World} {B c : Nat} {A : Option Addr} {l : List (Nat × OpD)} {xs : List Value} {css : Nat → Array Value} (h : LogR w B A c l xs css) {j : Nat} {x : Nat × OpD} (hj : l[j]? = some x) :
    ∃ ad A1 c1, A = some ad ∧ css j = #[.int .u32 (x.2.c : Int), .int .u32 (x.2.s : Int), .int .u16 (x.2.n : Int), .string (bstr x.2.g), .string (bstr x.2.m), .slice A1 x.2.l.length c1] ∧ OpReads w B x.2 #[.int .u32 (x.2.c : Int), .int .u32 (x.2.s : Int), .int .u16 (x.2.n : Int), .string (bstr x.2.g), .string (bstr x.2.m), .slice A1 x.2.l.length c1] := by
  obtain ⟨ad, hA, -, -⟩ := h.cell hj
  have ho := h.hx j x hj
  obtain ⟨A1, c1, ys, cs1, hcs, hrest⟩ := ho
  have ho := h.hx j x hj
  rw [hcs] at ho
  exact ⟨ad, A1, c1, hA, hcs, ho⟩
/-- The cells of an entry as a walk finds them. -/
theorem LogR.cells7 {w : World} {B c c1 : Nat} {ad : Addr} {A1 : Option Addr} {l : List (Nat × OpD)} {xs : List Value} {css : Nat → Array Value} (h : LogR w B (some ad) c l xs css) {j : Nat} {x : Nat × OpD} (hj : l[j]? = some x) (hcs : css j = #[.int .u32 (x.2.c : Int), .int .u32 (x.2.s : Int), .int .u16 (x.2.n : Int), .string (bstr x.2.g), .string (bstr x.2.m), .slice A1 x.2.l.length c1]) :
    w.cell? (ad.add (j * 7)) = some (.int .u64 (x.1 : Int)) ∧ w.cell? ⟨(ad.add (j * 7)).block, (ad.add (j * 7)).off + 1, none⟩ = some (.int .u32 (x.2.c : Int)) ∧ w.cell? ⟨(ad.add (j * 7)).block, (ad.add (j * 7)).off + 2, none⟩ = some (.int .u32 (x.2.s : Int)) ∧ w.cell? ⟨(ad.add (j * 7)).block, (ad.add (j * 7)).off + 3, none⟩ = some (.int .u16 (x.2.n : Int)) ∧ w.cell? ⟨(ad.add (j * 7)).block, (ad.add (j * 7)).off + 4, none⟩ = some (.string (bstr x.2.g)) ∧ w.cell? ⟨(ad.add (j * 7)).block, (ad.add (j * 7)).off + 5, none⟩ = some (.string (bstr x.2.m)) ∧ w.cell? ⟨(ad.add (j * 7)).block, (ad.add (j * 7)).off + 6, none⟩ = some (.slice A1 x.2.l.length c1) := by
  obtain ⟨ad', hA, -, hc⟩ := h.cell hj
  cases hA
  rw [hcs] at hc
  have e := fun k => add_pos ad (j * 7) k
  refine ⟨hc 0 _ rfl, ?_, ?_, ?_, ?_, ?_, ?_⟩
  · rw [← e 0]; exact hc 1 _ rfl
  · rw [← e 1]; exact hc 2 _ rfl
  · rw [← e 2]; exact hc 3 _ rfl
  · rw [← e 3]; exact hc 4 _ rfl
  · rw [← e 4]; exact hc 5 _ rfl
  · rw [← e 5]; exact hc 6 _ rfl

set_option maxHeartbeats 3200000 in
theorem entries_true {w : World} {B c c' : Nat} {A A' : Option Addr} {l : List (Nat × OpD)} {xs xs' : List Value} {css css' : Nat → Array Value} (h : LogR w B A c l xs css) (h' : LogR w B A' c' l xs' css') (hB : B ≤ w.heap.size) (hl : l.length ≤ 1000000) :
    Calls Try.prog 9 #[.slice A l.length c, .slice A' l.length c'] w (Says w (.bool true)) := by
  obtain ⟨N, hN⟩ : ∃ N, l.length = N := ⟨_, rfl⟩
  rw [hN] at hl ⊢
  replace hN := Lib.hid hN
  replace h := Lib.hid h
  replace h' := Lib.hid h'
  have dn : ((N : Int) != (N : Int)) = false := by simp
  go_enter Try.func9, Try.ntmps9
  go_wp2_with fail
  go_loopw [5] (fun ii wr => ∃ j : Nat, ii = .int .i64 (j : Int) ∧ j ≤ N ∧ Below w.heap.size w wr) (fun ii _ => N + 1 - (intOf ii).toNat)
  case atStart => exact ⟨0, rfl, Nat.zero_le _, Below.refl _ _⟩
  case round =>
    obtain ⟨j, rfl, hjN, hbr⟩ := hrel
    by_cases hlt : j < N
    · have hx : l[j]? = some (l[j]'(by rw [hN.out]; exact hlt)) := List.getElem?_eq_getElem _
      have hW : ∀ W, Below wr.heap.size wr W → LogR W B A c l xs css ∧ LogR W B A' c' l xs' css' := fun W hb => ⟨h.out.below ((below_then hb hbr).mono hB), h'.out.below ((below_then hb hbr).mono hB)⟩
      generalize l[j]'(by rw [hN.out]; exact hlt) = x at hx
      obtain ⟨ad, A1, c1, rfl, hcs1, ho⟩ := (hW wr (Below.refl _ _)).1.form hx
      obtain ⟨ad', A2, c2, rfl, hcs2, ho'⟩ := (hW wr (Below.refl _ _)).2.form hx
      have hcells := fun W hb => And.intro ((hW W hb).1.cells7 hx hcs1) ((hW W hb).2.cells7 hx hcs2)
      have hos := fun W (hb : Below wr.heap.size wr W) => op_same ((ho.below (hb.mono (Nat.le_trans hB hbr.size))).up (Nat.le_trans (Nat.le_trans hB hbr.size) hb.size)) ((ho'.below (hb.mono (Nat.le_trans hB hbr.size))).up (Nat.le_trans (Nat.le_trans hB hbr.size) hb.size)) W (Below.refl _ _) (Nat.le_refl _)
      obtain ⟨v, ⟨oc, os_, on, og', om', ol⟩⟩ := x
      dsimp only at hcells hos
      obtain ⟨og, hog⟩ : ∃ og, bstr og' = og := ⟨_, rfl⟩
      obtain ⟨om, hom⟩ : ∃ om, bstr om' = om := ⟨_, rfl⟩
      obtain ⟨oL, hoL⟩ : ∃ oL, ol.length = oL := ⟨_, rfl⟩
      rw [hog, hom, hoL] at hcells hos
      replace hcells := Lib.hid hcells
      replace hos := Lib.hid hos
      have d2 : decide ((j : Int) < (N : Int)) = true := decide_eq_true (by omega)
      have nv : ((v : Int) != (v : Int)) = false := by simp
      have hjc : j < N := hlt
      have hS0 : Below wr.heap.size wr wr.drew := (Below.refl _ _).drew
      clear hog hom hoL ho ho' hcs1 hcs2 hW hx
      go_wp2_with fail
      refine wp_region_lex (fun W => Below wr.heap.size wr W) [4, 9, 16, 21] [22] [0, 1, 2, 3, 4, 5, 6, 7, 8, 9, 10, 11, 12, 13, 14, 15, 16, 17, 18, 19, 20, 21, 22, 23, 24] (by kernel_rfl) rfl (by kernel_rfl) (by kernel_rfl) (fun _ _ d _ _ h => by cases d <;> exact h) ?_
      repeat (first | (refine lexG_take _ ?_ rfl rfl rfl rfl (fun _ => ?_) ?_; rotate_left; (focus (go_simp; with_reducible rfl)); try simp only [Act.put, List.setIfInBounds_toArray, List.set_cons_zero, List.set_cons_succ]) | (refine lexG_held _ ?_ rfl rfl rfl rfl (by assumption) (fun _ hSw => ?_) ?_; rotate_left; (focus (have h1 := hcells.out _ hSw; clear hSw; go_simp; with_reducible rfl)); try simp only [Act.put, List.setIfInBounds_toArray, List.set_cons_zero, List.set_cons_succ]) | (refine lexG_skip _ rfl rfl (by assumption) ?_; try simp only [Act.put, List.setIfInBounds_toArray, List.set_cons_zero, List.set_cons_succ]))
      refine lexG_now _ rfl rfl rfl (fun K0 hK => ?_)
      go_wp2_with fail
      refine (hos.out _ hS0).mono ?_
      rintro e w6 ⟨rfl, hb6⟩
      dsimp only
      have hS6 := below_then hb6 hS0
      refine hK _ _ _ (fun _ h => h) hS6 ?_
      clear hK K0
      try simp only [Act.put, List.setIfInBounds_toArray, List.set_cons_zero, List.set_cons_succ]
      repeat (first | (refine lexG_take _ ?_ rfl rfl rfl rfl (fun _ => ?_) ?_; rotate_left; (focus (go_simp; with_reducible rfl)); try simp only [Act.put, List.setIfInBounds_toArray, List.set_cons_zero, List.set_cons_succ]) | (refine lexG_held _ ?_ rfl rfl rfl rfl (by assumption) (fun _ hSw => ?_) ?_; rotate_left; (focus (have h1 := hcells.out _ hSw; clear hSw; go_simp; with_reducible rfl)); try simp only [Act.put, List.setIfInBounds_toArray, List.set_cons_zero, List.set_cons_succ]) | (refine lexG_skip _ rfl rfl (by assumption) ?_; try simp only [Act.put, List.setIfInBounds_toArray, List.set_cons_zero, List.set_cons_succ]))
      refine lexG_nil ?_
      have hbn := below_then hS6 hbr
      have hnw : IntKind.i64.wrap ((j : Int) + 1) = ((j + 1 : Nat) : Int) := by rw [IntKind.wrap_i64]; omega
      clear hS0 hS6 hb6 hcells hos
      go_wp2_with fail
      go_roundw
      case rel => exact ⟨j + 1, rfl, by omega, hbn⟩
      case measure => simp [intOf]; omega
    · have d2 : decide ((j : Int) < (N : Int)) = false := decide_eq_false (by omega)
      go_wp2_with fail
      go_ret
      exact ⟨rfl, hbr⟩

end Go.Proofs.Ytlkokkbikkbaoaa
