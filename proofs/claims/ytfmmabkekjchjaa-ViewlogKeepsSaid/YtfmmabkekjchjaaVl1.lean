/- How far two logs are alike: viewlog.Same and the document's. -/
import Derived.Test.YtfmmabkekjchjaaEnts
import Derived.Test.YtfmmabkekjchjaaSameR
import Derived.Test.YtfmmabkekjchjaaSameO
set_option linter.unusedSimpArgs false
set_option linter.unusedVariables false
namespace Go.Proofs.Ytfmmabkekjchjaa
open Go.RowKit
set_option maxRecDepth 100000

/-- How many entries of two logs are alike, from the first on. -/
def sameN : List (Nat × OpD) → List (Nat × OpD) → Nat
  | x :: a, y :: b => if x.1 = y.1 ∧ sameO x.2 y.2 = true then sameN a b + 1 else 0
  | _, _ => 0
theorem sameN_step {a b : List (Nat × OpD)} {k : Nat} (ha : k < a.length) (hb : k < b.length) : sameN (a.drop k) (b.drop k) = if a[k].1 = b[k].1 ∧ sameO a[k].2 b[k].2 = true then sameN (a.drop (k + 1)) (b.drop (k + 1)) + 1 else 0 := by
  rw [List.drop_eq_getElem_cons ha, List.drop_eq_getElem_cons hb]
  rfl
theorem sameN_end {a b : List (Nat × OpD)} {k : Nat} (h : a.length ≤ k ∨ b.length ≤ k) : sameN (a.drop k) (b.drop k) = 0 := by
  rcases h with h | h
  · rw [List.drop_eq_nil_of_le h]; rfl
  · rw [List.drop_eq_nil_of_le h]; cases a.drop k <;> rfl
theorem sameN_le : ∀ a b : List (Nat × OpD), sameN a b ≤ a.length ∧ sameN a b ≤ b.length
  | [], _ => ⟨Nat.le_refl _, Nat.zero_le _⟩
  | _ :: _, [] => ⟨Nat.zero_le _, Nat.zero_le _⟩
  | x :: a, y :: b => by
    have := sameN_le a b
    unfold sameN
    split <;> simp only [List.length_cons] <;> omega

set_option maxHeartbeats 6400000 in
theorem vl_same {w : World} {B ca cb' : Nat} {A A' : Option Addr} {a b : List (Nat × OpD)} {xs ys : List Value} {css cst : Nat → Array Value} (h : LogR w B A ca a xs css) (h' : LogR w B A' cb' b ys cst) (hB : B ≤ w.heap.size) (hla : a.length ≤ 1000000) (hlb : b.length ≤ 1000000) :
    Calls Try.prog 11 #[.slice A a.length ca, .slice A' b.length cb'] w (Says w (.int .i64 (sameN a b : Int))) := by
  obtain ⟨na, hna⟩ : ∃ N, a.length = N := ⟨_, rfl⟩
  obtain ⟨nb, hnb⟩ : ∃ N, b.length = N := ⟨_, rfl⟩
  obtain ⟨r, hr⟩ : ∃ r, sameN a b = r := ⟨_, rfl⟩
  rw [hna, hnb, hr]
  rw [hna] at hla
  rw [hnb] at hlb
  obtain ⟨mn, hmn⟩ : ∃ m : Nat, (if nb < na then nb else na) = m := ⟨_, rfl⟩
  have hmn' : (if nb < na then (nb : Int) else (na : Int)) = (mn : Int) := by
    rw [← hmn]; split <;> rfl
  replace hna := Lib.hid hna
  replace hnb := Lib.hid hnb
  replace hr := Lib.hid hr
  replace h := Lib.hid h
  replace h' := Lib.hid h'
  have hmle : mn ≤ na ∧ mn ≤ nb ∧ (mn = na ∨ mn = nb) := by rw [← hmn]; split <;> omega
  go_enter Try.func11, Try.ntmps11
  go_wp2_with fail
  go_loopw [5] (fun ii wr => ∃ j : Nat, ii = .int .i64 (j : Int) ∧ j ≤ na ∧ j ≤ nb ∧ Hid (sameN (a.drop j) (b.drop j) + j = r) ∧ Below w.heap.size w wr) (fun ii _ => na + 1 - (intOf ii).toNat)
  case atStart => exact ⟨0, rfl, Nat.zero_le _, Nat.zero_le _, Lib.hid (by rw [List.drop_zero, List.drop_zero]; exact hr.out), Below.refl _ _⟩
  case round =>
    obtain ⟨j, rfl, hja, hjb, hj, hbr⟩ := hrel
    have hS0 : Below wr.heap.size wr wr.drew := (Below.refl _ _).drew
    by_cases hlt : j < mn
    · have hlta : j < a.length := by rw [hna.out]; omega
      have hltb : j < b.length := by rw [hnb.out]; omega
      have hx : a[j]? = some a[j] := List.getElem?_eq_getElem _
      have hy : b[j]? = some b[j] := List.getElem?_eq_getElem _
      have hstep := sameN_step hlta hltb
      have hW : ∀ W, Below wr.heap.size wr W → LogR W B A ca a xs css ∧ LogR W B A' cb' b ys cst := fun W hb => ⟨h.out.below ((below_then hb hbr).mono hB), h'.out.below ((below_then hb hbr).mono hB)⟩
      generalize a[j] = x at hx hstep
      generalize b[j] = y at hy hstep
      obtain ⟨ad, A1, c1, rfl, hcs1, ho⟩ := (hW wr (Below.refl _ _)).1.form hx
      obtain ⟨ad', A2, c2, rfl, hcs2, ho'⟩ := (hW wr (Below.refl _ _)).2.form hy
      have hcells := fun W hb => And.intro ((hW W hb).1.cells7 hx hcs1) ((hW W hb).2.cells7 hy hcs2)
      have hos := fun W (hb : Below wr.heap.size wr W) => call_same ((ho.below (hb.mono (Nat.le_trans hB hbr.size))).up (Nat.le_trans (Nat.le_trans hB hbr.size) hb.size)) ((ho'.below (hb.mono (Nat.le_trans hB hbr.size))).up (Nat.le_trans (Nat.le_trans hB hbr.size) hb.size)) W (Below.refl _ _) (Nat.le_refl _)
      generalize hq : sameO x.2 y.2 = q at hos hstep
      obtain ⟨v, ⟨oc, os_, on, og', om', ol⟩⟩ := x
      obtain ⟨v', ⟨oc', os_', on', og'', om'', ol'⟩⟩ := y
      dsimp only at hcells hos hstep
      obtain ⟨og, hog⟩ : ∃ og, bstr og' = og := ⟨_, rfl⟩
      obtain ⟨om, hom⟩ : ∃ om, bstr om' = om := ⟨_, rfl⟩
      obtain ⟨oL, hoL⟩ : ∃ oL, ol.length = oL := ⟨_, rfl⟩
      obtain ⟨og1, hog1⟩ : ∃ og, bstr og'' = og := ⟨_, rfl⟩
      obtain ⟨om1, hom1⟩ : ∃ om, bstr om'' = om := ⟨_, rfl⟩
      obtain ⟨oL1, hoL1⟩ : ∃ oL, ol'.length = oL := ⟨_, rfl⟩
      rw [hog, hom, hoL, hog1, hom1, hoL1] at hcells hos
      replace hcells := Lib.hid hcells
      replace hos := Lib.hid hos
      replace hstep := Lib.hid hstep
      have d0 : decide ((j : Int) < (mn : Int)) = true := decide_eq_true (by omega)
      have d1 : decide ((j : Int) < (na : Int)) = true := decide_eq_true (by omega)
      have d2 : decide ((j : Int) < (nb : Int)) = true := decide_eq_true (by omega)
      have hjna : j < na := by omega
      have hjnb : j < nb := by omega
      clear hog hom hoL hog1 hom1 hoL1 ho ho' hcs1 hcs2 hW hx hy hq hmn
      by_cases hv : v = v'
      · subst hv
        have dv : ((v : Int) == (v : Int)) = true := by simp
        go_wp2_with fail
        refine wp_region_lex (fun W => Below wr.heap.size wr W) [12, 17, 25, 30] [31] [0, 1, 2, 3, 4, 5, 6, 7, 8, 9, 10, 11, 12, 13, 14, 15, 16, 17, 18, 19, 20, 21, 22, 23, 24, 25, 26, 27, 28, 29, 30, 31, 32] (by kernel_rfl) rfl (by kernel_rfl) (by kernel_rfl) (fun _ _ d _ _ h => by cases d <;> exact h) ?_
        repeat (first | (refine lexG_take _ ?_ rfl rfl rfl rfl (fun _ => ?_) ?_; rotate_left; (focus (go_simp; with_reducible rfl)); try simp only [Act.put, List.setIfInBounds_toArray, List.set_cons_zero, List.set_cons_succ]) | (refine lexG_held _ ?_ rfl rfl rfl rfl (by assumption) (fun _ hSw => ?_) ?_; rotate_left; (focus (have h1 := hcells.out _ hSw; clear hSw; go_simp; with_reducible rfl)); try simp only [Act.put, List.setIfInBounds_toArray, List.set_cons_zero, List.set_cons_succ]) | (refine lexG_skip _ rfl rfl (by assumption) ?_; try simp only [Act.put, List.setIfInBounds_toArray, List.set_cons_zero, List.set_cons_succ]))
        refine lexG_now _ rfl rfl rfl (fun K0 hK => ?_)
        go_wp2_with fail
        refine (hos.out _ hS0).mono ?_
        rintro e w6 ⟨rfl, hb6⟩
        dsimp only
        have hS6 := below_then hb6 hS0
        refine hK _ _ _ (fun _ h => h) hS6 ?_
        clear hK K0
        try simp only [Act.put, List.setIfInBounds_toArray, List.set_cons_zero, List.set_cons_succ]
        repeat (first | (refine lexG_take _ ?_ rfl rfl rfl rfl (fun _ => ?_) ?_; rotate_left; (focus (go_simp; with_reducible rfl)); try simp only [Act.put, List.setIfInBounds_toArray, List.set_cons_zero, List.set_cons_succ]) | (refine lexG_held _ ?_ rfl rfl rfl rfl (by assumption) (fun _ hSw => ?_) ?_; rotate_left; (focus (have h1 := hcells.out _ hSw; clear hSw; go_simp; with_reducible rfl)); try simp only [Act.put, List.setIfInBounds_toArray, List.set_cons_zero, List.set_cons_succ]) | (refine lexG_skip _ rfl rfl (by assumption) ?_; try simp only [Act.put, List.setIfInBounds_toArray, List.set_cons_zero, List.set_cons_succ]))
        refine lexG_nil ?_
        have hbn := below_then hS6 hbr
        cases q
        · have hjr : j = r := by have h1 := hstep.out; have h2 := hj.out; rw [if_neg (by simp)] at h1; omega
          replace hjr := Lib.hid hjr
          go_wp2_with fail
          go_ret
          exact ⟨by have := hjr.out; subst this; rfl, hbn⟩
        · have hj' : sameN (a.drop (j + 1)) (b.drop (j + 1)) + (j + 1) = r := by have h1 := hstep.out; have h2 := hj.out; rw [if_pos (by simp)] at h1; omega
          replace hj' := Lib.hid hj'
          have hnw : IntKind.i64.wrap ((j : Int) + 1) = ((j + 1 : Nat) : Int) := by rw [IntKind.wrap_i64]; omega
          go_wp2_with fail
          exact ⟨⟨j + 1, by simp [hnw], by omega, by omega, hj', hbn⟩, by simp [intOf]; omega⟩
      · have dv : ((v : Int) == (v' : Int)) = false := by rw [beq_eq_false_iff_ne]; omega
        have hjr : j = r := by have h1 := hstep.out; have h2 := hj.out; rw [if_neg (by simp [hv])] at h1; omega
        replace hjr := Lib.hid hjr
        go_wp2_with fail
        refine wp_region_lex (fun W => Below wr.heap.size wr W) [12, 17, 25, 30] [31] [0, 1, 2, 3, 4, 5, 6, 7, 8, 9, 10, 11, 12, 13, 14, 15, 16, 17, 18, 19, 20, 21, 22, 23, 24, 25, 26, 27, 28, 29, 30, 31, 32] (by kernel_rfl) rfl (by kernel_rfl) (by kernel_rfl) (fun _ _ d _ _ h => by cases d <;> exact h) ?_
        repeat (first | (refine lexG_take _ ?_ rfl rfl rfl rfl (fun _ => ?_) ?_; rotate_left; (focus (go_simp; with_reducible rfl)); try simp only [Act.put, List.setIfInBounds_toArray, List.set_cons_zero, List.set_cons_succ]) | (refine lexG_held _ ?_ rfl rfl rfl rfl (by assumption) (fun _ hSw => ?_) ?_; rotate_left; (focus (have h1 := hcells.out _ hSw; clear hSw; go_simp; with_reducible rfl)); try simp only [Act.put, List.setIfInBounds_toArray, List.set_cons_zero, List.set_cons_succ]) | (refine lexG_skip _ rfl rfl (by assumption) ?_; try simp only [Act.put, List.setIfInBounds_toArray, List.set_cons_zero, List.set_cons_succ]))
        refine lexG_nil ?_
        have hbn := below_then hS0 hbr
        go_wp2_with fail
        go_ret
        exact ⟨by have := hjr.out; subst this; rfl, hbn⟩
    · have hjr : j = r := by have h2 := hj.out; rw [sameN_end (by have := hna.out; have := hnb.out; omega)] at h2; omega
      replace hjr := Lib.hid hjr
      have d0 : decide ((j : Int) < (mn : Int)) = false := decide_eq_false (by omega)
      have hbn := below_then hS0 hbr
      go_wp2_with fail
      refine wp_region_lex (fun W => Below wr.heap.size wr W) [12, 17, 25, 30] [31] [0, 1, 2, 3, 4, 5, 6, 7, 8, 9, 10, 11, 12, 13, 14, 15, 16, 17, 18, 19, 20, 21, 22, 23, 24, 25, 26, 27, 28, 29, 30, 31, 32] (by kernel_rfl) rfl (by kernel_rfl) (by kernel_rfl) (fun _ _ d _ _ h => by cases d <;> exact h) ?_
      repeat (first | (refine lexG_take _ ?_ rfl rfl rfl rfl (fun _ => ?_) ?_; rotate_left; (focus (go_simp; with_reducible rfl)); try simp only [Act.put, List.setIfInBounds_toArray, List.set_cons_zero, List.set_cons_succ]) | (refine lexG_held _ ?_ rfl rfl rfl rfl (by assumption) (fun _ hSw => ?_) ?_; rotate_left; (focus ((try dsimp only at hSw); go_simp; with_reducible rfl)); try simp only [Act.put, List.setIfInBounds_toArray, List.set_cons_zero, List.set_cons_succ]) | (refine lexG_skip _ rfl rfl (by assumption) ?_; try simp only [Act.put, List.setIfInBounds_toArray, List.set_cons_zero, List.set_cons_succ]))
      refine lexG_nil ?_
      go_wp2_with fail
      go_ret
      exact ⟨by have := hjr.out; subst this; rfl, hbn⟩

set_option maxHeartbeats 6400000 in
theorem ref_vl_same {w : World} {B ca cb' : Nat} {A A' : Option Addr} {a b : List (Nat × OpD)} {xs ys : List Value} {css cst : Nat → Array Value} (h : LogR w B A ca a xs css) (h' : LogR w B A' cb' b ys cst) (hB : B ≤ w.heap.size) (hla : a.length ≤ 1000000) (hlb : b.length ≤ 1000000) :
    Calls Try.prog 12 #[.slice A a.length ca, .slice A' b.length cb'] w (Says w (.int .i64 (sameN a b : Int))) := by
  obtain ⟨na, hna⟩ : ∃ N, a.length = N := ⟨_, rfl⟩
  obtain ⟨nb, hnb⟩ : ∃ N, b.length = N := ⟨_, rfl⟩
  obtain ⟨r, hr⟩ : ∃ r, sameN a b = r := ⟨_, rfl⟩
  rw [hna, hnb, hr]
  rw [hna] at hla
  rw [hnb] at hlb
  obtain ⟨mn, hmn⟩ : ∃ m : Nat, (if nb < na then nb else na) = m := ⟨_, rfl⟩
  have hmn' : (if nb < na then (nb : Int) else (na : Int)) = (mn : Int) := by
    rw [← hmn]; split <;> rfl
  replace hna := Lib.hid hna
  replace hnb := Lib.hid hnb
  replace hr := Lib.hid hr
  replace h := Lib.hid h
  replace h' := Lib.hid h'
  have hmle : mn ≤ na ∧ mn ≤ nb ∧ (mn = na ∨ mn = nb) := by rw [← hmn]; split <;> omega
  go_enter Try.func12, Try.ntmps12
  go_wp2_with fail
  go_loopw [5] (fun ii wr => ∃ j : Nat, ii = .int .i64 (j : Int) ∧ j ≤ na ∧ j ≤ nb ∧ Hid (sameN (a.drop j) (b.drop j) + j = r) ∧ Below w.heap.size w wr) (fun ii _ => na + 1 - (intOf ii).toNat)
  case atStart => exact ⟨0, rfl, Nat.zero_le _, Nat.zero_le _, Lib.hid (by rw [List.drop_zero, List.drop_zero]; exact hr.out), Below.refl _ _⟩
  case round =>
    obtain ⟨j, rfl, hja, hjb, hj, hbr⟩ := hrel
    have hS0 : Below wr.heap.size wr wr.drew := (Below.refl _ _).drew
    by_cases hlt : j < mn
    · have hlta : j < a.length := by rw [hna.out]; omega
      have hltb : j < b.length := by rw [hnb.out]; omega
      have hx : a[j]? = some a[j] := List.getElem?_eq_getElem _
      have hy : b[j]? = some b[j] := List.getElem?_eq_getElem _
      have hstep := sameN_step hlta hltb
      have hW : ∀ W, Below wr.heap.size wr W → LogR W B A ca a xs css ∧ LogR W B A' cb' b ys cst := fun W hb => ⟨h.out.below ((below_then hb hbr).mono hB), h'.out.below ((below_then hb hbr).mono hB)⟩
      generalize a[j] = x at hx hstep
      generalize b[j] = y at hy hstep
      obtain ⟨ad, A1, c1, rfl, hcs1, ho⟩ := (hW wr (Below.refl _ _)).1.form hx
      obtain ⟨ad', A2, c2, rfl, hcs2, ho'⟩ := (hW wr (Below.refl _ _)).2.form hy
      have hcells := fun W hb => And.intro ((hW W hb).1.cells7 hx hcs1) ((hW W hb).2.cells7 hy hcs2)
      have hos := fun W (hb : Below wr.heap.size wr W) => ref_same ((ho.below (hb.mono (Nat.le_trans hB hbr.size))).up (Nat.le_trans (Nat.le_trans hB hbr.size) hb.size)) ((ho'.below (hb.mono (Nat.le_trans hB hbr.size))).up (Nat.le_trans (Nat.le_trans hB hbr.size) hb.size)) W (Below.refl _ _) (Nat.le_refl _)
      generalize hq : sameO x.2 y.2 = q at hos hstep
      obtain ⟨v, ⟨oc, os_, on, og', om', ol⟩⟩ := x
      obtain ⟨v', ⟨oc', os_', on', og'', om'', ol'⟩⟩ := y
      dsimp only at hcells hos hstep
      obtain ⟨og, hog⟩ : ∃ og, bstr og' = og := ⟨_, rfl⟩
      obtain ⟨om, hom⟩ : ∃ om, bstr om' = om := ⟨_, rfl⟩
      obtain ⟨oL, hoL⟩ : ∃ oL, ol.length = oL := ⟨_, rfl⟩
      obtain ⟨og1, hog1⟩ : ∃ og, bstr og'' = og := ⟨_, rfl⟩
      obtain ⟨om1, hom1⟩ : ∃ om, bstr om'' = om := ⟨_, rfl⟩
      obtain ⟨oL1, hoL1⟩ : ∃ oL, ol'.length = oL := ⟨_, rfl⟩
      rw [hog, hom, hoL, hog1, hom1, hoL1] at hcells hos
      replace hcells := Lib.hid hcells
      replace hos := Lib.hid hos
      replace hstep := Lib.hid hstep
      have d0 : decide ((j : Int) < (mn : Int)) = true := decide_eq_true (by omega)
      have d1 : decide ((j : Int) < (na : Int)) = true := decide_eq_true (by omega)
      have d2 : decide ((j : Int) < (nb : Int)) = true := decide_eq_true (by omega)
      have hjna : j < na := by omega
      have hjnb : j < nb := by omega
      clear hog hom hoL hog1 hom1 hoL1 ho ho' hcs1 hcs2 hW hx hy hq hmn
      by_cases hv : v = v'
      · subst hv
        have dv : ((v : Int) == (v : Int)) = true := by simp
        go_wp2_with fail
        refine wp_region_lex (fun W => Below wr.heap.size wr W) [15, 20, 28, 33] [34] [0, 1, 2, 3, 4, 5, 6, 7, 8, 9, 10, 11, 12, 13, 14, 15, 16, 17, 18, 19, 20, 21, 22, 23, 24, 25, 26, 27, 28, 29, 30, 31, 32, 33, 34, 35] (by kernel_rfl) rfl (by kernel_rfl) (by kernel_rfl) (fun _ _ d _ _ h => by cases d <;> exact h) ?_
        repeat (first | (refine lexG_take _ ?_ rfl rfl rfl rfl (fun _ => ?_) ?_; rotate_left; (focus (go_simp; with_reducible rfl)); try simp only [Act.put, List.setIfInBounds_toArray, List.set_cons_zero, List.set_cons_succ]) | (refine lexG_held _ ?_ rfl rfl rfl rfl (by assumption) (fun _ hSw => ?_) ?_; rotate_left; (focus (have h1 := hcells.out _ hSw; clear hSw; go_simp; with_reducible rfl)); try simp only [Act.put, List.setIfInBounds_toArray, List.set_cons_zero, List.set_cons_succ]) | (refine lexG_skip _ rfl rfl (by assumption) ?_; try simp only [Act.put, List.setIfInBounds_toArray, List.set_cons_zero, List.set_cons_succ]))
        refine lexG_now _ rfl rfl rfl (fun K0 hK => ?_)
        go_wp2_with fail
        refine (hos.out _ hS0).mono ?_
        rintro e w6 ⟨rfl, hb6⟩
        dsimp only
        have hS6 := below_then hb6 hS0
        refine hK _ _ _ (fun _ h => h) hS6 ?_
        clear hK K0
        try simp only [Act.put, List.setIfInBounds_toArray, List.set_cons_zero, List.set_cons_succ]
        repeat (first | (refine lexG_take _ ?_ rfl rfl rfl rfl (fun _ => ?_) ?_; rotate_left; (focus (go_simp; with_reducible rfl)); try simp only [Act.put, List.setIfInBounds_toArray, List.set_cons_zero, List.set_cons_succ]) | (refine lexG_held _ ?_ rfl rfl rfl rfl (by assumption) (fun _ hSw => ?_) ?_; rotate_left; (focus (have h1 := hcells.out _ hSw; clear hSw; go_simp; with_reducible rfl)); try simp only [Act.put, List.setIfInBounds_toArray, List.set_cons_zero, List.set_cons_succ]) | (refine lexG_skip _ rfl rfl (by assumption) ?_; try simp only [Act.put, List.setIfInBounds_toArray, List.set_cons_zero, List.set_cons_succ]))
        refine lexG_nil ?_
        have hbn := below_then hS6 hbr
        cases q
        · have hjr : j = r := by have h1 := hstep.out; have h2 := hj.out; rw [if_neg (by simp)] at h1; omega
          replace hjr := Lib.hid hjr
          go_wp2_with fail
          go_ret
          exact ⟨by have := hjr.out; subst this; rfl, hbn⟩
        · have hj' : sameN (a.drop (j + 1)) (b.drop (j + 1)) + (j + 1) = r := by have h1 := hstep.out; have h2 := hj.out; rw [if_pos (by simp)] at h1; omega
          replace hj' := Lib.hid hj'
          have hnw : IntKind.i64.wrap ((j : Int) + 1) = ((j + 1 : Nat) : Int) := by rw [IntKind.wrap_i64]; omega
          go_wp2_with fail
          exact ⟨⟨j + 1, by simp [hnw], by omega, by omega, hj', hbn⟩, by simp [intOf]; omega⟩
      · have dv : ((v : Int) == (v' : Int)) = false := by rw [beq_eq_false_iff_ne]; omega
        have hjr : j = r := by have h1 := hstep.out; have h2 := hj.out; rw [if_neg (by simp [hv])] at h1; omega
        replace hjr := Lib.hid hjr
        go_wp2_with fail
        refine wp_region_lex (fun W => Below wr.heap.size wr W) [15, 20, 28, 33] [34] [0, 1, 2, 3, 4, 5, 6, 7, 8, 9, 10, 11, 12, 13, 14, 15, 16, 17, 18, 19, 20, 21, 22, 23, 24, 25, 26, 27, 28, 29, 30, 31, 32, 33, 34, 35] (by kernel_rfl) rfl (by kernel_rfl) (by kernel_rfl) (fun _ _ d _ _ h => by cases d <;> exact h) ?_
        repeat (first | (refine lexG_take _ ?_ rfl rfl rfl rfl (fun _ => ?_) ?_; rotate_left; (focus (go_simp; with_reducible rfl)); try simp only [Act.put, List.setIfInBounds_toArray, List.set_cons_zero, List.set_cons_succ]) | (refine lexG_held _ ?_ rfl rfl rfl rfl (by assumption) (fun _ hSw => ?_) ?_; rotate_left; (focus (have h1 := hcells.out _ hSw; clear hSw; go_simp; with_reducible rfl)); try simp only [Act.put, List.setIfInBounds_toArray, List.set_cons_zero, List.set_cons_succ]) | (refine lexG_skip _ rfl rfl (by assumption) ?_; try simp only [Act.put, List.setIfInBounds_toArray, List.set_cons_zero, List.set_cons_succ]))
        refine lexG_nil ?_
        have hbn := below_then hS0 hbr
        go_wp2_with fail
        go_ret
        exact ⟨by have := hjr.out; subst this; rfl, hbn⟩
    · have hjr : j = r := by have h2 := hj.out; rw [sameN_end (by have := hna.out; have := hnb.out; omega)] at h2; omega
      replace hjr := Lib.hid hjr
      have d0 : decide ((j : Int) < (mn : Int)) = false := decide_eq_false (by omega)
      have hbn := below_then hS0 hbr
      by_cases hja' : j < na
      · have d1 : decide ((j : Int) < (na : Int)) = true := decide_eq_true (by omega)
        have d2 : decide ((j : Int) < (nb : Int)) = false := decide_eq_false (by omega)
        have d3 : decide (j < nb) = false := decide_eq_false (by omega)
        have d4 : nb ≤ j := by omega
        go_wp2_with fail
        refine wp_region_lex (fun W => Below wr.heap.size wr W) [15, 20, 28, 33] [34] [0, 1, 2, 3, 4, 5, 6, 7, 8, 9, 10, 11, 12, 13, 14, 15, 16, 17, 18, 19, 20, 21, 22, 23, 24, 25, 26, 27, 28, 29, 30, 31, 32, 33, 34, 35] (by kernel_rfl) rfl (by kernel_rfl) (by kernel_rfl) (fun _ _ d _ _ h => by cases d <;> exact h) ?_
        repeat (first | (refine lexG_take _ ?_ rfl rfl rfl rfl (fun _ => ?_) ?_; rotate_left; (focus (go_simp; with_reducible rfl)); try simp only [Act.put, List.setIfInBounds_toArray, List.set_cons_zero, List.set_cons_succ]) | (refine lexG_held _ ?_ rfl rfl rfl rfl (by assumption) (fun _ hSw => ?_) ?_; rotate_left; (focus ((try dsimp only at hSw); go_simp; with_reducible rfl)); try simp only [Act.put, List.setIfInBounds_toArray, List.set_cons_zero, List.set_cons_succ]) | (refine lexG_skip _ rfl rfl (by assumption) ?_; try simp only [Act.put, List.setIfInBounds_toArray, List.set_cons_zero, List.set_cons_succ]))
        refine lexG_nil ?_
        go_wp2_with fail
        go_ret
        exact ⟨by have := hjr.out; subst this; rfl, hbn⟩
      · have d1 : decide ((j : Int) < (na : Int)) = false := decide_eq_false (by omega)
        go_wp2_with fail
        refine wp_region_lex (fun W => Below wr.heap.size wr W) [15, 20, 28, 33] [34] [0, 1, 2, 3, 4, 5, 6, 7, 8, 9, 10, 11, 12, 13, 14, 15, 16, 17, 18, 19, 20, 21, 22, 23, 24, 25, 26, 27, 28, 29, 30, 31, 32, 33, 34, 35] (by kernel_rfl) rfl (by kernel_rfl) (by kernel_rfl) (fun _ _ d _ _ h => by cases d <;> exact h) ?_
        repeat (first | (refine lexG_take _ ?_ rfl rfl rfl rfl (fun _ => ?_) ?_; rotate_left; (focus (go_simp; with_reducible rfl)); try simp only [Act.put, List.setIfInBounds_toArray, List.set_cons_zero, List.set_cons_succ]) | (refine lexG_held _ ?_ rfl rfl rfl rfl (by assumption) (fun _ hSw => ?_) ?_; rotate_left; (focus ((try dsimp only at hSw); go_simp; with_reducible rfl)); try simp only [Act.put, List.setIfInBounds_toArray, List.set_cons_zero, List.set_cons_succ]) | (refine lexG_skip _ rfl rfl (by assumption) ?_; try simp only [Act.put, List.setIfInBounds_toArray, List.set_cons_zero, List.set_cons_succ]))
        refine lexG_nil ?_
        go_wp2_with fail
        go_ret
        exact ⟨by have := hjr.out; subst this; rfl, hbn⟩

end Go.Proofs.Ytfmmabkekjchjaa
