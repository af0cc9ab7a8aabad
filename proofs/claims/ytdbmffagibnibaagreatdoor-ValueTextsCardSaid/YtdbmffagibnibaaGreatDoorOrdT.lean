/- The order of any two trees. -/
import Derived.Test.YtdbmffagibnibaaGreatDoorOrdV
set_option linter.unusedSimpArgs false
set_option linter.unusedVariables false
namespace Go.Proofs.YtdbmffagibnibaaGreatDoor
set_option maxRecDepth 100000
open Go.RowKit

mutual
def ordV : Val → Val → Int
  | .mk k i f s l, .mk k' i' f' s' l' => ordC k i k' i' f f' (bstr s) (bstr s') (ordL l l')
def ordL : List Val → List Val → Int
  | [], [] => 0
  | [], _ :: _ => -1
  | _ :: _, [] => 1
  | v :: l, v' :: l' => if ordV v v' = 0 then ordL l l' else ordV v v'
end
theorem ordL_step {l l' : List Val} {k : Nat} (h1 : k < l.length) (h2 : k < l'.length) : ordL (l.drop k) (l'.drop k) = if ordV l[k] l'[k] = 0 then ordL (l.drop (k + 1)) (l'.drop (k + 1)) else ordV l[k] l'[k] := by
  rw [List.drop_eq_getElem_cons h1, List.drop_eq_getElem_cons h2, ordL]
theorem ordL_over {l l' : List Val} {k : Nat} (h1 : k < l.length) (h2 : l'.length ≤ k) : ordL (l.drop k) (l'.drop k) = 1 := by
  rw [List.drop_eq_getElem_cons h1, List.drop_eq_nil_of_le h2, ordL]
theorem ordL_end {l l' : List Val} {k : Nat} (h1 : l.length ≤ k) (h2 : k ≤ l'.length) : ordL (l.drop k) (l'.drop k) = if k < l'.length then -1 else 0 := by
  rw [List.drop_eq_nil_of_le h1]
  by_cases h : k < l'.length
  · rw [if_pos h, List.drop_eq_getElem_cons h, ordL]
  · rw [if_neg h, List.drop_eq_nil_of_le (by omega), ordL]

set_option maxHeartbeats 1600000 in
theorem compare_list {A1 A2 : Option Addr} {c1 c2 B : Nat} {l1 l2 : List Val} {xs1 xs2 : List Value} {css1 css2 : Nat → Array Value} {w : World} (hr1 : Reads w B 5 A1 l1.length xs1) (hr2 : Reads w B 5 A2 l2.length xs2) (hB : B ≤ w.heap.size) (hxs1 : ∀ j, j < l1.length → (xs1.drop (j * 5)).take 5 = (css1 j).toList) (hxs2 : ∀ j, j < l2.length → (xs2.drop (j * 5)).take 5 = (css2 j).toList)
    (hv1 : ∀ j v, l1[j]? = some v → VReads w B v (css1 j)) (hv2 : ∀ j v, l2[j]? = some v → VReads w B v (css2 j)) (hn1 : l1.length ≤ 140737488351232) (hn2 : l2.length ≤ 140737488351232)
    (hcall : ∀ j v u, l1[j]? = some v → l2[j]? = some u → ∀ w1, Below w.heap.size w w1 → Calls Tryz.prog 11 #[.agg (css1 j), .agg (css2 j)] w1 (Says w1 (.int .i64 (ordV v u)))) :
    Calls Tryz.prog 35 #[.slice A1 l1.length c1, .slice A2 l2.length c2, .func (Fn.func 11) #[] #[]] w (Says w (.int .i64 (ordL l1 l2))) := by
  have hsf := fun a k x m w => run_store_float (P := Tryz.prog) a k x m w
  replace hcall := Lib.hid hcall
  obtain ⟨r, hr⟩ : ∃ r, ordL l1 l2 = r := ⟨_, rfl⟩
  rw [hr]
  replace hr := Lib.hid hr
  go_enter Tryz.func35, Tryz.ntmps35
  go_wp2_with fail
  go_loopw [7, 8, 9, 10, 13] (fun a b cc d i wr => ∃ k : Nat, k ≤ l1.length ∧ k ≤ l2.length ∧ i = .int .i64 (k : Int) ∧ Hid (ordL (l1.drop k) (l2.drop k) = r) ∧ Below w.heap.size w wr) (fun _ _ _ _ i _ => l1.length - (intOf i).toNat)
  case atStart => exact ⟨0, Nat.zero_le _, Nat.zero_le _, rfl, Lib.hid (by rw [List.drop_zero, List.drop_zero]; exact hr.out), Below.refl _ _⟩
  case round =>
    rename_i hrel
    obtain ⟨k, hk1, hk2, rfl, hor, hb⟩ := hrel
    by_cases hlt : k < l1.length
    · obtain ⟨ad, k1, i1, f1, s1, B1, n1, d1, rfl, hform1, hgk1, g0, g1, g2, g3, g4⟩ := kid hr1 hv1 hxs1 (hb.mono hB) hlt
      by_cases hlt2 : k < l2.length
      · obtain ⟨ad', k2, i2, f2, s2, B2, n2, d2, rfl, hform2, hgk2, e0, e1, e2, e3, e4⟩ := kid hr2 hv2 hxs2 (hb.mono hB) hlt2
        have hst := ordL_step hlt hlt2
        have hcl := fun w1 hw1 => hcall.out k l1[k] l2[k] hgk1 hgk2 w1 hw1
        rw [hform1, hform2] at hcl
        generalize ordV l1[k] l2[k] = q at *
        replace hst := Lib.hid hst
        replace hcl := Lib.hid hcl
        clear hform1 hform2 hgk1 hgk2
        have hla := (Below.refl wr.heap.size wr).alloc (Nat.le_refl _) (.cells #[.int .i64 k1, .int .i64 i1, .float .f64 f1, .string s1, .slice B1 n1 d1] 25)
        have e0' := cell_keep hla e0
        have e1' := cell_keep hla e1
        have e2' := cell_keep hla e2
        have e3' := cell_keep hla e3
        have e4' := cell_keep hla e4
        clear e0 e1 e2 e3 e4
        have hb2 := hb.alloc hb.size (.cells #[.int .i64 k1, .int .i64 i1, .float .f64 f1, .string s1, .slice B1 n1 d1] 25)
        have hb3 := hb2.alloc hb2.size (.cells #[.int .i64 k2, .int .i64 i2, .float .f64 f2, .string s2, .slice B2 n2 d2] 25)
        clear hla
        go_wp2_with fail
        refine (hcl.out _ hb3).mono ?_
        rintro e w5 ⟨rfl, hb5⟩
        dsimp only
        have hb6 := below_then hb5 hb3
        by_cases hq : q = 0
        · subst hq
          have hst' : ordL (l1.drop (k + 1)) (l2.drop (k + 1)) = r := by have h := hst.out; rw [hor.out, if_pos rfl] at h; exact h.symm
          replace hst' := Lib.hid hst'
          go_wp2_with fail
          go_roundw
          case rel => exact ⟨k + 1, by omega, by omega, by simp, hst', hb6⟩
          case measure => simp [intOf]; omega
        · have hqr : q = r := by have h := hst.out; rw [hor.out, if_neg hq] at h; exact h.symm
          have hqn : (q != 0) = true := bne_iff_ne.2 hq
          subst hqr
          go_wp2_with fail
          go_ret
          exact ⟨rfl, hb6⟩
      · have hr1' : r = 1 := by rw [← hor.out]; exact ordL_over hlt (by omega)
        subst hr1'
        have hb2 := hb.alloc hb.size (.cells #[.int .i64 k1, .int .i64 i1, .float .f64 f1, .string s1, .slice B1 n1 d1] 25)
        go_wp2_with fail
        go_ret
        exact ⟨rfl, hb2⟩
    · have hk' : k = l1.length := by omega
      have he : r = if k < l2.length then -1 else 0 := by rw [← hor.out]; exact ordL_end (by omega) hk2
      clear hor
      subst hk'
      by_cases hl : l1.length < l2.length
      · rw [if_pos hl] at he
        subst he
        go_wp2_with fail
        go_ret
        exact ⟨rfl, hb⟩
      · rw [if_neg hl] at he
        subst he
        go_wp2_with fail
        go_ret
        exact ⟨rfl, hb⟩

theorem kindOf_four {k : Int} : kindOf k = 4 ↔ k = 4 := by unfold kindOf; split <;> omega
/-- value.Order at any two trees. -/
theorem order_tree {w : World} {B : Nat} {v : Val} {cs : Array Value} (h : VReads w B v cs) : ∀ (u : Val) (cs' : Array Value) (w1 : World), VReads w B u cs' → OkV v → OkV u → Below B w w1 → B ≤ w1.heap.size → Calls Tryz.prog 11 #[.agg cs, .agg cs'] w1 (Says w1 (.int .i64 (ordV v u))) := by
  induction h with
  | @mk k i f s l A c xs css hn hr hx hxs ih =>
    intro u cs' w1 h' ho ho' hb1 hB1
    obtain ⟨css', hn', hr', hx', hxs'⟩ := h'
    rename_i k' i' f' s' l' A' c' xs'
    obtain ⟨hf, -, hl⟩ := ho
    obtain ⟨hf', -, hl'⟩ := ho'
    have e : ordV (.mk k i f s l) (.mk k' i' f' s' l') = ordC k i k' i' f f' (bstr s) (bstr s') (ordL l l') := by rw [ordV]
    rw [e]
    refine order_val k i k' i' f f' (bstr s) (bstr s') A A' l.length c l'.length c' (ordL l l') w1 hf hf' (fun w5 hb5 _ _ => ?_)
    have hb15 := hb1.trans (hb5.mono hB1)
    have hB5 := Nat.le_trans hB1 hb5.size
    exact compare_list (hr.below hb15) (hr'.below hb15) hB5 hxs hxs' (fun j v hv => (hx j v hv).under hb15) (fun j v hv => (hx' j v hv).under hb15) hn hn'
      (fun j v u hv hu w6 hb6 => ih j v hv u (css' j) w6 (hx' j u hu) (hl v (List.mem_of_getElem? hv)) (hl' u (List.mem_of_getElem? hu)) (hb15.trans (hb6.mono hB5)) (Nat.le_trans hB5 hb6.size))
end Go.Proofs.YtdbmffagibnibaaGreatDoor
