/- value.Equal of any two trees. -/
import Derived.Test.YtdbmffagibnibaaGreatDoorOrdT
set_option linter.unusedSimpArgs false
set_option linter.unusedVariables false
namespace Go.Proofs.YtdbmffagibnibaaGreatDoor
set_option maxRecDepth 100000
open Go.RowKit

def eqF (f1 f2 : Nat) : Bool := FloatKind.f64.format.order f1 f2 == some .eq || (nanB f1 && nanB f2)
def eqC (k1 i1 k2 i2 : Int) (f1 f2 : Nat) (s1 s2 : ByteArray) (rl : Bool) : Bool :=
  if kindOf k1 = kindOf k2 then (if kindOf k1 = 1 then i1 == i2 else if kindOf k1 = 2 then eqF f1 f2 else if kindOf k1 = 3 then s1.toList == s2.toList else if kindOf k1 = 4 then rl else true) else false
theorem nan_walk (f : Nat) (w : World) : Calls Tryz.prog 36 #[.float .f64 f] w (Says w (.bool (nanB f))) := by
  have ho := order_self f
  go_enter Tryz.func36, Tryz.ntmps36
  go_wp2_with fail
  go_ret
  exact ⟨rfl, Below.refl _ _⟩

set_option maxHeartbeats 6400000 in
theorem eq_val (k1 i1 k2 i2 : Int) (f1 f2 : Nat) (s1 s2 : ByteArray) (A1 A2 : Option Addr) (n1 c1 n2 c2 : Nat) (rl : Bool) (w : World)
    (hL : ∀ w5, Below w.heap.size w w5 → kindOf k1 = 4 → kindOf k2 = 4 → Calls Tryz.prog 37 #[.slice A1 n1 c1, .slice A2 n2 c2, .func (Fn.func 13) #[] #[]] w5 (Says w5 (.bool rl))) :
    Calls Tryz.prog 13 #[.agg #[.int .i64 k1, .int .i64 i1, .float .f64 f1, .string s1, .slice A1 n1 c1], .agg #[.int .i64 k2, .int .i64 i2, .float .f64 f2, .string s2, .slice A2 n2 c2]] w (Says w (.bool (eqC k1 i1 k2 i2 f1 f2 s1 s2 rl))) := by
  obtain ⟨q1, hq1⟩ : ∃ q, kindOf k1 = q := ⟨_, rfl⟩
  obtain ⟨q2, hq2⟩ : ∃ q, kindOf k2 = q := ⟨_, rfl⟩
  have hk1 := fun w => val_kind k1 i1 f1 s1 A1 n1 c1 w
  have hk2 := fun w => val_kind k2 i2 f2 s2 A2 n2 c2 w
  have hr1 := kindOf_range k1
  rw [hq1] at hk1 hr1
  rw [hq2] at hk2
  obtain ⟨r, hr⟩ : ∃ r, eqC k1 i1 k2 i2 f1 f2 s1 s2 rl = r := ⟨_, rfl⟩
  rw [hr]
  unfold eqC at hr
  rw [hq1, hq2] at hr hL
  clear hq1 hq2
  replace hr := Lib.hid hr
  replace hL := Lib.hid hL
  replace hk1 := Lib.hid hk1
  replace hk2 := Lib.hid hk2
  obtain ⟨b1, b2, hbl⟩ : Blk ((w.alloc (.cells #[.int .i64 k1, .int .i64 i1, .float .f64 f1, .string s1, .slice A1 n1 c1] 25)).alloc (.cells #[.int .i64 k2, .int .i64 i2, .float .f64 f2, .string s2, .slice A2 n2 c2] 25)) w.heap.size 25 #[.int .i64 k1, .int .i64 i1, .float .f64 f1, .string s1, .slice A1 n1 c1] ∧ Blk ((w.alloc (.cells #[.int .i64 k1, .int .i64 i1, .float .f64 f1, .string s1, .slice A1 n1 c1] 25)).alloc (.cells #[.int .i64 k2, .int .i64 i2, .float .f64 f2, .string s2, .slice A2 n2 c2] 25)) (w.heap.size + 1) 25 #[.int .i64 k2, .int .i64 i2, .float .f64 f2, .string s2, .slice A2 n2 c2] ∧ Below w.heap.size w ((w.alloc (.cells #[.int .i64 k1, .int .i64 i1, .float .f64 f1, .string s1, .slice A1 n1 c1] 25)).alloc (.cells #[.int .i64 k2, .int .i64 i2, .float .f64 f2, .string s2, .slice A2 n2 c2] 25)) := by
    have h := Blk.new (w.alloc (.cells #[.int .i64 k1, .int .i64 i1, .float .f64 f1, .string s1, .slice A1 n1 c1] 25)) 25 #[.int .i64 k2, .int .i64 i2, .float .f64 f2, .string s2, .slice A2 n2 c2]
    have hsz : (w.alloc (.cells #[.int .i64 k1, .int .i64 i1, .float .f64 f1, .string s1, .slice A1 n1 c1] 25)).heap.size = w.heap.size + 1 := by simp
    rw [hsz] at h
    exact ⟨(Blk.new w _ _).alloc _, h, ((Below.refl w.heap.size w).alloc (Nat.le_refl _) _).alloc (by simp) _⟩
  go_enter Tryz.func13, Tryz.ntmps13
  go_wp2_with fail
  generalize (w.alloc (.cells #[.int .i64 k1, .int .i64 i1, .float .f64 f1, .string s1, .slice A1 n1 c1] 25)).alloc (.cells #[.int .i64 k2, .int .i64 i2, .float .f64 f2, .string s2, .slice A2 n2 c2] 25) = w1 at *
  obtain ⟨b, hb0⟩ : ∃ b, w.heap.size = b := ⟨_, rfl⟩
  obtain ⟨b', hb'⟩ : ∃ b', b + 1 = b' := ⟨_, rfl⟩
  rw [hb0] at b1 b2 hbl ⊢
  rw [hb'] at b2 ⊢
  have b1d : Blk w1.drew b 25 #[.int .i64 k1, .int .i64 i1, .float .f64 f1, .string s1, .slice A1 n1 c1] := b1.drew
  have b2d : Blk w1.drew b' 25 #[.int .i64 k2, .int .i64 i2, .float .f64 f2, .string s2, .slice A2 n2 c2] := b2.drew
  have hbd : Below b w w1.drew := hbl.drew
  replace hb0 := Lib.hid hb0
  replace hb' := Lib.hid hb'
  clear b1 b2 hbl
  refine wp_region_lex (fun W => Below w1.drew.heap.size w1.drew W) [0, 2] [1, 3] [0, 2, 1, 3, 4] (by kernel_rfl) rfl (by kernel_rfl) (by kernel_rfl) (fun _ _ d _ _ h => by cases d <;> exact h) ?_
  generalize w1.drew = v1 at *
  have hSk := Below.refl v1.heap.size v1
  repeat (first | (refine lexG_take _ ?_ rfl rfl rfl rfl (fun _ => ?_) ?_; rotate_left; (focus (go_simp; with_reducible rfl)); try simp only [Act.put, List.setIfInBounds_toArray, List.set_cons_zero, List.set_cons_succ]) | (refine lexG_held _ ?_ rfl rfl rfl rfl (by assumption) (fun _ hSw => ?_) ?_; rotate_left; (focus (have z0 := (b1d.below hSw b1d.lt).cell 0; have z1 := (b1d.below hSw b1d.lt).cell 1; have z2 := (b1d.below hSw b1d.lt).cell 2; have z3 := (b1d.below hSw b1d.lt).cell 3; have z4 := (b1d.below hSw b1d.lt).cell 4; have y0 := (b2d.below hSw b2d.lt).cell 0; have y1 := (b2d.below hSw b2d.lt).cell 1; have y2 := (b2d.below hSw b2d.lt).cell 2; have y3 := (b2d.below hSw b2d.lt).cell 3; have y4 := (b2d.below hSw b2d.lt).cell 4; clear hSw; go_simp; with_reducible rfl)); try simp only [Act.put, List.setIfInBounds_toArray, List.set_cons_zero, List.set_cons_succ]) | (refine lexG_skip _ rfl rfl (by assumption) ?_; try simp only [Act.put, List.setIfInBounds_toArray, List.set_cons_zero, List.set_cons_succ]))
  refine lexG_now _ rfl rfl rfl (fun K hK => ?_)
  go_wp2_with fail
  refine (hk1.out _).mono ?_
  rintro e w2 ⟨rfl, hb2⟩
  dsimp only
  refine hK _ _ _ (fun _ h => h) hb2 ?_
  clear hK K hSk
  try simp only [Act.put, List.setIfInBounds_toArray, List.set_cons_zero, List.set_cons_succ]
  repeat (refine lexG_take _ ?_ rfl rfl rfl rfl (fun _ => ?_) ?_; rotate_left; (focus (go_simp; with_reducible rfl)); try simp only [Act.put, List.setIfInBounds_toArray, List.set_cons_zero, List.set_cons_succ])
  refine lexG_now _ rfl rfl rfl (fun K hK => ?_)
  go_wp2_with fail
  refine (hk2.out _).mono ?_
  rintro e w3 ⟨rfl, hb3⟩
  dsimp only
  have hS3 := below_then hb3 hb2
  refine hK _ _ _ (fun _ h => h) hS3 ?_
  clear hK K
  try simp only [Act.put, List.setIfInBounds_toArray, List.set_cons_zero, List.set_cons_succ]
  repeat (refine lexG_take _ ?_ rfl rfl rfl rfl (fun _ => ?_) ?_; rotate_left; (focus (go_simp; with_reducible rfl)); try simp only [Act.put, List.setIfInBounds_toArray, List.set_cons_zero, List.set_cons_succ])
  refine lexG_nil ?_
  have b13 := b1d.below hS3 b1d.lt
  have b23 := b2d.below hS3 b2d.lt
  have hbw := hbd.trans (hS3.mono (Nat.le_of_lt b1d.lt))
  clear b1d b2d hbd hb2 hb3 hS3
  by_cases hk : q1 = q2
  · subst hk
    have E0 := b13.cell 0
    have E1 := b13.cell 1
    have E2 := b13.cell 2
    have E3 := b13.cell 3
    have E4 := b13.cell 4
    have qq : (q1 != q1) = false := by simp
    go_wp2_with fail
    refine (hk1.out _).mono ?_
    clear E0 E1 E2 E3 E4 hk1 hk2
    rintro e w5 ⟨rfl, hb5⟩
    dsimp only
    have b15 := b13.below hb5 b13.lt
    have b25 := b23.below hb5 b23.lt
    have hbw5 := hbw.trans (hb5.mono (Nat.le_of_lt b13.lt))
    have E1 := b15.cell 1
    have E2 := b15.cell 2
    have E3 := b15.cell 3
    have E4 := b15.cell 4
    have F1 := b25.cell 1
    have F2 := b25.cell 2
    have F3 := b25.cell 3
    have F4 := b25.cell 4
    have ho : r = if q1 = 1 then i1 == i2 else if q1 = 2 then eqF f1 f2 else if q1 = 3 then s1.toList == s2.toList else if q1 = 4 then rl else true := by rw [← hr.out]; exact if_pos (by trivial)
    clear hr b13 b23
    rcases (show q1 = 1 ∨ q1 = 2 ∨ q1 = 3 ∨ q1 = 4 ∨ q1 = 0 by omega) with h | h | h | h | h
    · subst h
      rw [if_pos rfl] at ho
      obtain ⟨x, hx⟩ : ∃ x, (i1 == i2) = x := ⟨_, rfl⟩
      rw [hx] at ho
      subst ho
      go_wp2_with fail
      go_ret
      exact ⟨rfl, by rw [hb0.out]; exact hbw5⟩
    · subst h
      rw [if_neg (by decide), if_pos rfl] at ho
      have hn1 := fun w => nan_walk f1 w
      have hn2 := fun w => nan_walk f2 w
      unfold eqF at ho
      obtain ⟨o, hx⟩ : ∃ x, (FloatKind.f64.format.order f1 f2 == some .eq) = x := ⟨_, rfl⟩
      obtain ⟨p1, hp1⟩ : ∃ x, nanB f1 = x := ⟨_, rfl⟩
      obtain ⟨p2, hp2⟩ : ∃ x, nanB f2 = x := ⟨_, rfl⟩
      rw [hx, hp1, hp2] at ho
      rw [hp1] at hn1
      rw [hp2] at hn2
      replace hn1 := Lib.hid hn1
      replace hn2 := Lib.hid hn2
      cases o
      · have hor : r = (p1 && p2) := by rw [ho]; rfl
        clear ho
        subst hor
        cases p1
        · go_wp2_with fail
          refine (hn1.out _).mono ?_
          rintro e w6 ⟨rfl, hb6⟩
          dsimp only
          have hbw6 := hbw5.trans (hb6.mono (Nat.le_of_lt b15.lt))
          go_wp2_with fail
          go_ret
          exact ⟨rfl, by rw [hb0.out]; exact hbw6⟩
        · go_wp2_with fail
          refine (hn1.out _).mono ?_
          rintro e w6 ⟨rfl, hb6⟩
          dsimp only
          have F2' := (b25.below hb6 b25.lt).cell 2
          have hbw6 := hbw5.trans (hb6.mono (Nat.le_of_lt b15.lt))
          go_wp2_with fail
          refine (hn2.out _).mono ?_
          rintro e w7 ⟨rfl, hb7⟩
          dsimp only
          have hbw7 := hbw6.trans (hb7.mono (Nat.le_of_lt (b15.below hb6 b15.lt).lt))
          go_wp2_with fail
          go_ret
          exact ⟨rfl, by rw [hb0.out]; exact hbw7⟩
      · have hor : r = true := by rw [ho]; rfl
        clear ho
        subst hor
        go_wp2_with fail
        go_ret
        exact ⟨rfl, by rw [hb0.out]; exact hbw5⟩
    · subst h
      rw [if_neg (by decide), if_neg (by decide), if_pos rfl] at ho
      obtain ⟨x, hx⟩ : ∃ x, (s1.toList == s2.toList) = x := ⟨_, rfl⟩
      rw [hx] at ho
      subst ho
      go_wp2_with fail
      go_ret
      exact ⟨rfl, by rw [hb0.out]; exact hbw5⟩
    · subst h
      rw [if_neg (by decide), if_neg (by decide), if_neg (by decide), if_pos rfl] at ho
      subst ho
      go_wp2_with fail
      refine (hL.out _ (by rw [hb0.out]; exact hbw5) (by trivial) (by trivial)).mono ?_
      rintro e w6 ⟨rfl, hb6⟩
      dsimp only
      have hbw6 := hbw5.trans (hb6.mono (Nat.le_of_lt b15.lt))
      go_wp2_with fail
      go_ret
      exact ⟨rfl, by rw [hb0.out]; exact hbw6⟩
    · subst h
      rw [if_neg (by decide), if_neg (by decide), if_neg (by decide), if_neg (by decide)] at ho
      subst ho
      go_wp2_with fail
      go_ret
      exact ⟨rfl, by rw [hb0.out]; exact hbw5⟩
  · have ho : r = false := by rw [← hr.out]; exact if_neg hk
    have qq : (q1 != q2) = true := bne_iff_ne.2 hk
    subst ho
    go_wp2_with fail
    go_ret
    exact ⟨rfl, by rw [hb0.out]; exact hbw⟩

mutual
def eqV : Val → Val → Bool
  | .mk k i f s l, .mk k' i' f' s' l' => eqC k i k' i' f f' (bstr s) (bstr s') (eqL l l')
def eqL : List Val → List Val → Bool
  | [], [] => true
  | [], _ :: _ => false
  | _ :: _, [] => false
  | v :: l, v' :: l' => if eqV v v' = true then eqL l l' else false
end
theorem eqL_len : ∀ {l l' : List Val}, l.length ≠ l'.length → eqL l l' = false
  | [], [], h => absurd rfl h
  | [], _ :: _, _ => by rw [eqL]
  | _ :: _, [], _ => by rw [eqL]
  | v :: l, v' :: l', h => by
    rw [eqL]
    split
    · exact eqL_len (fun e => h (by simp [e]))
    · rfl
theorem eqL_step {l l' : List Val} {k : Nat} (h1 : k < l.length) (h2 : k < l'.length) : eqL (l.drop k) (l'.drop k) = if eqV l[k] l'[k] = true then eqL (l.drop (k + 1)) (l'.drop (k + 1)) else false := by
  rw [List.drop_eq_getElem_cons h1, List.drop_eq_getElem_cons h2, eqL]

set_option maxHeartbeats 1600000 in
theorem equal_list {A1 A2 : Option Addr} {c1 c2 B : Nat} {l1 l2 : List Val} {xs1 xs2 : List Value} {css1 css2 : Nat → Array Value} {w : World} (hr1 : Reads w B 5 A1 l1.length xs1) (hr2 : Reads w B 5 A2 l2.length xs2) (hB : B ≤ w.heap.size) (hxs1 : ∀ j, j < l1.length → (xs1.drop (j * 5)).take 5 = (css1 j).toList) (hxs2 : ∀ j, j < l2.length → (xs2.drop (j * 5)).take 5 = (css2 j).toList)
    (hv1 : ∀ j v, l1[j]? = some v → VReads w B v (css1 j)) (hv2 : ∀ j v, l2[j]? = some v → VReads w B v (css2 j)) (hn1 : l1.length ≤ 140737488351232) (hn2 : l2.length ≤ 140737488351232)
    (hcall : ∀ j v u, l1[j]? = some v → l2[j]? = some u → ∀ w1, Below w.heap.size w w1 → Calls Tryz.prog 13 #[.agg (css1 j), .agg (css2 j)] w1 (Says w1 (.bool (eqV v u)))) :
    Calls Tryz.prog 37 #[.slice A1 l1.length c1, .slice A2 l2.length c2, .func (Fn.func 13) #[] #[]] w (Says w (.bool (eqL l1 l2))) := by
  have hsf := fun a k x m w => run_store_float (P := Tryz.prog) a k x m w
  replace hcall := Lib.hid hcall
  by_cases hlen' : ¬ l1.length = l2.length
  · rw [eqL_len hlen']
    have hne : ((l1.length : Int) != (l2.length : Int)) = true := by rw [bne_iff_ne]; omega
    go_enter Tryz.func37, Tryz.ntmps37
    go_wp2_with fail
    go_ret
    exact ⟨rfl, Below.refl _ _⟩
  have hlen := Decidable.not_not.1 hlen'
  clear hlen'
  have hne : ((l1.length : Int) != (l2.length : Int)) = false := by rw [bne_eq_false_iff_eq]; omega
  obtain ⟨r, hr⟩ : ∃ r, eqL l1 l2 = r := ⟨_, rfl⟩
  rw [hr]
  replace hr := Lib.hid hr
  replace hlen := Lib.hid hlen
  go_enter Tryz.func37, Tryz.ntmps37
  go_wp2_with fail
  go_loopw [17] (fun i wr => ∃ k : Nat, k ≤ l1.length ∧ i = .int .i64 (k : Int) ∧ Hid (eqL (l1.drop k) (l2.drop k) = r) ∧ Below w.heap.size w wr) (fun i _ => l1.length - (intOf i).toNat)
  case atStart => exact ⟨0, Nat.zero_le _, rfl, Lib.hid (by rw [List.drop_zero, List.drop_zero]; exact hr.out), Below.refl _ _⟩
  case round =>
    rename_i hrel
    obtain ⟨k, hk1, rfl, hor, hb⟩ := hrel
    by_cases hlt : k < l1.length
    · have hlt2 : k < l2.length := by have := hlen.out; omega
      obtain ⟨ad, k1, i1, f1, s1, B1, n1, d1, rfl, hform1, hgk1, g0, g1, g2, g3, g4⟩ := kid hr1 hv1 hxs1 (hb.mono hB) hlt
      obtain ⟨ad', k2, i2, f2, s2, B2, n2, d2, rfl, hform2, hgk2, e0, e1, e2, e3, e4⟩ := kid hr2 hv2 hxs2 (hb.mono hB) hlt2
      have hst := eqL_step hlt hlt2
      have hcl := fun w1 hw1 => hcall.out k l1[k] l2[k] hgk1 hgk2 w1 hw1
      rw [hform1, hform2] at hcl
      generalize eqV l1[k] l2[k] = q at *
      replace hst := Lib.hid hst
      replace hcl := Lib.hid hcl
      clear hform1 hform2 hgk1 hgk2
      have hla := (Below.refl wr.heap.size wr).alloc (Nat.le_refl _) (.cells #[.int .i64 k1, .int .i64 i1, .float .f64 f1, .string s1, .slice B1 n1 d1] 25)
      have e0' := cell_keep hla e0
      have e1' := cell_keep hla e1
      have e2' := cell_keep hla e2
      have e3' := cell_keep hla e3
      have e4' := cell_keep hla e4
      clear e0 e1 e2 e3 e4
      have hb2 := hb.alloc hb.size (.cells #[.int .i64 k1, .int .i64 i1, .float .f64 f1, .string s1, .slice B1 n1 d1] 25)
      have hb3 := hb2.alloc hb2.size (.cells #[.int .i64 k2, .int .i64 i2, .float .f64 f2, .string s2, .slice B2 n2 d2] 25)
      clear hla
      go_wp2_with fail
      refine (hcl.out _ hb3).mono ?_
      rintro e w5 ⟨rfl, hb5⟩
      dsimp only
      have hb6 := below_then hb5 hb3
      cases q
      · have hqr : r = false := by have h := hst.out; rw [hor.out, if_neg (by decide)] at h; exact h
        subst hqr
        go_wp2_with fail
        go_ret
        exact ⟨rfl, hb6⟩
      · have hst' : eqL (l1.drop (k + 1)) (l2.drop (k + 1)) = r := by have h := hst.out; rw [hor.out, if_pos rfl] at h; exact h.symm
        replace hst' := Lib.hid hst'
        go_wp2_with fail
        go_roundw
        case rel => exact ⟨k + 1, by omega, by go_num, hst', hb6⟩
        case measure => simp [intOf]; omega
    · have hk' : k = l1.length := by omega
      have he : r = true := by rw [← hor.out, List.drop_eq_nil_of_le (by omega), List.drop_eq_nil_of_le (by have := hlen.out; omega), eqL]
      clear hor
      subst hk'
      subst he
      go_wp2_with fail
      go_ret
      exact ⟨rfl, hb⟩

/-- value.Equal at any two trees. -/
theorem equal_tree {w : World} {B : Nat} {v : Val} {cs : Array Value} (h : VReads w B v cs) : ∀ (u : Val) (cs' : Array Value) (w1 : World), VReads w B u cs' → Below B w w1 → B ≤ w1.heap.size → Calls Tryz.prog 13 #[.agg cs, .agg cs'] w1 (Says w1 (.bool (eqV v u))) := by
  induction h with
  | @mk k i f s l A c xs css hn hr hx hxs ih =>
    intro u cs' w1 h' hb1 hB1
    obtain ⟨css', hn', hr', hx', hxs'⟩ := h'
    rename_i k' i' f' s' l' A' c' xs'
    have e : eqV (.mk k i f s l) (.mk k' i' f' s' l') = eqC k i k' i' f f' (bstr s) (bstr s') (eqL l l') := by rw [eqV]
    rw [e]
    refine eq_val k i k' i' f f' (bstr s) (bstr s') A A' l.length c l'.length c' (eqL l l') w1 (fun w5 hb5 _ _ => ?_)
    have hb15 := hb1.trans (hb5.mono hB1)
    have hB5 := Nat.le_trans hB1 hb5.size
    exact equal_list (hr.below hb15) (hr'.below hb15) hB5 hxs hxs' (fun j v hv => (hx j v hv).under hb15) (fun j v hv => (hx' j v hv).under hb15) hn hn'
      (fun j v u hv hu w6 hb6 => ih j v hv u (css' j) w6 (hx' j u hu) (hb15.trans (hb6.mono hB5)) (Nat.le_trans hB5 hb6.size))
end Go.Proofs.YtdbmffagibnibaaGreatDoor
