/- choirref3.SameOp: the document's question whether two calls are the same. -/
import Derived.Test.YtfmmabkekjchjaaSameO
import Derived.Test.YtfmmabkekjchjaaCallKnown
import Derived.Test.YtfmmabkekjchjaaOrdR
set_option linter.unusedSimpArgs false
set_option linter.unusedVariables false
namespace Go.Proofs.Ytfmmabkekjchjaa
open Go.RowKit
set_option maxRecDepth 100000

set_option maxHeartbeats 3200000 in
theorem ref_same {w : World} {B : Nat} {o1 o2 : OpD} {cs cs' : Array Value} (h : OpReads w B o1 cs) (h' : OpReads w B o2 cs') (w1 : World) (hb1 : Below B w w1) (hB1 : B ≤ w1.heap.size) :
    Calls Try.prog 24 #[.agg cs, .agg cs'] w1 (Says w1 (.bool (sameO o1 o2))) := by
  obtain ⟨A1, cc1, xs, css, rfl, hr, hx, hxs, hl, hok, -⟩ := h
  obtain ⟨A2, cc2, xs', css', rfl, hr', hx', hxs', hl', hok', -⟩ := h'
  obtain ⟨ca1, sa1, na1, g1, m1, l1⟩ := o1
  obtain ⟨ca2, sa2, na2, g2, m2, l2⟩ := o2
  unfold sameO
  dsimp only at *
  generalize bstr g1 = gg1 at *
  generalize bstr m1 = mm1 at *
  generalize bstr g2 = gg2 at *
  generalize bstr m2 = mm2 at *
  have hcall : ∀ j v u, l1[j]? = some v → l2[j]? = some u → ∀ w2, Below w1.heap.size w1 w2 → Calls Try.prog 38 #[.agg (css j), .agg (css' j)] w2 (Says w2 (.int .i64 (ordV v u))) := fun j v u h1 h2 w2 hw2 =>
    ref_order_tree (hx j v h1) u (css' j) w2 (hx' j u h2) (hok v (List.mem_of_getElem? h1)) (hok' u (List.mem_of_getElem? h2)) (hb1.trans (hw2.mono hB1)) (Nat.le_trans hB1 hw2.size)
  replace hcall := Lib.hid hcall
  have b1 := Blk.new w1 50 #[.int .u32 (ca1 : Int), .int .u32 (sa1 : Int), .int .u16 (na1 : Int), .string gg1, .string mm1, .slice A1 l1.length cc1]
  have b1' := b1.alloc (.cells #[.int .u32 (ca2 : Int), .int .u32 (sa2 : Int), .int .u16 (na2 : Int), .string gg2, .string mm2, .slice A2 l2.length cc2] 50)
  have b2 := Blk.new (w1.alloc (.cells #[.int .u32 (ca1 : Int), .int .u32 (sa1 : Int), .int .u16 (na1 : Int), .string gg1, .string mm1, .slice A1 l1.length cc1] 50)) 50 #[.int .u32 (ca2 : Int), .int .u32 (sa2 : Int), .int .u16 (na2 : Int), .string gg2, .string mm2, .slice A2 l2.length cc2]
  have hsz : (w1.alloc (.cells #[.int .u32 (ca1 : Int), .int .u32 (sa1 : Int), .int .u16 (na1 : Int), .string gg1, .string mm1, .slice A1 l1.length cc1] 50)).heap.size = w1.heap.size + 1 := by simp
  rw [hsz] at b2
  have hbl := ((Below.refl w1.heap.size w1).alloc (Nat.le_refl _) (.cells #[.int .u32 (ca1 : Int), .int .u32 (sa1 : Int), .int .u16 (na1 : Int), .string gg1, .string mm1, .slice A1 l1.length cc1] 50)).alloc (by simp) (.cells #[.int .u32 (ca2 : Int), .int .u32 (sa2 : Int), .int .u16 (na2 : Int), .string gg2, .string mm2, .slice A2 l2.length cc2] 50)
  obtain ⟨r, hrr⟩ : ∃ r, ((decide (ca1 = ca2) && decide (sa1 = sa2) && decide (na1 = na2)) && decide (gg1 = gg2) && decide (mm1 = mm2) && sameL l1 l2) = r := ⟨_, rfl⟩
  rw [hrr]
  replace hrr := Lib.hid hrr
  clear b1 hsz
  by_cases hid : (ca1 : Int) = ca2 ∧ (sa1 : Int) = sa2 ∧ (na1 : Int) = na2
  · have e1 : ca1 = ca2 := by omega
    have e2 : sa1 = sa2 := by omega
    have e3 : na1 = na2 := by omega
    subst e1 e2 e3
    by_cases hg : gg1 = gg2
    · subst hg
      by_cases hm : mm1 = mm2
      · subst hm
        by_cases hll : l1.length = l2.length
        · have hrq : decide (ordL l1 l2 = 0) = r := by rw [← hrr.out]; simp [sameL, hll]
          have d1 : decide (gg1 = gg1) = true := decide_eq_true rfl
          have d2 : decide (mm1 = mm1) = true := decide_eq_true rfl
          have hd : ((l1.length : Int) != (l2.length : Int)) = false := by rw [bne_eq_false_iff_eq]; omega
          replace hrq := Lib.hid hrq
          have hll' := Lib.hid hll
          clear hll
          clear hid hrr
          have hr1 := (hr.below hb1).more hB1
          have hr2 := (hr'.below hb1).more hB1
          have hx1 : ∀ (j : Nat) (v : Val), l1[j]? = some v → VReads w1 w1.heap.size v (css j) := fun j v hv => ((hx j v hv).under hb1).up hB1
          have hx2 : ∀ (j : Nat) (v : Val), l2[j]? = some v → VReads w1 w1.heap.size v (css' j) := fun j v hv => ((hx' j v hv).under hb1).up hB1
          replace hr1 := Lib.hid hr1
          replace hr2 := Lib.hid hr2
          replace hx1 := Lib.hid hx1
          replace hx2 := Lib.hid hx2
          replace hxs := Lib.hid hxs
          replace hxs' := Lib.hid hxs'
          obtain ⟨c0, c1, c2, c3, c4, c5⟩ := b1'.op6
          obtain ⟨c0', c1', c2', c3', c4', c5'⟩ := b2.op6
          go_enter Try.func24, Try.ntmps24
          go_wp2_with fail
          clear hd d1 d2 c0 c1 c2 c3 c4 c5 c0' c1' c2' c3' c4' c5' hr hr' hx hx'
          go_loopw [5] (fun i wr => ∃ k : Nat, k ≤ l1.length ∧ i = .int .i64 (k : Int) ∧ Hid (decide (ordL (l1.drop k) (l2.drop k) = 0) = r) ∧ Below w1.heap.size w1 wr ∧ Blk wr w1.heap.size 50 #[.int .u32 (ca1 : Int), .int .u32 (sa1 : Int), .int .u16 (na1 : Int), .string gg1, .string mm1, .slice A1 l1.length cc1] ∧ Blk wr (w1.heap.size + 1) 50 #[.int .u32 (ca1 : Int), .int .u32 (sa1 : Int), .int .u16 (na1 : Int), .string gg1, .string mm1, .slice A2 l2.length cc2]) (fun i _ => l1.length - (intOf i).toNat)
          case atStart => exact ⟨0, Nat.zero_le _, rfl, Lib.hid (by rw [List.drop_zero, List.drop_zero]; exact hrq.out), hbl, b1', b2⟩
          case round =>
            rename_i hrel
            obtain ⟨k, hk1, rfl, hor, hb, hB1', hB2'⟩ := hrel
            obtain ⟨c0, c1, c2, c3, c4, c5⟩ := hB1'.op6
            clear c0 c1 c2 c3 c4
            by_cases hlt : k < l1.length
            · have hlt2 : k < l2.length := by have := hll'.out; omega
              obtain ⟨ad, k1, i1, f1, s1, B1, n1, d1, rfl, hform1, hgk1, g0, g1, g2, g3, g4⟩ := kid hr1.out hx1.out hxs.out hb hlt
              obtain ⟨ad', k2, i2, f2, s2, B2, n2, d2, rfl, hform2, hgk2, e0, e1, e2, e3, e4⟩ := kid hr2.out hx2.out hxs'.out hb hlt2
              have hka := fun (W : World) (hW : Below wr.heap.size wr W) => kid hr1.out hx1.out hxs.out (below_then hW hb) hlt
              have hst := ordL_step hlt hlt2
              have hcl := fun w1 hw1 => hcall.out k l1[k] l2[k] hgk1 hgk2 w1 hw1
              rw [hform1, hform2] at hcl
              generalize ordV l1[k] l2[k] = q at *
              replace hst := Lib.hid hst
              replace hcl := Lib.hid hcl
              have hbg := hb.size
              have hS0 : Below wr.heap.size wr wr.drew := (Below.refl _ _).drew
              clear hform1 hform2 hgk1 hgk2 hka
              have kp : ∀ (W : World), Below wr.heap.size wr W → W.cell? (ad.add (k * 5)) = some (.int .i64 k1) ∧ W.cell? ⟨(ad.add (k * 5)).block, (ad.add (k * 5)).off + 1, none⟩ = some (.int .i64 i1) ∧ W.cell? ⟨(ad.add (k * 5)).block, (ad.add (k * 5)).off + 2, none⟩ = some (.float .f64 f1) ∧ W.cell? ⟨(ad.add (k * 5)).block, (ad.add (k * 5)).off + 3, none⟩ = some (.string s1) ∧ W.cell? ⟨(ad.add (k * 5)).block, (ad.add (k * 5)).off + 4, none⟩ = some (.slice B1 n1 d1) := fun W hW => ⟨cell_keep hW g0, cell_keep hW g1, cell_keep hW g2, cell_keep hW g3, cell_keep hW g4⟩
              have kp' : ∀ (W : World), Below wr.heap.size wr W → W.cell? (ad'.add (k * 5)) = some (.int .i64 k2) ∧ W.cell? ⟨(ad'.add (k * 5)).block, (ad'.add (k * 5)).off + 1, none⟩ = some (.int .i64 i2) ∧ W.cell? ⟨(ad'.add (k * 5)).block, (ad'.add (k * 5)).off + 2, none⟩ = some (.float .f64 f2) ∧ W.cell? ⟨(ad'.add (k * 5)).block, (ad'.add (k * 5)).off + 3, none⟩ = some (.string s2) ∧ W.cell? ⟨(ad'.add (k * 5)).block, (ad'.add (k * 5)).off + 4, none⟩ = some (.slice B2 n2 d2) := fun W hW => ⟨cell_keep hW e0, cell_keep hW e1, cell_keep hW e2, cell_keep hW e3, cell_keep hW e4⟩
              replace kp := Lib.hid kp
              replace kp' := Lib.hid kp'
              clear g0 g1 g2 g3 g4 e0 e1 e2 e3 e4
              go_wp2_with fail
              clear c5
              refine wp_region_lex (fun W => Below wr.heap.size wr W) [1, 4, 6, 9] [10] [0, 1, 2, 3, 4, 5, 6, 7, 8, 9, 10, 11] (by kernel_rfl) rfl (by kernel_rfl) (by kernel_rfl) (fun _ _ d _ _ h => by cases d <;> exact h) ?_
              repeat (first | (refine lexG_take _ ?_ rfl rfl rfl rfl (fun _ => ?_) ?_; rotate_left; (focus (go_simp; with_reducible rfl)); try simp only [Act.put, List.setIfInBounds_toArray, List.set_cons_zero, List.set_cons_succ]) | (refine lexG_held _ ?_ rfl rfl rfl rfl (by assumption) (fun _ hSw => ?_) ?_; rotate_left; (focus (have h1 := (hB1'.below hSw hB1'.lt).op6; have h2 := (hB2'.below hSw hB2'.lt).op6; have h3 := kp.out _ hSw; have h4 := kp'.out _ hSw; clear hSw; go_simp; with_reducible rfl)); try simp only [Act.put, List.setIfInBounds_toArray, List.set_cons_zero, List.set_cons_succ]) | (refine lexG_skip _ rfl rfl (by assumption) ?_; try simp only [Act.put, List.setIfInBounds_toArray, List.set_cons_zero, List.set_cons_succ]))
              refine lexG_now _ rfl rfl rfl (fun K0 hK => ?_)
              go_wp2_with fail
              refine (hcl.out _ hb.drew).mono ?_
              rintro e w5 ⟨rfl, hb5'⟩
              dsimp only
              have hb5 : Below wr.heap.size wr w5 := below_of_drew hb5'
              refine hK _ _ _ (fun _ h => h) hb5 ?_
              clear hK K0
              try simp only [Act.put, List.setIfInBounds_toArray, List.set_cons_zero, List.set_cons_succ]
              by_cases hq : q = 0
              · subst hq
                have hst' : decide (ordL (l1.drop (k + 1)) (l2.drop (k + 1)) = 0) = r := by have h := hst.out; rw [if_pos rfl] at h; rw [← h]; exact hor.out
                replace hst' := Lib.hid hst'
                repeat (first | (refine lexG_take _ ?_ rfl rfl rfl rfl (fun _ => ?_) ?_; rotate_left; (focus (go_simp; with_reducible rfl)); try simp only [Act.put, List.setIfInBounds_toArray, List.set_cons_zero, List.set_cons_succ]) | (refine lexG_held _ ?_ rfl rfl rfl rfl (by assumption) (fun _ hSw => ?_) ?_; rotate_left; (focus ((try dsimp only at hSw); go_simp; with_reducible rfl)); try simp only [Act.put, List.setIfInBounds_toArray, List.set_cons_zero, List.set_cons_succ]) | (refine lexG_skip _ rfl rfl (by assumption) ?_; try simp only [Act.put, List.setIfInBounds_toArray, List.set_cons_zero, List.set_cons_succ]))
                refine lexG_nil ?_
                have hb6 := below_then hb5 hb
                have hB1n := hB1'.below hb5 hB1'.lt
                have hB2n := hB2'.below hb5 hB2'.lt
                go_wp2_with fail
                go_roundw
                case rel => exact ⟨k + 1, by omega, by simp, hst', hb6, hB1n, hB2n⟩
                case measure => simp [intOf]; omega
              · have hrf : r = false := by have h := hst.out; rw [if_neg hq] at h; rw [← hor.out, h]; exact decide_eq_false hq
                have hqf : (q != 0) = true := bne_iff_ne.2 hq
                subst hrf
                repeat (first | (refine lexG_take _ ?_ rfl rfl rfl rfl (fun _ => ?_) ?_; rotate_left; (focus (go_simp; with_reducible rfl)); try simp only [Act.put, List.setIfInBounds_toArray, List.set_cons_zero, List.set_cons_succ]) | (refine lexG_held _ ?_ rfl rfl rfl rfl (by assumption) (fun _ hSw => ?_) ?_; rotate_left; (focus ((try dsimp only at hSw); go_simp; with_reducible rfl)); try simp only [Act.put, List.setIfInBounds_toArray, List.set_cons_zero, List.set_cons_succ]) | (refine lexG_skip _ rfl rfl (by assumption) ?_; try simp only [Act.put, List.setIfInBounds_toArray, List.set_cons_zero, List.set_cons_succ]))
                refine lexG_nil ?_
                have hb6 := below_then hb5 hb
                go_wp2_with fail
                go_ret
                exact ⟨rfl, hb6⟩
            · have hk' : k = l1.length := by omega
              subst hk'
              have hrt : r = true := by rw [← hor.out, ordL_end (Nat.le_refl _) (by have := hll'.out; omega), if_neg (by have := hll'.out; omega)]; rfl
              subst hrt
              clear hor
              go_wp2_with fail
              go_ret
              exact ⟨rfl, hb⟩
        · have hrf : r = false := by rw [← hrr.out]; simp [sameL, hll]
          subst hrf
          have d1 : decide (gg1 = gg1) = true := decide_eq_true rfl
          have d2 : decide (mm1 = mm1) = true := decide_eq_true rfl
          have hd : ((l1.length : Int) != (l2.length : Int)) = true := bne_iff_ne.2 (by omega)
          clear hid hrr
          go_enter Try.func24, Try.ntmps24
          go_wp2_with fail
          all_goals (go_ret; exact ⟨rfl, hbl⟩)
      · have hrf : r = false := by rw [← hrr.out]; simp [hm]
        subst hrf
        have d1 : decide (gg1 = gg1) = true := decide_eq_true rfl
        have d2 : decide (mm1 = mm2) = false := decide_eq_false hm
        clear hid hrr
        go_enter Try.func24, Try.ntmps24
        go_wp2_with fail
        all_goals first | (go_ret; exact ⟨rfl, hbl⟩) | (exfalso; exact absurd (ByteArray.ext (Array.toList_inj.1 (by rw [← ByteArray.toList_eq, ← ByteArray.toList_eq]; assumption))) hm)
    · have hrf : r = false := by rw [← hrr.out]; simp [hg]
      subst hrf
      have d1 : decide (gg1 = gg2) = false := decide_eq_false hg
      clear hid hrr
      go_enter Try.func24, Try.ntmps24
      go_wp2_with fail
      all_goals first | (go_ret; exact ⟨rfl, hbl⟩) | (exfalso; exact absurd (ByteArray.ext (Array.toList_inj.1 (by rw [← ByteArray.toList_eq, ← ByteArray.toList_eq]; assumption))) hg)
  · have hrf : r = false := by
      rw [← hrr.out]
      have : (decide (ca1 = ca2) && decide (sa1 = sa2) && decide (na1 = na2)) = false := by
        cases h1 : decide (ca1 = ca2)
        · rfl
        · cases h2 : decide (sa1 = sa2)
          · rfl
          · cases h3 : decide (na1 = na2)
            · rfl
            · have := of_decide_eq_true h1
              have := of_decide_eq_true h2
              have := of_decide_eq_true h3
              exact absurd ⟨by omega, by omega, by omega⟩ hid
      rw [this]; rfl
    have hid' : ((ca1 : Int) == ca2 && ((sa1 : Int) == sa2 && (na1 : Int) == na2)) = false := by
      cases h : ((ca1 : Int) == ca2 && ((sa1 : Int) == sa2 && (na1 : Int) == na2))
      · rfl
      · simp only [Bool.and_eq_true, beq_iff_eq] at h
        exact absurd ⟨h.1, h.2.1, h.2.2⟩ hid
    subst hrf
    clear hrr
    go_enter Try.func24, Try.ntmps24
    go_wp2_with fail
    all_goals (go_ret; exact ⟨rfl, ((Below.refl w1.heap.size w1).alloc (Nat.le_refl _) _).alloc (by simp) _⟩)
end Go.Proofs.Ytfmmabkekjchjaa
