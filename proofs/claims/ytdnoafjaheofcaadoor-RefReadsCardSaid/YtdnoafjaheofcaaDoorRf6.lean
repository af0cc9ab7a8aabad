/- References read: choirref23.ReadRef. (Printed by gen_rf6.py.) -/
import Derived.Test.YtdnoafjaheofcaaDoorRf5
set_option linter.unusedSimpArgs false
set_option linter.unusedVariables false
namespace Go.Proofs.YtdnoafjaheofcaaDoor
set_option maxRecDepth 100000
open Go.RowKit

set_option maxHeartbeats 6400000 in
theorem ref_read_ref {A : Option Addr} {c : Nat} {b : List UInt8} {w : World} (h : Reads w w.heap.size 1 A b.length (bys b)) (hc : b.length ≤ c) (hl : b.length ≤ 1000000000) :
    Calls Tryd.prog 16 #[.slice A b.length c] w (RefB w (rdR b) (.int .i64 (rdE b)) 36) := by
  have hy := Blk.new w 36 #[.string ⟨#[]⟩, .int .u32 0, .slice none 0 0]
  have hb0 := (Below.refl w.heap.size w).alloc (Nat.le_refl _) (.cells #[.string ⟨#[]⟩, .int .u32 0, .slice none 0 0] 36)
  have h0 := (h.below hb0).more hb0.size
  obtain ⟨R, hR⟩ : ∃ R, rdRef b = R := ⟨_, rfl⟩
  obtain ⟨P1, P2, hP⟩ : ∃ P1 P2, (if R.2 = true then R.1 else ([], 0, [])) = P1 ∧ (if R.2 = true then (0 : Int) else 20) = P2 := ⟨_, _, rfl, rfl⟩
  rw [show rdR b = P1 from by rw [← hP.1, ← hR]; rfl, show rdE b = P2 from by rw [← hP.2, ← hR]; rfl]
  replace hP := Lib.hid hP
  unfold rdRef at hR
  have hol := opened_len b
  obtain ⟨o, ho⟩ : ∃ o, opened b = o := ⟨_, rfl⟩
  rw [ho] at hR hol
  obtain ⟨p, n, er⟩ := o
  dsimp only at hR hol
  replace hR := Lib.hid hR
  have hopen := open_ref h0 hc hl
  rw [ho] at hopen
  replace hopen := Lib.hid hopen
  replace ho := Lib.hid ho
  obtain ⟨y, ey⟩ : ∃ y, w.heap.size = y := ⟨_, rfl⟩
  rw [ey] at hy
  replace ey := Lib.hid ey
  go_enter Tryd.func16, Tryd.ntmps16
  go_upto_region 1 with (fail)
  try rw [ey.out]
  generalize w.alloc (.cells #[.string ⟨#[]⟩, .int .u32 0, .slice none 0 0] 36) = w1 at *
  go_wp2_with fail
  refine hopen.out.mono ?_
  clear hopen
  rintro e w2 ⟨A2, c2, rfl, ho2, hb2, hg2⟩
  dsimp only at ho2 ⊢
  have hy2 := hy.below hb2 hy.lt
  have hb02 := below_then hb2 hb0
  have hyb : w.heap.size ≤ y := by rw [ey.out]; exact Nat.le_refl _
  by_cases hbad : er = 0 ∧ n = b.length
  case neg =>
    have hR' := hR.out
    rw [if_neg hbad] at hR'
    subst hR'
    obtain ⟨u1, u2⟩ := hP.out
    simp only [Bool.false_eq_true, if_false] at u1 u2
    subst u1 u2
    clear hR
    have f0 := hy2.frozen 0
    have f1 := hy2.frozen 1
    have f2 := hy2.frozen 2
    have k0 := hy2.cell 0
    have k1 := hy2.cell 1
    have k2 := hy2.cell 2
    by_cases he : er = 0
    · have t0 : ((er : Int) != 0) = false := bne_eq_false_iff_eq.2 (by omega)
      have t1 : ((n : Int) != (b.length : Int)) = true := bne_iff_ne.2 (by omega)
      clear hbad he
      go_wp2_with fail
      exact bodyPost_ret (v := .tuple #[.agg #[.string ⟨#[]⟩, .int .u32 0, .slice none 0 0], .int .i64 20]) (results_ct rfl _ _ y 36 _ (0, 0) _ _ rfl rfl (((hy2.set_ 0 (.string ⟨#[]⟩)).set_ 1 (.int .u32 0)).set_ 2 (.slice none 0 0)) Tryd.underlying36 rfl (by kernel_rfl)) rfl (RefB.zero rfl (below_three hb02 hyb _ _ _))
    · have t0 : ((er : Int) != 0) = true := bne_iff_ne.2 (by omega)
      clear hbad he
      go_wp2_with fail
      exact bodyPost_ret (v := .tuple #[.agg #[.string ⟨#[]⟩, .int .u32 0, .slice none 0 0], .int .i64 20]) (results_ct rfl _ _ y 36 _ (0, 0) _ _ rfl rfl (((hy2.set_ 0 (.string ⟨#[]⟩)).set_ 1 (.int .u32 0)).set_ 2 (.slice none 0 0)) Tryd.underlying36 rfl (by kernel_rfl)) rfl (RefB.zero rfl (below_three hb02 hyb _ _ _))
  have hR1 := hR.out
  rw [if_pos hbad] at hR1
  replace hR := Lib.hid hR1
  clear hR1
  have t0 : ((er : Int) != 0) = false := bne_eq_false_iff_eq.2 (by omega)
  have t1 : ((n : Int) != (b.length : Int)) = false := bne_eq_false_iff_eq.2 (by omega)
  clear hbad
  obtain ⟨t, ht⟩ : ∃ t, readT p 32 = t := ⟨_, rfl⟩
  have htl : t.2.2 = 0 → 2 ≤ t.2.1 ∧ t.2.1 ≤ p.length ∧ t.1.length ≤ p.length := fun h => by rw [← ht] at h ⊢; exact readT_le h
  have hR1 := hR.out
  rw [ht] at hR1
  replace hR := Lib.hid hR1
  clear hR1
  have hrt := ref_read_text (c := c2) (m := 32) ho2.reads_ ho2.le_cap (by omega) ht
  obtain ⟨s, k, e2⟩ := t
  dsimp only at htl hR
  replace hrt := Lib.hid hrt
  replace ht := Lib.hid ht
  go_wp2_with fail
  refine hrt.out.mono ?_
  clear hrt
  rintro e w3 ⟨rfl, hb3⟩
  dsimp only
  clear t0 t1
  have hy3 := hy2.below hb3 hy2.lt
  have hb03 := below_then hb3 hb02
  have ho3 := ho2.below hb3 (Nat.le_refl _)
  clear hy2 hb02 ho2
  by_cases he2 : e2 = 0
  case neg =>
    have hR' := hR.out
    rw [if_neg he2] at hR'
    subst hR'
    obtain ⟨u1, u2⟩ := hP.out
    simp only [Bool.false_eq_true, if_false] at u1 u2
    subst u1 u2
    clear hR
    have f0 := hy3.frozen 0
    have f1 := hy3.frozen 1
    have f2 := hy3.frozen 2
    have k0 := hy3.cell 0
    have k1 := hy3.cell 1
    have k2 := hy3.cell 2
    have t0 : ((e2 : Int) != 0) = true := bne_iff_ne.2 (by omega)
    clear he2 htl
    go_wp2_with fail
    exact bodyPost_ret (v := .tuple #[.agg #[.string ⟨#[]⟩, .int .u32 0, .slice none 0 0], .int .i64 20]) (results_ct rfl _ _ y 36 _ (0, 0) _ _ rfl rfl (((hy3.set_ 0 (.string ⟨#[]⟩)).set_ 1 (.int .u32 0)).set_ 2 (.slice none 0 0)) Tryd.underlying36 rfl (by kernel_rfl)) rfl (RefB.zero rfl (below_three hb03 hyb _ _ _))
  obtain ⟨hk2, hkp, hsp⟩ := htl he2
  have hR1 := hR.out
  rw [if_pos he2] at hR1
  replace hR := Lib.hid hR1
  clear hR1 htl
  have t0 : ((e2 : Int) != 0) = false := bne_eq_false_iff_eq.2 (by omega)
  clear he2
  obtain ⟨g2, cur2, hA2, hg2b, hnc2, hcm2, -, -⟩ : ∃ g cur, A2 = some ⟨g, 0, none⟩ ∧ Blk w3 g 5 cur ∧ p.length ≤ c2 ∧ c2 ≤ maxLen ∧ True ∧ True := by
    rcases ho3.2 with ⟨_, h0, _⟩ | ⟨g, cur, e, hb, q1, q2, _⟩
    · omega
    · exact ⟨g, cur, e, hb, q1, q2, trivial, trivial⟩
  subst hA2
  have hrp := ho3.reads_
  have hcut := hrp.cut (k := k) (cap := c2) hkp hnc2
  rw [Nat.mul_one, bys_drop] at hcut
  obtain ⟨q, hq⟩ : ∃ q, p.drop k = q := ⟨_, rfl⟩
  have hql : q.length = p.length - k := by rw [← hq, List.length_drop]
  rw [hq] at hcut
  have hR1 := hR.out
  rw [hq] at hR1
  replace hR := Lib.hid hR1
  clear hR1
  by_cases h5 : q.length < 5
  · have hR' := hR.out
    rw [if_neg (by omega)] at hR'
    subst hR'
    clear hR
    obtain ⟨u1, u2⟩ := hP.out
    simp only [Bool.false_eq_true, if_false] at u1 u2
    subst u1 u2
    have t1 : decide ((p.length : Int) < (k : Int) + 5) = true := decide_eq_true (by omega)
    have f0 := hy3.frozen 0
    have f1 := hy3.frozen 1
    have f2 := hy3.frozen 2
    have k0 := hy3.cell 0
    have k1 := hy3.cell 1
    have k2 := hy3.cell 2
    clear hq hcut
    replace hql := Lib.hid hql
    go_wp2_with fail
    exact bodyPost_ret (v := .tuple #[.agg #[.string ⟨#[]⟩, .int .u32 0, .slice none 0 0], .int .i64 20]) (results_ct rfl _ _ y 36 _ (0, 0) _ _ rfl rfl (((hy3.set_ 0 (.string ⟨#[]⟩)).set_ 1 (.int .u32 0)).set_ 2 (.slice none 0 0)) Tryd.underlying36 rfl (by kernel_rfl)) rfl (RefB.zero rfl (below_three hb03 hyb _ _ _))
  have hck : ¬ c2 = k := by omega
  have hk4 : k + 4 < p.length := by omega
  have hk5 : k + 5 ≤ p.length := by omega
  rw [if_neg hck, ← hql] at hcut
  have hcut' : Reads w3 w3.heap.size 1 (some ⟨g2, k, none⟩) q.length (bys q) := by
    have e : (some (⟨g2, 0, none⟩ : Addr)).map (·.add k) = some ⟨g2, k, none⟩ := by rw [Option.map_some, add_row]
    rw [e] at hcut
    exact hcut
  clear hcut
  have t1 : decide ((p.length : Int) < (k : Int) + 5) = false := decide_eq_false (by omega)
  have hqc : q.length ≤ c2 - k := by omega
  obtain ⟨v, hv⟩ : ∃ v, readU (q.take 4) = v := ⟨_, rfl⟩
  have hvl : v < 4294967296 := by
    rw [← hv]
    have := readU_lt (q.take 4)
    rw [List.length_take, Nat.min_eq_left (by omega)] at this
    exact this
  obtain ⟨c5, hc5⟩ : ∃ c5, q.getD 4 0 = c5 := ⟨_, rfl⟩
  have hcl := c5.toNat_lt
  obtain ⟨z, hz⟩ : ∃ z, q.drop 5 = z := ⟨_, rfl⟩
  have hzl : z.length = q.length - 5 := by rw [← hz, List.length_drop]
  have hpz : ∀ i, i < z.length → p[k + 5 + i]? = z[i]? := fun i hi => by rw [← hz, ← hq, List.getElem?_drop, List.getElem?_drop, Nat.add_assoc]
  have hR1 := hR.out
  rw [hv, hc5, hz] at hR1
  replace hR := Lib.hid hR1
  clear hR1
  have hcell : w3.cell? ⟨g2, k + 4, none⟩ = some (.int .u8 (c5.toNat : Int)) := by
    obtain ⟨ad, e, hadb, hcc⟩ := hcut'.2 (by omega)
    obtain rfl := Option.some.inj e
    have := hcc 4 (byv c5) (by simp only [bys, List.getElem?_map]; rw [List.getElem?_eq_getElem (show 4 < q.length by omega)]; rw [← hc5]; simp [List.getD, List.getElem?_eq_getElem (show 4 < q.length by omega)])
    rw [show (⟨g2, k, none⟩ : Addr).add 4 = ⟨g2, k + 4, none⟩ from rfl] at this
    exact this
  have hrd := ref_read (c := c2 - k) (k := 4) hcut' (by omega) (by omega) (by omega)
  rw [hv] at hrd
  replace hrd := Lib.hid hrd
  replace hv := Lib.hid hv
  replace hc5 := Lib.hid hc5
  replace hz := Lib.hid hz
  replace hq := Lib.hid hq
  replace hpz := Lib.hid hpz
  by_cases hlen : q.length = 5 + c5.toNat
  case neg =>
    have hR' := hR.out
    rw [if_neg (by omega)] at hR'
    subst hR'
    clear hR
    obtain ⟨u1, u2⟩ := hP.out
    simp only [Bool.false_eq_true, if_false] at u1 u2
    subst u1 u2
    have t2 : ((p.length : Int) != (k : Int) + 5 + (c5.toNat : Int)) = true := bne_iff_ne.2 (by omega)
    have f0 := hy3.frozen 0
    have f1 := hy3.frozen 1
    have f2 := hy3.frozen 2
    have k0 := hy3.cell 0
    have k1 := hy3.cell 1
    have k2 := hy3.cell 2
    clear hrd
    replace hql := Lib.hid hql
    replace hzl := Lib.hid hzl
    go_wp2_with fail
    exact bodyPost_ret (v := .tuple #[.agg #[.string ⟨#[]⟩, .int .u32 0, .slice none 0 0], .int .i64 20]) (results_ct rfl _ _ y 36 _ (0, 0) _ _ rfl rfl (((hy3.set_ 0 (.string ⟨#[]⟩)).set_ 1 (.int .u32 0)).set_ 2 (.slice none 0 0)) Tryd.underlying36 rfl (by kernel_rfl)) rfl (RefB.zero rfl (below_three hb03 hyb _ _ _))
  have hR1 := hR.out
  rw [if_pos ⟨by omega, hlen⟩] at hR1
  have t2 : ((p.length : Int) != (k : Int) + 5 + (c5.toNat : Int)) = false := bne_eq_false_iff_eq.2 (by omega)
  have hzp : k + 5 + z.length = p.length := by omega
  have hzb : z.length ≤ 1000 := by omega
  replace hlen := Lib.hid hlen
  replace hql := Lib.hid hql
  replace hzl := Lib.hid hzl
  replace hzp := Lib.hid hzp
  have wv : IntKind.u32.wrap (v : Int) = (v : Int) := by unfold IntKind.wrap; simp [IntKind.bits, IntKind.signed]; omega
  go_upto_region 7 with (fail)
  clear t1 t2 hcell
  go_wp2_with fail
  rw [← hql.out]
  refine hrd.out.mono ?_
  clear hrd
  rintro e w4 ⟨rfl, hb4⟩
  dsimp only
  have hy4 := hy3.below hb4 hy3.lt
  have hb04 := below_then hb4 hb03
  have hp4 := (hrp.below hb4).more hb4.size
  clear hrp hy3 hb03 hb4 ho3 hg2b hcut' t0
  have hx := Blk.new w4 36 #[.string (bstr s), .int .u32 (v : Int), .slice none 0 0]
  have hb5 := (Below.refl w4.heap.size w4).alloc (Nat.le_refl _) (.cells #[.string (bstr s), .int .u32 (v : Int), .slice none 0 0] 36)
  have hy5 := hy4.below hb5 hy4.lt
  have hb05 := below_then hb5 hb04
  have hp5 := hp4.below hb5
  have hyx : y < w4.heap.size := hy4.lt
  obtain ⟨x, ex⟩ : ∃ x, w4.heap.size = x := ⟨_, rfl⟩
  rw [ex] at hx hyx hp5
  replace ex := Lib.hid ex
  clear hy4 hb04 hp4 hb5
  go_upto_region 9 with (fail)
  try rw [ex.out]
  generalize w4.alloc (.cells #[.string (bstr s), .int .u32 (v : Int), .slice none 0 0] 36) = w5 at *
  obtain ⟨i0, hi, hz0, hz1, hz2⟩ := info_parts' info_int
  replace hi := Lib.hid hi
  replace hz0 := Lib.hid hz0
  replace hz1 := Lib.hid hz1
  replace hz2 := Lib.hid hz2
  go_wp2_with fail
  go_loopw [12] (fun i wr => ∃ (j : Nat) (A6 : Option Addr) (c6 : Nat), j ≤ z.length ∧ i = .int .i64 ((k : Int) + 5 + (j : Int)) ∧ Blk wr x 36 #[.string (bstr s), .int .u32 (v : Int), .slice A6 j c6] ∧ Own wr 3 1 A6 j c6 (ints (nodesI (z.take j))) ∧ Below x w5 wr ∧ (∀ g, bOf A6 = some g → x < g)) (fun i _ => (p.length - intOf i).toNat)
  case atStart => exact ⟨0, none, 0, Nat.zero_le _, by simp, hx, by simpa [nodesI, ints] using (Own.none_ (w := w5) (t := 3) (size := 1)), Below.refl _ _, fun _ h => by cases h⟩
  case round =>
    rename_i hrel
    obtain ⟨j, A6, c6, hj, rfl, hxr, hor, hbr, hgr⟩ := hrel
    by_cases hlt : j < z.length
    · have hjp : k + 5 + j < p.length := by have := hzp.out; omega
      obtain ⟨cc, hcc⟩ : ∃ cc, z[j] = cc := ⟨_, rfl⟩
      have hccl := cc.toNat_lt
      have htake : Hid (ints (nodesI (z.take (j + 1))) = ints (nodesI (z.take j)) ++ ints [(cc.toNat : Int)]) := Lib.hid (by rw [List.take_succ_eq_append_getElem hlt, hcc]; simp [nodesI, ints])
      obtain ⟨ad, u, e, hg2x, hu, hcj⟩ := (hp5.below hbr).at_ hjp
      obtain rfl := Option.some.inj e
      have hg2x : g2 < x := hg2x
      have hu2 : u = .int .u8 (cc.toNat : Int) := by
        simp only [bys, List.getElem?_map, hpz.out j hlt, List.getElem?_eq_getElem hlt, Option.map_some, Option.some.injEq] at hu
        rw [← hu, hcc]; rfl
      subst hu2
      clear hu hcc
      rw [add_row] at hcj
      have hint : Hid ((#[Value.int .i64 (cc.toNat : Int)] : Array Value).toList = ints [(cc.toNat : Int)]) := Lib.hid rfl
      have wc : IntKind.i64.wrap (cc.toNat : Int) = (cc.toNat : Int) := by rw [IntKind.wrap_i64]; omega
      have ti : decide ((k : Int) + 5 + (j : Int) < (p.length : Int)) = true := decide_eq_true (by omega)
      obtain ⟨m, hm⟩ : ∃ m, k + 5 + j = m := ⟨_, rfl⟩
      rw [hm] at hcj
      have hmi : (k : Int) + 5 + (j : Int) = (m : Int) := by omega
      rw [hmi] at ti ⊢
      have hml : m < p.length := by omega
      have hmn : (m : Int) + 1 = (k : Int) + 5 + ((j + 1 : Nat) : Int) := by omega
      replace hm := Lib.hid hm
      replace hmi := Lib.hid hmi
      replace hmn := Lib.hid hmn
      clear hjp
      have hS : Blk wr.drew x 36 #[.string (bstr s), .int .u32 (v : Int), .slice A6 j c6] ∧ wr.drew.cell? ⟨g2, m, none⟩ = some (.int .u8 (cc.toNat : Int)) := ⟨hxr.drew, hcj⟩
      have hord := hor.drew
      have hbrd := hbr.drew
      go_wp2_with fail
      refine wp_region_lex (fun W => Blk W x 36 #[.string (bstr s), .int .u32 (v : Int), .slice A6 j c6] ∧ W.cell? ⟨g2, m, none⟩ = some (.int .u8 (cc.toNat : Int))) [1, 5] [7, 8, 10] [0, 1, 2, 3, 4, 5, 6, 7, 8, 9, 10] (by kernel_rfl) rfl (by kernel_rfl) (by kernel_rfl) (fun _ _ d _ _ h => by cases d <;> exact h) ?_
      generalize wr.drew = wd at *
      repeat (first | (refine lexG_take _ ?_ rfl rfl rfl rfl (fun _ => ?_) ?_; rotate_left; (focus (go_simp; with_reducible rfl)); try simp only [Act.put, List.setIfInBounds_toArray, List.set_cons_zero, List.set_cons_succ]) | (refine lexG_held _ ?_ rfl rfl rfl rfl (by assumption) (fun _ hSw => ?_) ?_; rotate_left; (focus (have z2 := hSw.1.cell 2; have z3 := hSw.2; clear hSw; go_simp; with_reducible rfl)); try simp only [Act.put, List.setIfInBounds_toArray, List.set_cons_zero, List.set_cons_succ]) | (refine lexG_skip _ rfl rfl (by assumption) ?_; try simp only [Act.put, List.setIfInBounds_toArray, List.set_cons_zero, List.set_cons_succ]))
      refine lexG_now _ rfl rfl rfl (fun K hK => ?_)
      go_wp2_with fail
      have hxd := hS.1.alloc (.cells #[.int .i64 (cc.toNat : Int)] 3)
      have hxl := hS.1.lt
      have hsd : (wd.alloc (.cells #[.int .i64 (cc.toNat : Int)] 3)).heap.size = wd.heap.size + 1 := by simp
      have hcd : (wd.alloc (.cells #[.int .i64 (cc.toNat : Int)] 3)).cell? ⟨g2, m, none⟩ = some (.int .u8 (cc.toNat : Int)) := (World.cell?_alloc_lt wd _ ⟨g2, m, none⟩ (by show g2 < _; omega)).trans hS.2
      refine hK _ _ _ (fun _ h => h) ⟨hxd, hcd⟩ ?_
      clear hK K
      try simp only [Act.put, List.setIfInBounds_toArray, List.set_cons_zero, List.set_cons_succ]
      have hod := hord.alloc (.cells #[.int .i64 (cc.toNat : Int)] 3)
      have hbd := hbrd.alloc (Nat.le_of_lt hxl) (.cells #[.int .i64 (cc.toNat : Int)] 3)
      have hsrc := Reads.lit (size := 1) wd #[.int .i64 (cc.toNat : Int)] 3 (0, 0) 1 (ints [(cc.toNat : Int)]) hint.out rfl
      generalize wd.alloc (.cells #[.int .i64 (cc.toNat : Int)] 3) = we at *
      refine lexG_now _ rfl rfl rfl (fun K hK => ?_)
      refine wp_append_mine _ _ 24 24 rfl 3 i0 (.int .i64 0) 1 8 Tryd.underlying24 hi.out hz0.out hz1.out hz2.out rfl rfl hod rfl (Src.ofReads Tryd.underlying24 _ hsrc (fun u hu => by simp [ints] at hu; subst hu; rfl)) (by unfold maxLen; omega) (by omega) (fun A7 c7 w7 ho7 hg7 hat7 => ?_)
      have hx7 := hxd.grown hg7 (fun e => by have := hgr x e.symm; omega)
      have hc7 : w7.cell? ⟨g2, m, none⟩ = some (.int .u8 (cc.toNat : Int)) := (World.cell?_of_block (a := ⟨g2, m, none⟩) (hg7.block g2 (by omega) (fun e => by have := hgr g2 e.symm; omega))).trans hcd
      refine hK _ _ _ (fun _ h => h) ⟨hx7, hc7⟩ ?_
      clear hK K
      try simp only [Act.put, List.setIfInBounds_toArray, List.set_cons_zero, List.set_cons_succ]
      repeat (first | (refine lexG_take _ ?_ rfl rfl rfl rfl (fun _ => ?_) ?_; rotate_left; (focus (go_simp; with_reducible rfl)); try simp only [Act.put, List.setIfInBounds_toArray, List.set_cons_zero, List.set_cons_succ]) | (refine lexG_held _ ?_ rfl rfl rfl rfl (by assumption) (fun _ hSw => ?_) ?_; rotate_left; (focus ((try dsimp only at hSw); go_simp; with_reducible rfl)); try simp only [Act.put, List.setIfInBounds_toArray, List.set_cons_zero, List.set_cons_succ]) | (refine lexG_skip _ rfl rfl (by assumption) ?_; try simp only [Act.put, List.setIfInBounds_toArray, List.set_cons_zero, List.set_cons_succ]))
      have hgx : ∀ g, bOf A7 = some g → x < g := fun g hg => by
        rcases hat7 with h7 | h7 <;> rw [h7] at hg
        · exact hgr g hg
        · simp at hg; omega
      have hb7 : Below x w5 w7 := hbd.grown hg7 (by omega) (fun g hg => Nat.le_of_lt (hgr g hg))
      rw [← htake.out] at ho7
      have k7 := hx7.cell 2
      have f7 := hx7.frozen 2
      refine lexG_nowF _ rfl rfl rfl (by kernel_rfl) (fun K hK => ?_)
      go_simp
      refine hK _ _ ?_
      clear hK K k7 f7
      try simp only [Act.put, List.setIfInBounds_toArray, List.set_cons_zero, List.set_cons_succ]
      refine lexG_nil ?_
      go_wp2_with fail
      go_roundw
      case rel => exact ⟨j + 1, A7, c7, by omega, by rw [hmn.out], hx7.set_ 2 _, ho7.setCell (p := ⟨x, 2, none⟩) (fun e => by have := hgx x e; omega) _, hb7.setCell (p := ⟨x, 2, none⟩) (Nat.le_refl _) _, hgx⟩
      case measure => simp [intOf]; omega
    · obtain rfl : j = z.length := by omega
      rw [List.take_length] at hor
      have hz' := hzp.out
      have ti : decide ((k : Int) + 5 + (z.length : Int) < (p.length : Int)) = false := decide_eq_false (by omega)
      clear hz'
      have hnl : (nodesI z).length = z.length := by simp [nodesI]
      have hyr : Blk wr y 36 #[.string ⟨#[]⟩, .int .u32 0, .slice none 0 0] := hy5.below hbr hyx
      have hbw : Below w.heap.size w wr := hb05.trans (hbr.mono (by rw [ey.out]; omega))
      obtain ⟨rb, hrb⟩ : ∃ rb, rightB s (nodesI z) = rb := ⟨_, rfl⟩
      rw [hrb] at hR1
      subst hR1
      have hright := ref_right (g := s) (v := (v : Int)) (c := c6) (A := A6) (ns := nodesI z) (w := wr) (by rw [hnl]; exact hor.reads_) (by omega) (by omega)
      rw [hrb, hnl] at hright
      replace hright := Lib.hid hright
      replace hrb := Lib.hid hrb
      replace hnl := Lib.hid hnl
      have z0 := hxr.cell 0
      have z1 := hxr.cell 1
      have z2 := hxr.cell 2
      go_wp2_with fail
      refine hright.out.mono ?_
      clear hright z0 z1 z2
      rintro e w9 ⟨rfl, hb9⟩
      dsimp only
      have hx9 := hxr.below hb9 hxr.lt
      have hy9 := hyr.below hb9 hyr.lt
      have hb09 := below_then hb9 hbw
      have ho9 := hor.below hb9 (Nat.le_refl _)
      have z0 := hx9.cell 0
      have z1 := hx9.cell 1
      have z2 := hx9.cell 2
      have f0 := hy9.frozen 0
      have f1 := hy9.frozen 1
      have f2 := hy9.frozen 2
      have k0 := hy9.cell 0
      have k1 := hy9.cell 1
      have k2 := hy9.cell 2
      have hgy : ∀ q, bOf A6 = some q → y < q := fun q hq => by have := hgr q hq; omega
      cases rb
      · obtain ⟨u1, u2⟩ := hP.out
        simp only [Bool.false_eq_true, if_false] at u1 u2
        subst u1 u2
        go_wp2_with fail
        exact bodyPost_ret (v := .tuple #[.agg #[.string ⟨#[]⟩, .int .u32 0, .slice none 0 0], .int .i64 20]) (results_ct rfl _ _ y 36 _ (0, 0) _ _ rfl rfl (((hy9.set_ 0 (.string ⟨#[]⟩)).set_ 1 (.int .u32 0)).set_ 2 (.slice none 0 0)) Tryd.underlying36 rfl (by kernel_rfl)) rfl (RefB.zero rfl (below_three hb09 hyb _ _ _))
      · obtain ⟨u1, u2⟩ := hP.out
        simp only [if_true] at u1 u2
        subst u1 u2
        go_wp2_with fail
        refine bodyPost_ret (v := .tuple #[.agg #[.string (bstr s), .int .u32 (v : Int), .slice A6 z.length c6], .int .i64 0]) (results_ct rfl _ _ y 36 _ (0, 0) _ _ rfl rfl (((hy9.set_ 0 (.string (bstr s))).set_ 1 (.int .u32 (v : Int))).set_ 2 (.slice A6 z.length c6)) Tryd.underlying36 rfl (by kernel_rfl)) rfl ⟨A6, c6, ?_, ?_, below_three hb09 hyb _ _ _, fun q hq => by have := hgy q hq; omega⟩
        · dsimp only; rw [hnl.out]
        · dsimp only; rw [hnl.out]; exact ((ho9.setCell (p := ⟨y, 0, none⟩) (fun e => by have := hgy y e; omega) _).setCell (p := ⟨y, 1, none⟩) (fun e => by have := hgy y e; omega) _).setCell (p := ⟨y, 2, none⟩) (fun e => by have := hgy y e; omega) _
end Go.Proofs.YtdnoafjaheofcaaDoor
