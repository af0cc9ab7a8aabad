/- call.Same: are two calls the same? -/
import Derived.Test.YtfmmabkekjchjaaOpB
set_option linter.unusedSimpArgs false
set_option linter.unusedVariables false
namespace Go.Proofs.Ytfmmabkekjchjaa
open Go.RowKit
set_option maxRecDepth 100000

def sameL (l l' : List Val) : Bool := decide (l.length = l'.length) && decide (ordL l l' = 0)

theorem same1 (k1 i1 k2 i2 : Int) (f1 f2 : Nat) (s1 s2 : ByteArray) (A1 A2 : Option Addr) (n1 c1 n2 c2 : Nat) (o : Int) (w : World)
    (hord : ∀ w2, Below w.heap.size w w2 → Calls Try.prog 36 #[.agg #[.int .i64 k1, .int .i64 i1, .float .f64 f1, .string s1, .slice A1 n1 c1], .agg #[.int .i64 k2, .int .i64 i2, .float .f64 f2, .string s2, .slice A2 n2 c2]] w2 (Says w2 (.int .i64 o))) :
    Calls Try.prog 35 #[.agg #[.int .i64 k1, .int .i64 i1, .float .f64 f1, .string s1, .slice A1 n1 c1], .agg #[.int .i64 k2, .int .i64 i2, .float .f64 f2, .string s2, .slice A2 n2 c2]] w (Says w (.bool (decide (o = 0)))) := by
  have b1 := Blk.new w 72 #[.int .i64 k1, .int .i64 i1, .float .f64 f1, .string s1, .slice A1 n1 c1]
  have b1' := b1.alloc (.cells #[.int .i64 k2, .int .i64 i2, .float .f64 f2, .string s2, .slice A2 n2 c2] 72)
  have b2 := Blk.new (w.alloc (.cells #[.int .i64 k1, .int .i64 i1, .float .f64 f1, .string s1, .slice A1 n1 c1] 72)) 72 #[.int .i64 k2, .int .i64 i2, .float .f64 f2, .string s2, .slice A2 n2 c2]
  have hsz : (w.alloc (.cells #[.int .i64 k1, .int .i64 i1, .float .f64 f1, .string s1, .slice A1 n1 c1] 72)).heap.size = w.heap.size + 1 := by simp
  rw [hsz] at b2
  have hbl := ((Below.refl w.heap.size w).alloc (Nat.le_refl _) (.cells #[.int .i64 k1, .int .i64 i1, .float .f64 f1, .string s1, .slice A1 n1 c1] 72)).alloc (by simp) (.cells #[.int .i64 k2, .int .i64 i2, .float .f64 f2, .string s2, .slice A2 n2 c2] 72)
  obtain ⟨r, hr⟩ : ∃ r, decide (o = 0) = r := ⟨_, rfl⟩
  have hr2 : (o == 0) = r := by rw [← hr]; by_cases h : o = 0 <;> simp [h]
  rw [hr]
  replace hord := Lib.hid hord
  clear hr b1 hsz
  go_enter Try.func35, Try.ntmps35
  go_wp2_with fail
  refine (hord.out _ hbl).mono ?_
  rintro e w3 ⟨rfl, hb3⟩
  dsimp only
  have hfin := below_then hb3 hbl
  go_wp2_with fail
  go_ret
  exact ⟨rfl, hfin⟩

set_option maxHeartbeats 1600000 in
theorem equal_list {A1 A2 : Option Addr} {c1 c2 B : Nat} {l1 l2 : List Val} {xs1 xs2 : List Value} {css1 css2 : Nat → Array Value} {w : World} (hr1 : Reads w B 5 A1 l1.length xs1) (hr2 : Reads w B 5 A2 l2.length xs2) (hB : B ≤ w.heap.size) (hxs1 : ∀ j, j < l1.length → (xs1.drop (j * 5)).take 5 = (css1 j).toList) (hxs2 : ∀ j, j < l2.length → (xs2.drop (j * 5)).take 5 = (css2 j).toList)
    (hv1 : ∀ j v, l1[j]? = some v → VReads w B v (css1 j)) (hv2 : ∀ j v, l2[j]? = some v → VReads w B v (css2 j)) (hn1 : l1.length ≤ 140737488351232) (hn2 : l2.length ≤ 140737488351232) (hok1 : ∀ v ∈ l1, OkV v) (hok2 : ∀ v ∈ l2, OkV v) :
    Calls Try.prog 37 #[.slice A1 l1.length c1, .slice A2 l2.length c2, .func (Fn.func 35) #[] #[]] w (Says w (.bool (sameL l1 l2))) := by
  have hsf := fun a k x m w => run_store_float (P := Try.prog) a k x m w
  have hcall : ∀ j v u, l1[j]? = some v → l2[j]? = some u → ∀ w1, Below w.heap.size w w1 → Calls Try.prog 36 #[.agg (css1 j), .agg (css2 j)] w1 (Says w1 (.int .i64 (ordV v u))) := fun j v u h1 h2 w1 hw1 =>
    order_tree (hv1 j v h1) u (css2 j) w1 (hv2 j u h2) (hok1 v (List.mem_of_getElem? h1)) (hok2 u (List.mem_of_getElem? h2)) (hw1.mono hB) (Nat.le_trans hB hw1.size)
  replace hcall := Lib.hid hcall
  obtain ⟨r, hr⟩ : ∃ r, sameL l1 l2 = r := ⟨_, rfl⟩
  rw [hr]
  unfold sameL at hr
  by_cases hll : l1.length = l2.length
  case neg =>
    have hrf : r = false := by rw [← hr, decide_eq_false hll]; rfl
    subst hrf
    have hd : ((l1.length : Int) != (l2.length : Int)) = true := bne_iff_ne.2 (by omega)
    clear hr hr1 hr2 hxs1 hxs2 hv1 hv2 hcall
    go_enter Try.func37, Try.ntmps37
    go_wp2_with fail
    go_ret
    exact ⟨rfl, Below.refl _ _⟩
  rw [decide_eq_true hll, Bool.true_and] at hr
  replace hr := Lib.hid hr
  have hd : ((l1.length : Int) != (l2.length : Int)) = false := by rw [bne_eq_false_iff_eq]; omega
  go_enter Try.func37, Try.ntmps37
  go_wp2_with fail
  clear hd
  go_loopw [7, 8, 9, 17] (fun a b cc i wr => ∃ k : Nat, k ≤ l1.length ∧ i = .int .i64 (k : Int) ∧ Hid (decide (ordL (l1.drop k) (l2.drop k) = 0) = r) ∧ Below w.heap.size w wr) (fun _ _ _ i _ => l1.length - (intOf i).toNat)
  case atStart => exact ⟨0, Nat.zero_le _, rfl, Lib.hid (by rw [List.drop_zero, List.drop_zero]; exact hr.out), Below.refl _ _⟩
  case round =>
    rename_i hrel
    obtain ⟨k, hk1, rfl, hor, hb⟩ := hrel
    by_cases hlt : k < l1.length
    · have hlt2 : k < l2.length := by omega
      obtain ⟨ad, k1, i1, f1, s1, B1, n1, d1, rfl, hform1, hgk1, g0, g1, g2, g3, g4⟩ := kid hr1 hv1 hxs1 (hb.mono hB) hlt
      obtain ⟨ad', k2, i2, f2, s2, B2, n2, d2, rfl, hform2, hgk2, e0, e1, e2, e3, e4⟩ := kid hr2 hv2 hxs2 (hb.mono hB) hlt2
      have hst := ordL_step hlt hlt2
      have hcl0 := fun w1 hw1 => hcall.out k l1[k] l2[k] hgk1 hgk2 w1 hw1
      rw [hform1, hform2] at hcl0
      generalize ordV l1[k] l2[k] = q at *
      have hcl := fun w1 (hw1 : Below w.heap.size w w1) => same1 k1 i1 k2 i2 f1 f2 s1 s2 B1 B2 n1 d1 n2 d2 q w1 (fun w2 hw2 => hcl0 w2 (hw1.trans (hw2.mono hw1.size)))
      replace hst := Lib.hid hst
      replace hcl := Lib.hid hcl
      clear hform1 hform2 hgk1 hgk2 hcl0
      have hla := (Below.refl wr.heap.size wr).alloc (Nat.le_refl _) (.cells #[.int .i64 k1, .int .i64 i1, .float .f64 f1, .string s1, .slice B1 n1 d1] 72)
      have e0' := cell_keep hla e0
      have e1' := cell_keep hla e1
      have e2' := cell_keep hla e2
      have e3' := cell_keep hla e3
      have e4' := cell_keep hla e4
      clear e0 e1 e2 e3 e4
      have hb2 := hb.alloc hb.size (.cells #[.int .i64 k1, .int .i64 i1, .float .f64 f1, .string s1, .slice B1 n1 d1] 72)
      have hb3 := hb2.alloc hb2.size (.cells #[.int .i64 k2, .int .i64 i2, .float .f64 f2, .string s2, .slice B2 n2 d2] 72)
      clear hla
      go_wp2_with fail
      refine (hcl.out _ hb3).mono ?_
      rintro e w5 ⟨rfl, hb5⟩
      dsimp only
      have hb6 := below_then hb5 hb3
      by_cases hq : q = 0
      · subst hq
        have hst' : decide (ordL (l1.drop (k + 1)) (l2.drop (k + 1)) = 0) = r := by have h := hst.out; rw [if_pos rfl] at h; rw [← h]; exact hor.out
        replace hst' := Lib.hid hst'
        go_wp2_with fail
        go_roundw
        case rel => exact ⟨k + 1, by omega, by simp, hst', hb6⟩
        case measure => simp [intOf]; omega
      · have hrf : r = false := by have h := hst.out; rw [if_neg hq] at h; rw [← hor.out, h]; exact decide_eq_false hq
        have hqf : decide (q = 0) = false := decide_eq_false hq
        subst hrf
        go_wp2_with fail
        go_ret
        exact ⟨rfl, hb6⟩
    · have hk' : k = l1.length := by omega
      subst hk'
      have hrt : r = true := by rw [← hor.out, ordL_end (Nat.le_refl _) (by omega), if_neg (by omega)]; rfl
      subst hrt
      clear hor
      go_wp2_with fail
      go_ret
      exact ⟨rfl, hb⟩

def sameO (o o' : OpD) : Bool := (decide (o.c = o'.c) && decide (o.s = o'.s) && decide (o.n = o'.n)) && decide (bstr o.g = bstr o'.g) && decide (bstr o.m = bstr o'.m) && sameL o.l o'.l

set_option maxHeartbeats 1600000 in
theorem call_same {w : World} {B : Nat} {o1 o2 : OpD} {cs cs' : Array Value} (h : OpReads w B o1 cs) (h' : OpReads w B o2 cs') (w1 : World) (hb1 : Below B w w1) (hB1 : B ≤ w1.heap.size) :
    Calls Try.prog 23 #[.agg cs, .agg cs'] w1 (Says w1 (.bool (sameO o1 o2))) := by
  obtain ⟨A1, cc1, xs, css, rfl, hr, hx, hxs, hl, hok, -⟩ := h
  obtain ⟨A2, cc2, xs', css', rfl, hr', hx', hxs', hl', hok', -⟩ := h'
  have hva := fun w2 (hb2 : Below w1.heap.size w1 w2) => equal_list (c1 := cc1) (c2 := cc2) (hr.below (hb1.trans (hb2.mono hB1))) (hr'.below (hb1.trans (hb2.mono hB1))) (Nat.le_trans hB1 hb2.size) hxs hxs' (fun j v hv => (hx j v hv).under (hb1.trans (hb2.mono hB1))) (fun j v hv => (hx' j v hv).under (hb1.trans (hb2.mono hB1))) (by omega) (by omega) hok hok'
  obtain ⟨ca1, sa1, na1, g1, m1, l1⟩ := o1
  obtain ⟨ca2, sa2, na2, g2, m2, l2⟩ := o2
  unfold sameO
  dsimp only at *
  generalize bstr g1 = gg1 at *
  generalize bstr m1 = mm1 at *
  generalize bstr g2 = gg2 at *
  generalize bstr m2 = mm2 at *
  generalize sameL l1 l2 = q at *
  obtain ⟨r, hrr⟩ : ∃ r, ((decide (ca1 = ca2) && decide (sa1 = sa2) && decide (na1 = na2)) && decide (gg1 = gg2) && decide (mm1 = mm2) && q) = r := ⟨_, rfl⟩
  rw [hrr]
  replace hrr := Lib.hid hrr
  have b1 := Blk.new w1 50 #[.int .u32 (ca1 : Int), .int .u32 (sa1 : Int), .int .u16 (na1 : Int), .string gg1, .string mm1, .slice A1 l1.length cc1]
  have b1' := b1.alloc (.cells #[.int .u32 (ca2 : Int), .int .u32 (sa2 : Int), .int .u16 (na2 : Int), .string gg2, .string mm2, .slice A2 l2.length cc2] 50)
  have b2 := Blk.new (w1.alloc (.cells #[.int .u32 (ca1 : Int), .int .u32 (sa1 : Int), .int .u16 (na1 : Int), .string gg1, .string mm1, .slice A1 l1.length cc1] 50)) 50 #[.int .u32 (ca2 : Int), .int .u32 (sa2 : Int), .int .u16 (na2 : Int), .string gg2, .string mm2, .slice A2 l2.length cc2]
  have hsz : (w1.alloc (.cells #[.int .u32 (ca1 : Int), .int .u32 (sa1 : Int), .int .u16 (na1 : Int), .string gg1, .string mm1, .slice A1 l1.length cc1] 50)).heap.size = w1.heap.size + 1 := by simp
  rw [hsz] at b2
  have hbl := ((Below.refl w1.heap.size w1).alloc (Nat.le_refl _) (.cells #[.int .u32 (ca1 : Int), .int .u32 (sa1 : Int), .int .u16 (na1 : Int), .string gg1, .string mm1, .slice A1 l1.length cc1] 50)).alloc (by simp) (.cells #[.int .u32 (ca2 : Int), .int .u32 (sa2 : Int), .int .u16 (na2 : Int), .string gg2, .string mm2, .slice A2 l2.length cc2] 50)
  replace hva := Lib.hid hva
  clear hr hx hxs hr' hx' hxs' hl hok hl' hok' b1 hsz
  by_cases hid : (ca1 : Int) = ca2 ∧ (sa1 : Int) = sa2 ∧ (na1 : Int) = na2
  · have e1 : ca1 = ca2 := by omega
    have e2 : sa1 = sa2 := by omega
    have e3 : na1 = na2 := by omega
    subst e1 e2 e3
    by_cases hg : gg1 = gg2
    · subst hg
      by_cases hm : mm1 = mm2
      · subst hm
        have hrq : r = q := by rw [← hrr.out]; simp
        subst hrq
        have d1 : decide (gg1 = gg1) = true := decide_eq_true rfl
        have d2 : decide (mm1 = mm1) = true := decide_eq_true rfl
        clear hid hrr
        go_enter Try.func23, Try.ntmps23
        go_wp2_with fail
        refine (hva.out _ hbl).mono ?_
        rintro e w2 ⟨rfl, hb2⟩
        dsimp only
        have hb3 := below_then hb2 hbl
        go_wp2_with fail
        go_ret
        exact ⟨rfl, hb3⟩
      · have hrf : r = false := by rw [← hrr.out]; simp [hm]
        subst hrf
        have d1 : decide (gg1 = gg1) = true := decide_eq_true rfl
        have d2 : decide (mm1 = mm2) = false := decide_eq_false hm
        clear hid hrr
        go_enter Try.func23, Try.ntmps23
        go_wp2_with fail
        · exfalso
          exact absurd (ByteArray.ext (Array.toList_inj.1 (by rw [← ByteArray.toList_eq, ← ByteArray.toList_eq]; assumption))) hm
        all_goals (go_ret; exact ⟨rfl, hbl⟩)
    · have hrf : r = false := by rw [← hrr.out]; simp [hg]
      subst hrf
      have d1 : decide (gg1 = gg2) = false := decide_eq_false hg
      clear hid hrr
      go_enter Try.func23, Try.ntmps23
      go_wp2_with fail
      · exfalso
        exact absurd (ByteArray.ext (Array.toList_inj.1 (by rw [← ByteArray.toList_eq, ← ByteArray.toList_eq]; assumption))) hg
      all_goals (go_ret; exact ⟨rfl, hbl⟩)
  · have hrf : r = false := by
      rw [← hrr.out]
      have : (decide (ca1 = ca2) && decide (sa1 = sa2) && decide (na1 = na2)) = false := by
        cases h1 : decide (ca1 = ca2)
        · rfl
        · cases h2 : decide (sa1 = sa2)
          · rfl
          · cases h3 : decide (na1 = na2)
            · rfl
            · have := of_decide_eq_true h1
              have := of_decide_eq_true h2
              have := of_decide_eq_true h3
              exact absurd ⟨by omega, by omega, by omega⟩ hid
      rw [this]; rfl
    have hid' : ((ca1 : Int) == ca2 && ((sa1 : Int) == sa2 && (na1 : Int) == na2)) = false := by
      cases h : ((ca1 : Int) == ca2 && ((sa1 : Int) == sa2 && (na1 : Int) == na2))
      · rfl
      · simp only [Bool.and_eq_true, beq_iff_eq] at h
        exact absurd ⟨h.1, h.2.1, h.2.2⟩ hid
    subst hrf
    clear hrr
    go_enter Try.func23, Try.ntmps23
    go_wp2_with fail
    all_goals (go_ret; exact ⟨rfl, ((Below.refl w1.heap.size w1).alloc (Nat.le_refl _) _).alloc (by simp) _⟩)
end Go.Proofs.Ytfmmabkekjchjaa
