/- References read: ref.read, ref.Read. -/
import Derived.Test.YtdnoafjaheofcaaDoorRf3
set_option linter.unusedSimpArgs false
set_option linter.unusedVariables false
namespace Go.Proofs.YtdnoafjaheofcaaDoor
set_option maxRecDepth 100000
open Go.RowKit

theorem info_int : (Tryd.prog.info? 3).map (fun i => (i.zero, i.size, i.bytes)) = some (some (.int .i64 0), 1, 8) := by kernel_rfl
theorem info_parts' {P : Program} {T : TypeId} {z : Value} {s b : Nat} (h : (P.info? T).map (fun i => (i.zero, i.size, i.bytes)) = some (some z, s, b)) : ∃ i, P.info? T = some i ∧ i.zero = some z ∧ i.size = s ∧ i.bytes = b := by
  cases hi : P.info? T with
  | none => rw [hi] at h; cases h
  | some i =>
    rw [hi] at h
    injection h with h
    injection h with h1 h2
    injection h2 with h2 h3
    exact ⟨i, rfl, h1, h2, h3⟩
def nodesI (l : List UInt8) : List Int := l.map (fun c => (c.toNat : Int))
abbrev RefD := List UInt8 × Nat × List Int
/-- What ref.read answers: a reference, and whether it is one. -/
def rdRef (b : List UInt8) : RefD × Bool :=
  if (opened b).2.2 = 0 ∧ (opened b).2.1 = b.length then
    if (readT (opened b).1 32).2.2 = 0 then
      if 5 ≤ ((opened b).1.drop (readT (opened b).1 32).2.1).length ∧ ((opened b).1.drop (readT (opened b).1 32).2.1).length = 5 + (((opened b).1.drop (readT (opened b).1 32).2.1).getD 4 0).toNat then
        (((readT (opened b).1 32).1, readU (((opened b).1.drop (readT (opened b).1 32).2.1).take 4), nodesI (((opened b).1.drop (readT (opened b).1 32).2.1).drop 5)), rightB (readT (opened b).1 32).1 (nodesI (((opened b).1.drop (readT (opened b).1 32).2.1).drop 5)))
      else (([], 0, []), false)
    else (([], 0, []), false)
  else (([], 0, []), false)
theorem opened_len (b : List UInt8) : (opened b).1.length ≤ b.length := by
  unfold opened
  split
  · simp
  split
  · simp
  split
  · simp
  split
  · simp; omega
  · simp
theorem readT_le {b : List UInt8} {m : Int} (h : (readT b m).2.2 = 0) : 2 ≤ (readT b m).2.1 ∧ (readT b m).2.1 ≤ b.length ∧ (readT b m).1.length ≤ b.length := by
  unfold readT at h ⊢
  split at h
  · rename_i hh
    rw [if_pos hh]
    refine ⟨by simp, by simp; omega, by simp; omega⟩
  · cases h
def RefB (w : World) (r : RefD) (u : Value) (T : TypeId) (e : Ending) (w' : World) : Prop :=
  ∃ A c, e = .returned (.tuple #[.agg #[.string (bstr r.1), .int .u32 (r.2.1 : Int), .slice A r.2.2.length c], u]) ∧ Own w' 3 1 A r.2.2.length c (ints r.2.2) ∧ Below w.heap.size w w' ∧ ∀ g, bOf A = some g → w.heap.size ≤ g
theorem RefB.zero {w w' : World} {u : Value} {T : TypeId} {e : Ending} (he : e = .returned (.tuple #[.agg #[.string (bstr []), .int .u32 0, .slice none 0 0], u])) (hb : Below w.heap.size w w') : RefB w ([], 0, []) u T e w' :=
  ⟨none, 0, he, Own.none_, hb, fun _ h => by cases h⟩

theorem results_ct {P : Program} {fn : Func} {p u : Tmp} {ty : TypeId} (h : fn.results = #[.cell p ty, .tmp u]) (tmps : Array Value) (w : World) (g : Nat) (t : TypeId) (cs : Array Value) (fr : Nat × Nat) (d : TypeDesc) (v : Value)
    (hp : tmps.getD p undef = .pointer (some ⟨g, 0, none⟩)) (hv : tmps.getD u undef = v) (hg : w.heap[g]? = some (.cells cs t fr))
    (hu : P.underlying ty = some d) (hd : (match d with | .struct _ | .array _ _ => true | _ => false) = true) (hi : (P.info? ty).map (·.size) = some cs.size) :
    (results fn tmps).run P w = .ok (.tuple #[.agg cs, v]) w := by
  have hp' : tmps[p]?.getD undef = .pointer (some ⟨g, 0, none⟩) := by simpa using hp
  have hv' : tmps[u]?.getD undef = v := by simpa using hv
  simp [results, h, hp', hv', asAddr, run_loadVar_row w g t ty cs fr d hg hu hd hi]

theorem below_three {B y : Nat} {w0 w : World} (h : Below B w0 w) (hy : B ≤ y) (a b c : Value) : Below B w0 (((w.setCell ⟨y, 0, none⟩ a).setCell ⟨y, 1, none⟩ b).setCell ⟨y, 2, none⟩ c) :=
  ((h.setCell (p := ⟨y, 0, none⟩) hy a).setCell (p := ⟨y, 1, none⟩) hy b).setCell (p := ⟨y, 2, none⟩) hy c
theorem add_off (g k n : Nat) : (⟨g, k, none⟩ : Addr).add n = ⟨g, k + n, none⟩ := by unfold Addr.add; split <;> simp_all
set_option maxHeartbeats 6400000 in
theorem read_ref {A : Option Addr} {c : Nat} {b : List UInt8} {w : World} (h : Reads w w.heap.size 1 A b.length (bys b)) (hc : b.length ≤ c) (hl : b.length ≤ 1000000000) :
    Calls Tryd.prog 31 #[.slice A b.length c] w (RefB w (rdRef b).1 (.bool (rdRef b).2) 26) := by
  have hy := Blk.new w 26 #[.string ⟨#[]⟩, .int .u32 0, .slice none 0 0]
  have hb0 := (Below.refl w.heap.size w).alloc (Nat.le_refl _) (.cells #[.string ⟨#[]⟩, .int .u32 0, .slice none 0 0] 26)
  have h0 := (h.below hb0).more hb0.size
  obtain ⟨R, hR⟩ : ∃ R, rdRef b = R := ⟨_, rfl⟩
  rw [hR]
  unfold rdRef at hR
  have hol := opened_len b
  obtain ⟨o, ho⟩ : ∃ o, opened b = o := ⟨_, rfl⟩
  rw [ho] at hR hol
  obtain ⟨p, n, er⟩ := o
  dsimp only at hR hol
  replace hR := Lib.hid hR
  have hopen := open_walk h0 hc hl
  rw [ho] at hopen
  replace hopen := Lib.hid hopen
  replace ho := Lib.hid ho
  obtain ⟨y, ey⟩ : ∃ y, w.heap.size = y := ⟨_, rfl⟩
  rw [ey] at hy
  replace ey := Lib.hid ey
  go_enter Tryd.func31, Tryd.ntmps31
  go_upto_region 1 with (fail)
  try rw [ey.out]
  generalize w.alloc (.cells #[.string ⟨#[]⟩, .int .u32 0, .slice none 0 0] 26) = w1 at *
  go_wp2_with fail
  refine hopen.out.mono ?_
  clear hopen
  rintro e w2 ⟨A2, c2, rfl, ho2, hb2, hg2⟩
  dsimp only at ho2 ⊢
  have hy2 := hy.below hb2 hy.lt
  have hb02 := below_then hb2 hb0
  have hyb : w.heap.size ≤ y := by rw [ey.out]; exact Nat.le_refl _
  by_cases hbad : er = 0 ∧ n = b.length
  case neg =>
    have hR' := hR.out
    rw [if_neg hbad] at hR'
    subst hR'
    clear hR
    have f0 := hy2.frozen 0
    have f1 := hy2.frozen 1
    have f2 := hy2.frozen 2
    have k0 := hy2.cell 0
    have k1 := hy2.cell 1
    have k2 := hy2.cell 2
    by_cases he : er = 0
    · have t0 : ((er : Int) != 0) = false := bne_eq_false_iff_eq.2 (by omega)
      have t1 : ((n : Int) != (b.length : Int)) = true := bne_iff_ne.2 (by omega)
      clear hbad he
      go_wp2_with fail
      exact bodyPost_ret (v := .tuple #[.agg #[.string ⟨#[]⟩, .int .u32 0, .slice none 0 0], .bool false]) (results_ct rfl _ _ y 26 _ (0, 0) _ _ rfl rfl (((hy2.set_ 0 (.string ⟨#[]⟩)).set_ 1 (.int .u32 0)).set_ 2 (.slice none 0 0)) Tryd.underlying26 rfl (by kernel_rfl)) rfl (RefB.zero rfl (below_three hb02 hyb _ _ _))
    · have t0 : ((er : Int) != 0) = true := bne_iff_ne.2 (by omega)
      clear hbad he
      go_wp2_with fail
      exact bodyPost_ret (v := .tuple #[.agg #[.string ⟨#[]⟩, .int .u32 0, .slice none 0 0], .bool false]) (results_ct rfl _ _ y 26 _ (0, 0) _ _ rfl rfl (((hy2.set_ 0 (.string ⟨#[]⟩)).set_ 1 (.int .u32 0)).set_ 2 (.slice none 0 0)) Tryd.underlying26 rfl (by kernel_rfl)) rfl (RefB.zero rfl (below_three hb02 hyb _ _ _))
  have hR1 := hR.out
  rw [if_pos hbad] at hR1
  replace hR := Lib.hid hR1
  clear hR1
  have t0 : ((er : Int) != 0) = false := bne_eq_false_iff_eq.2 (by omega)
  have t1 : ((n : Int) != (b.length : Int)) = false := bne_eq_false_iff_eq.2 (by omega)
  clear hbad
  obtain ⟨t, ht⟩ : ∃ t, readT p 32 = t := ⟨_, rfl⟩
  have htl : t.2.2 = 0 → 2 ≤ t.2.1 ∧ t.2.1 ≤ p.length ∧ t.1.length ≤ p.length := fun h => by rw [← ht] at h ⊢; exact readT_le h
  have hR1 := hR.out
  rw [ht] at hR1
  replace hR := Lib.hid hR1
  clear hR1
  have hrt := read_text (c := c2) (m := 32) ho2.reads_ ho2.le_cap (by omega) ht
  obtain ⟨s, k, e2⟩ := t
  dsimp only at htl hR
  replace hrt := Lib.hid hrt
  replace ht := Lib.hid ht
  go_wp2_with fail
  refine hrt.out.mono ?_
  clear hrt
  rintro e w3 ⟨rfl, hb3⟩
  dsimp only
  clear t0 t1
  have hy3 := hy2.below hb3 hy2.lt
  have hb03 := below_then hb3 hb02
  have ho3 := ho2.below hb3 (Nat.le_refl _)
  clear hy2 hb02 ho2
  by_cases he2 : e2 = 0
  case neg =>
    have hR' := hR.out
    rw [if_neg he2] at hR'
    subst hR'
    clear hR
    have f0 := hy3.frozen 0
    have f1 := hy3.frozen 1
    have f2 := hy3.frozen 2
    have k0 := hy3.cell 0
    have k1 := hy3.cell 1
    have k2 := hy3.cell 2
    have t0 : ((e2 : Int) != 0) = true := bne_iff_ne.2 (by omega)
    clear he2 htl
    go_wp2_with fail
    exact bodyPost_ret (v := .tuple #[.agg #[.string ⟨#[]⟩, .int .u32 0, .slice none 0 0], .bool false]) (results_ct rfl _ _ y 26 _ (0, 0) _ _ rfl rfl (((hy3.set_ 0 (.string ⟨#[]⟩)).set_ 1 (.int .u32 0)).set_ 2 (.slice none 0 0)) Tryd.underlying26 rfl (by kernel_rfl)) rfl (RefB.zero rfl (below_three hb03 hyb _ _ _))
  obtain ⟨hk2, hkp, hsp⟩ := htl he2
  have hR1 := hR.out
  rw [if_pos he2] at hR1
  replace hR := Lib.hid hR1
  clear hR1 htl
  have t0 : ((e2 : Int) != 0) = false := bne_eq_false_iff_eq.2 (by omega)
  clear he2
  obtain ⟨g2, cur2, hA2, hg2b, hnc2, hcm2, -, -⟩ : ∃ g cur, A2 = some ⟨g, 0, none⟩ ∧ Blk w3 g 5 cur ∧ p.length ≤ c2 ∧ c2 ≤ maxLen ∧ True ∧ True := by
    rcases ho3.2 with ⟨_, h0, _⟩ | ⟨g, cur, e, hb, q1, q2, _⟩
    · omega
    · exact ⟨g, cur, e, hb, q1, q2, trivial, trivial⟩
  subst hA2
  have hrp := ho3.reads_
  have hcut := hrp.cut (k := k) (cap := c2) hkp hnc2
  rw [Nat.mul_one, bys_drop] at hcut
  obtain ⟨q, hq⟩ : ∃ q, p.drop k = q := ⟨_, rfl⟩
  have hql : q.length = p.length - k := by rw [← hq, List.length_drop]
  rw [hq] at hcut
  have hR1 := hR.out
  rw [hq] at hR1
  replace hR := Lib.hid hR1
  clear hR1 hrp
  replace hq := Lib.hid hq
  by_cases hck : c2 = k
  · have hq0 : p.length - k = 0 := by omega
    have hR' := hR.out
    rw [if_neg (by omega)] at hR'
    subst hR'
    clear hR
    go_wp2_with fail
    refine (wire_read_out (k := 4) (m := 0) (by omega)).mono ?_
    rintro e w4 ⟨rfl, rfl⟩
    dsimp only
    have f0 := hy3.frozen 0
    have f1 := hy3.frozen 1
    have f2 := hy3.frozen 2
    have k0 := hy3.cell 0
    have k1 := hy3.cell 1
    have k2 := hy3.cell 2
    go_wp2_with fail
    exact bodyPost_ret (v := .tuple #[.agg #[.string ⟨#[]⟩, .int .u32 0, .slice none 0 0], .bool false]) (results_ct rfl _ _ y 26 _ (0, 0) _ _ rfl rfl (((hy3.set_ 0 (.string ⟨#[]⟩)).set_ 1 (.int .u32 0)).set_ 2 (.slice none 0 0)) Tryd.underlying26 rfl (by kernel_rfl)) rfl (RefB.zero rfl (below_three hb03 hyb _ _ _))
  rw [if_neg hck, ← hql] at hcut
  have hcut' : Reads w3 w3.heap.size 1 (some ⟨g2, k, none⟩) q.length (bys q) := by
    have e : (some (⟨g2, 0, none⟩ : Addr)).map (·.add k) = some ⟨g2, k, none⟩ := by rw [Option.map_some, add_row]
    rw [e] at hcut
    exact hcut
  clear hcut
  have hqc : q.length ≤ c2 - k := by omega
  by_cases h5 : q.length < 5
  · have hR' := hR.out
    rw [if_neg (by omega)] at hR'
    subst hR'
    clear hR
    replace hql := Lib.hid hql
    go_wp2_with fail
    by_cases h4 : q.length < 4
    · rw [← hql.out]
      refine (wire_read_out (k := 4) (m := q.length) (by omega)).mono ?_
      rintro e w4 ⟨rfl, rfl⟩
      dsimp only
      have f0 := hy3.frozen 0
      have f1 := hy3.frozen 1
      have f2 := hy3.frozen 2
      have k0 := hy3.cell 0
      have k1 := hy3.cell 1
      have k2 := hy3.cell 2
      go_wp2_with fail
      exact bodyPost_ret (v := .tuple #[.agg #[.string ⟨#[]⟩, .int .u32 0, .slice none 0 0], .bool false]) (results_ct rfl _ _ y 26 _ (0, 0) _ _ rfl rfl (((hy3.set_ 0 (.string ⟨#[]⟩)).set_ 1 (.int .u32 0)).set_ 2 (.slice none 0 0)) Tryd.underlying26 rfl (by kernel_rfl)) rfl (RefB.zero rfl (below_three hb03 hyb _ _ _))
    · rw [← hql.out]
      refine (wire_read (k := 4) hcut' (by omega) (by omega) hqc (by omega)).mono ?_
      rintro e w4 ⟨rfl, hb4⟩
      dsimp only
      have hy4 := hy3.below hb4 hy3.lt
      have hb04 := below_then hb4 hb03
      have f0 := hy4.frozen 0
      have f1 := hy4.frozen 1
      have f2 := hy4.frozen 2
      have k0 := hy4.cell 0
      have k1 := hy4.cell 1
      have k2 := hy4.cell 2
      go_wp2_with fail
      exact bodyPost_ret (v := .tuple #[.agg #[.string ⟨#[]⟩, .int .u32 0, .slice none 0 0], .bool false]) (results_ct rfl _ _ y 26 _ (0, 0) _ _ rfl rfl (((hy4.set_ 0 (.string ⟨#[]⟩)).set_ 1 (.int .u32 0)).set_ 2 (.slice none 0 0)) Tryd.underlying26 rfl (by kernel_rfl)) rfl (RefB.zero rfl (below_three hb04 hyb _ _ _))
  obtain ⟨v, hv⟩ : ∃ v, readU (q.take 4) = v := ⟨_, rfl⟩
  have hvl : v < 4294967296 := by
    rw [← hv]
    have := readU_lt (q.take 4)
    rw [List.length_take, Nat.min_eq_left (by omega)] at this
    exact this
  obtain ⟨c5, hc5⟩ : ∃ c5, q.getD 4 0 = c5 := ⟨_, rfl⟩
  have hcl := c5.toNat_lt
  obtain ⟨z, hz⟩ : ∃ z, q.drop 5 = z := ⟨_, rfl⟩
  have hzl : z.length = q.length - 5 := by rw [← hz, List.length_drop]
  have hR1 := hR.out
  rw [hv, hc5, hz] at hR1
  replace hR := Lib.hid hR1
  clear hR1
  have hcell : w3.cell? ⟨g2, k + 4, none⟩ = some (.int .u8 (c5.toNat : Int)) := by
    obtain ⟨ad, e, hadb, hcc⟩ := hcut'.2 (by omega)
    obtain rfl := Option.some.inj e
    have := hcc 4 (byv c5) (by simp only [bys, List.getElem?_map]; rw [List.getElem?_eq_getElem (show 4 < q.length by omega)]; rw [← hc5]; simp [List.getD, List.getElem?_eq_getElem (show 4 < q.length by omega)])
    rw [show (⟨g2, k, none⟩ : Addr).add 4 = ⟨g2, k + 4, none⟩ from rfl] at this
    exact this
  have hrd := wire_read (c := c2 - k) (k := 4) hcut' (by omega) (by omega) hqc (by omega)
  rw [hv] at hrd
  replace hrd := Lib.hid hrd
  replace hv := Lib.hid hv
  replace hc5 := Lib.hid hc5
  have hcutz : Reads w3 w3.heap.size 1 (if c2 - k = 5 then some ⟨g2, k, none⟩ else some ⟨g2, k + 5, none⟩) z.length (bys z) := by
    have := hcut'.cut (k := 5) (cap := c2 - k) (by omega) hqc
    rw [Nat.mul_one, bys_drop, hz, ← hzl, Option.map_some] at this
    rw [show (⟨g2, k, none⟩ : Addr).add 5 = ⟨g2, k + 5, none⟩ from rfl] at this
    exact this
  replace hz := Lib.hid hz
  replace hql := Lib.hid hql
  go_upto_region 8 with (fail)
  rw [← hql.out]
  go_wp2_with fail
  refine hrd.out.mono ?_
  clear hrd
  rintro e w4 ⟨rfl, hb4⟩
  dsimp only
  have hy4 := hy3.below hb4 hy3.lt
  have hb04 := below_then hb4 hb03
  have hz4 := (hcutz.below hb4).more hb4.size
  have hcell4 : w4.cell? ⟨g2, k + 4, none⟩ = some (.int .u8 (c5.toNat : Int)) := (hb4.cell (p := ⟨g2, k + 4, none⟩) hg2b.lt).trans hcell
  clear hcell hcutz hy3 hb03 hb4 ho3 hg2b hcut'
  clear t0
  by_cases hlen : q.length = 5 + c5.toNat
  case neg =>
    have hR' := hR.out
    rw [if_neg (by omega)] at hR'
    subst hR'
    clear hR
    have t1 : ((q.length : Int) != 5 + (c5.toNat : Int)) = true := bne_iff_ne.2 (by omega)
    have f0 := hy4.frozen 0
    have f1 := hy4.frozen 1
    have f2 := hy4.frozen 2
    have k0 := hy4.cell 0
    have k1 := hy4.cell 1
    have k2 := hy4.cell 2
    go_wp2_with fail
    exact bodyPost_ret (v := .tuple #[.agg #[.string ⟨#[]⟩, .int .u32 0, .slice none 0 0], .bool false]) (results_ct rfl _ _ y 26 _ (0, 0) _ _ rfl rfl (((hy4.set_ 0 (.string ⟨#[]⟩)).set_ 1 (.int .u32 0)).set_ 2 (.slice none 0 0)) Tryd.underlying26 rfl (by kernel_rfl)) rfl (RefB.zero rfl (below_three hb04 hyb _ _ _))
  have hR1 := hR.out
  rw [if_pos ⟨by omega, hlen⟩] at hR1
  subst hR1
  clear hR
  have t1 : ((q.length : Int) != 5 + (c5.toNat : Int)) = false := bne_eq_false_iff_eq.2 (by omega)
  replace hlen := Lib.hid hlen
  have wv : IntKind.u32.wrap (v : Int) = (v : Int) := by unfold IntKind.wrap; simp [IntKind.bits, IntKind.signed]; omega
  go_upto_region 11 with (fail)
  clear t1 hcell4
  have hx := Blk.new w4 26 #[.string (bstr s), .int .u32 (v : Int), .slice none 0 0]
  have hb5 := (Below.refl w4.heap.size w4).alloc (Nat.le_refl _) (.cells #[.string (bstr s), .int .u32 (v : Int), .slice none 0 0] 26)
  have hy5 := hy4.below hb5 hy4.lt
  have hb05 := below_then hb5 hb04
  have hz5 := hz4.below hb5
  have hyx : y < w4.heap.size := hy4.lt
  obtain ⟨x, ex⟩ : ∃ x, w4.heap.size = x := ⟨_, rfl⟩
  rw [ex] at hx hyx hz5
  replace ex := Lib.hid ex
  clear hy4 hb04 hz4 hb5
  go_upto_region 12 with (fail)
  try rw [ex.out]
  generalize w4.alloc (.cells #[.string (bstr s), .int .u32 (v : Int), .slice none 0 0] 26) = w5 at *
  have hzl' : q.length - 5 = z.length := by omega
  have hzb : z.length ≤ 1000000000 := by have := hql.out; omega
  replace hzl' := Lib.hid hzl'
  replace hzl := Lib.hid hzl
  obtain ⟨i0, hi, hz0, hz1, hz2⟩ := info_parts' info_int
  replace hi := Lib.hid hi
  replace hz0 := Lib.hid hz0
  replace hz1 := Lib.hid hz1
  replace hz2 := Lib.hid hz2
  have hz6 : (c2 - k = 5 ∧ Reads w5 x 1 (some ⟨g2, k, none⟩) z.length (bys z)) ∨ (¬ c2 - k = 5 ∧ Reads w5 x 1 (some ⟨g2, k + 5, none⟩) z.length (bys z)) := by
    by_cases h55 : c2 - k = 5
    · rw [if_pos h55] at hz5; exact .inl ⟨h55, hz5⟩
    · rw [if_neg h55] at hz5; exact .inr ⟨h55, hz5⟩
  clear hz5
  rcases hz6 with ⟨h55, hz6⟩ | ⟨h55, hz6⟩
  all_goals
    go_wp2_with fail
    rw [hzl'.out]
    go_loopw [13, 71] (fun c13 i wr => ∃ (j : Nat) (A6 : Option Addr) (c6 : Nat), j ≤ z.length ∧ i = .int .i64 (j : Int) ∧ Blk wr x 26 #[.string (bstr s), .int .u32 (v : Int), .slice A6 j c6] ∧ Own wr 3 1 A6 j c6 (ints (nodesI (z.take j))) ∧ Below x w5 wr ∧ (∀ g, bOf A6 = some g → x < g)) (fun _ i _ => z.length - (intOf i).toNat)
    case atStart => exact ⟨0, none, 0, Nat.zero_le _, rfl, hx, by simpa [nodesI, ints] using (Own.none_ (w := w5) (t := 3) (size := 1)), Below.refl _ _, fun _ h => by cases h⟩
    case round =>
      rename_i hrel
      obtain ⟨j, A6, c6, hj, rfl, hxr, hor, hbr, hgr⟩ := hrel
      have hx2r := hxr.cell 2
      have hf2r := hxr.frozen 2
      by_cases hlt : j < z.length
      · obtain ⟨cc, hcc⟩ : ∃ cc, z[j] = cc := ⟨_, rfl⟩
        have hccl := cc.toNat_lt
        have htake : Hid (ints (nodesI (z.take (j + 1))) = ints (nodesI (z.take j)) ++ ints [(cc.toNat : Int)]) := Lib.hid (by rw [List.take_succ_eq_append_getElem hlt, hcc]; simp [nodesI, ints])
        obtain ⟨ad, u, e, -, hu, hcj⟩ := (hz6.below hbr).at_ hlt
        obtain rfl := Option.some.inj e
        have hu2 : u = .int .u8 (cc.toNat : Int) := by
          simp only [bys, List.getElem?_map, List.getElem?_eq_getElem hlt, Option.map_some, Option.some.injEq] at hu
          rw [← hu, hcc]; rfl
        subst hu2
        clear hu hcc
        rw [add_off] at hcj
        have hint : Hid ((#[Value.int .i64 (cc.toNat : Int)] : Array Value).toList = ints [(cc.toNat : Int)]) := Lib.hid rfl
        go_wp2_with (at_builtin; go_must (refine wpList_append_mine rfl _ _ 24 24 rfl 3 i0 (.int .i64 0) 1 8 Tryd.underlying24 hi.out hz0.out hz1.out hz2.out rfl rfl (hor.alloc _) rfl (Src.ofReads Tryd.underlying24 _ (Reads.lit _ _ _ _ 1 _ hint.out rfl) (fun u hu => by simp [ints] at hu; subst hu; rfl)) ?b1 ?b2 ?grow))
        case b1 => unfold maxLen; omega
        case b2 => omega
        case grow =>
          intro A7 c7 w7 ho7 hg7 hat7
          have hxl := hxr.lt
          have hx7 := (hxr.alloc (.cells #[.int .i64 (cc.toNat : Int)] 3)).grown hg7 (fun e => by have := hgr x e.symm; omega)
          have hf7 := hx7.frozen 2
          have hc7 := hx7.cell 2
          have hgx : ∀ g, bOf A7 = some g → x < g := fun g hg => by
            rcases hat7 with h7 | h7 <;> rw [h7] at hg
            · exact hgr g hg
            · simp at hg; omega
          have hb7 : Below x w5 w7 := (hbr.alloc (Nat.le_of_lt hxl) (.cells #[.int .i64 (cc.toNat : Int)] 3)).grown hg7 (by simp; omega) (fun g hg => Nat.le_of_lt (hgr g hg))
          rw [← htake.out] at ho7
          go_wp2_with fail
          go_roundw
          case rel => exact ⟨j + 1, A7, c7, by omega, by go_num, hx7.set_ 2 _, ho7.setCell (p := ⟨x, 2, none⟩) (fun e => by have := hgx x e; omega) _, hb7.setCell (p := ⟨x, 2, none⟩) (Nat.le_refl _) _, hgx⟩
          case measure => simp [intOf]; omega
      · obtain rfl : j = z.length := by omega
        rw [List.take_length] at hor
        clear hx2r hf2r hz6
        have hnl : (nodesI z).length = z.length := by simp [nodesI]
        have hyr : Blk wr y 26 #[.string ⟨#[]⟩, .int .u32 0, .slice none 0 0] := hy5.below hbr hyx
        have hbw : Below w.heap.size w wr := hb05.trans (hbr.mono (by rw [ey.out]; omega))
        obtain ⟨rb, hrb⟩ : ∃ rb, rightB s (nodesI z) = rb := ⟨_, rfl⟩
        rw [hrb]
        have hR2 : ∀ W, Below wr.heap.size wr W → Calls Tryd.prog 18 #[.agg #[.string (bstr s), .int .u32 (v : Int), .slice A6 z.length c6]] W (BoolRes W rb) := fun W hW => by
          have hh := right_walk (g := s) (v := (v : Int)) (c := c6) (A := A6) (ns := nodesI z) (w := W) (by rw [hnl]; exact (hor.below hW (Nat.le_refl _)).reads_) (by omega) (by omega)
          rw [hrb, hnl] at hh
          exact hh
        replace hR2 := Lib.hid hR2
        replace hrb := Lib.hid hrb
        replace hnl := Lib.hid hnl
        have hS : Blk wr.drew x 26 #[.string (bstr s), .int .u32 (v : Int), .slice A6 z.length c6] := hxr.drew
        have hbd : Below wr.heap.size wr wr.drew := (Below.refl _ _).drew
        go_wp2_with fail
        refine wp_region_lex (fun W => Blk W x 26 #[.string (bstr s), .int .u32 (v : Int), .slice A6 z.length c6]) [0, 1] [2, 3] [0, 1, 2, 3, 4] (by kernel_rfl) rfl (by kernel_rfl) (by kernel_rfl) (fun _ _ d _ _ h => by cases d <;> exact h) ?_
        have hyd := hyr.drew
        generalize wr.drew = wd at *
        repeat (first | (refine lexG_take _ ?_ rfl rfl rfl rfl (fun _ => ?_) ?_; rotate_left; (focus (go_simp; with_reducible rfl)); try simp only [Act.put, List.setIfInBounds_toArray, List.set_cons_zero, List.set_cons_succ]) | (refine lexG_held _ ?_ rfl rfl rfl rfl (by assumption) (fun _ hSw => ?_) ?_; rotate_left; (focus (have z0 := hSw.cell 0; have z1 := hSw.cell 1; have z2 := hSw.cell 2; clear hSw; go_simp; with_reducible rfl)); try simp only [Act.put, List.setIfInBounds_toArray, List.set_cons_zero, List.set_cons_succ]) | (refine lexG_skip _ rfl rfl (by assumption) ?_; try simp only [Act.put, List.setIfInBounds_toArray, List.set_cons_zero, List.set_cons_succ]))
        refine lexG_now _ rfl rfl rfl (fun K hK => ?_)
        go_wp2_with fail
        refine (hR2.out _ hbd).mono ?_
        rintro e w9 ⟨rfl, hb9⟩
        dsimp only
        have hS9 : Blk w9 x 26 #[.string (bstr s), .int .u32 (v : Int), .slice A6 z.length c6] := hS.below hb9 hS.lt
        have hy9 := hyd.below hb9 hyd.lt
        refine hK _ _ _ (fun _ h => h) hS9 ?_
        clear hK K
        try simp only [Act.put, List.setIfInBounds_toArray, List.set_cons_zero, List.set_cons_succ]
        refine lexG_now _ rfl rfl rfl (fun K hK => ?_)
        refine wp_store_row 26 (Operand.tmp 2) (Operand.tmp 83) rfl y #[.string (bstr s), .int .u32 (v : Int), .slice A6 z.length c6] (by simp [go_sem]) (by simp [go_sem]) 26 _ hy9 (by kernel_rfl) rfl (by simp [Value.oneCell']) ?_
        refine hK _ _ _ (fun _ h => h) (hS9.farRow (by omega) _) ?_
        clear hK K
        try simp only [Act.put, List.setIfInBounds_toArray, List.set_cons_zero, List.set_cons_succ]
        repeat (first | (refine lexG_take _ ?_ rfl rfl rfl rfl (fun _ => ?_) ?_; rotate_left; (focus (go_simp; with_reducible rfl)); try simp only [Act.put, List.setIfInBounds_toArray, List.set_cons_zero, List.set_cons_succ]) | (refine lexG_held _ ?_ rfl rfl rfl rfl (by assumption) (fun _ hSw => ?_) ?_; rotate_left; (focus ((try dsimp only at hSw); go_simp; with_reducible rfl)); try simp only [Act.put, List.setIfInBounds_toArray, List.set_cons_zero, List.set_cons_succ]) | (refine lexG_skip _ rfl rfl (by assumption) ?_; try simp only [Act.put, List.setIfInBounds_toArray, List.set_cons_zero, List.set_cons_succ]))
        refine lexG_nil ?_
        have hb09 : Below w.heap.size w (w9.setRow y #[.string (bstr s), .int .u32 (v : Int), .slice A6 z.length c6]) := below_row (below_then hb9 (below_then hbd hbw)) hyb _
        have hyf := hy9.row #[.string (bstr s), .int .u32 (v : Int), .slice A6 z.length c6]
        have hof : Own (w9.setRow y #[.string (bstr s), .int .u32 (v : Int), .slice A6 z.length c6]) 3 1 A6 z.length c6 (ints (nodesI z)) := ((hor.below hbd (Nat.le_refl _)).below hb9 (Nat.le_refl _)).upd ((Upd.refl (fun g => g = y) w9).setRow (fun _ => rfl) _) (fun g hg e => by have := hgr g hg; omega)
        go_wp2_with fail
        refine bodyPost_ret (v := .tuple #[.agg #[.string (bstr s), .int .u32 (v : Int), .slice A6 z.length c6], .bool rb]) (results_ct rfl _ _ y 26 _ (0, 0) _ _ rfl rfl hyf Tryd.underlying26 rfl (by kernel_rfl)) rfl ⟨A6, c6, ?_, ?_, hb09, fun g hg => ?_⟩
        · dsimp only; rw [hnl.out, hrb.out]
        · dsimp only; rw [hnl.out]; exact hof
        · have := hgr g hg; omega
end Go.Proofs.YtdnoafjaheofcaaDoor
