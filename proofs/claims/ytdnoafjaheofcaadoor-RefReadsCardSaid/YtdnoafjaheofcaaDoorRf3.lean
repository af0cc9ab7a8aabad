/- References written: ref.Put, choirref23.PutRef. -/
import Derived.Test.YtdnoafjaheofcaaDoorRf2
import Derived.Test.YtdnoafjaheofcaaDoorAlt
set_option linter.unusedSimpArgs false
set_option linter.unusedVariables false
namespace Go.Proofs.YtdnoafjaheofcaaDoor
set_option maxRecDepth 100000
open Go.RowKit

def nodeB (n : Int) : UInt8 := UInt8.ofNat n.toNat
def nodesB (ns : List Int) : List UInt8 := ns.map nodeB
/-- A reference's bytes, ahead of its frame. -/
def payR (g : List UInt8) (v : Nat) (ns : List Int) : List UInt8 := putU g.length 2 ++ g ++ putU v 4 ++ [UInt8.ofNat ns.length] ++ nodesB ns
theorem payR_len (g : List UInt8) (v : Nat) (ns : List Int) : (payR g v ns).length = 7 + g.length + ns.length := by simp [payR, putU_len, nodesB]; omega
theorem nodeB_val {n : Int} (h0 : 0 ≤ n) (h1 : n ≤ 255) : n % 256 = ((nodeB n).toNat : Int) := by
  unfold nodeB; rw [UInt8.toNat_ofNat']; omega

set_option maxHeartbeats 3200000 in
theorem put_yes {g bs : List UInt8} {v : Nat} {A C : Option Addr} {c d : Nat} {ns : List Int} {w : World} (h : Reads w w.heap.size 1 A ns.length (ints ns)) (hb : Reads w w.heap.size 1 C bs.length (bys bs)) (hbl : bs.length ≤ 1000000000) (hv : v < 4294967296) (hr : rightB g ns = true) {r : List UInt8} (he : bs ++ framed (payR g v ns) = r) :
    Calls Tryd.prog 7 #[.slice C bs.length d, .agg #[.string (bstr g), .int .u32 v, .slice A ns.length c]] w (WrapOk w r .i64) := by
  obtain ⟨i0, hi, hz0, hz1, hz2⟩ := info_parts info_u8
  obtain ⟨l1, l2, l3, l4, hok⟩ := right_yes hr
  have hb0 := (Below.refl w.heap.size w).alloc (Nat.le_refl _) (.cells #[.string (bstr g), .int .u32 v, .slice A ns.length c] 26)
  have hy := Blk.new w 26 #[.string (bstr g), .int .u32 v, .slice A ns.length c]
  have hright := right_walk (g := g) (v := v) (c := c) ((h.below hb0).more hb0.size) (by omega) (by omega)
  rw [hr] at hright
  obtain ⟨p0, hp0⟩ : ∃ p, putU g.length 2 ++ g = p := ⟨_, rfl⟩
  obtain ⟨p1, hp1⟩ : ∃ p, p0 ++ putU v 4 = p := ⟨_, rfl⟩
  have hl0 : p0.length ≤ 100 := by rw [← hp0]; simp [putU_len]; omega
  have hl1 : p1.length ≤ 200 := by rw [← hp1]; simp [putU_len]; omega
  have hpay : p1 ++ [UInt8.ofNat ns.length] ++ nodesB ns = payR g v ns := by rw [← hp1, ← hp0]; rfl
  replace hright := Lib.hid hright
  replace hi := Lib.hid hi
  replace hz0 := Lib.hid hz0
  replace hz1 := Lib.hid hz1
  replace hz2 := Lib.hid hz2
  replace hok := Lib.hid hok
  replace hp0 := Lib.hid hp0
  replace hp1 := Lib.hid hp1
  replace hpay := Lib.hid hpay
  replace hr := Lib.hid hr
  replace he := Lib.hid he
  obtain ⟨y, ey⟩ : ∃ y, w.heap.size = y := ⟨_, rfl⟩
  rw [ey] at hy h
  replace ey := Lib.hid ey
  go_enter Tryd.func7, Tryd.ntmps7
  go_upto_region 1 with (fail)
  try rw [ey.out]
  generalize w.alloc (.cells #[.string (bstr g), .int .u32 v, .slice A ns.length c] 26) = w1 at *
  have c0 := hy.cell 0
  have c1 := hy.cell 1
  have c2 := hy.cell 2
  go_wp2_with fail
  refine hright.out.mono ?_
  rintro e w2 ⟨rfl, hb2⟩
  dsimp only
  clear hright c0 c1 c2
  have hy2 := hy.below hb2 hy.lt
  have hb02 := below_then hb2 hb0
  have c0 := hy2.cell 0
  have c1 := hy2.cell 1
  have c2 := hy2.cell 2
  go_wp2_with fail
  refine (put_text (A := none) (c := 0) (B := 0) (bs := []) (s := g) (m := 32) (r := p0) (w := w2) Reads.none_ (Nat.zero_le _) (by simp) (by omega) (by omega) (by rw [List.nil_append]; exact hp0.out)).mono ?_
  rintro e w3 ⟨A3, c3, rfl, ho3, hb3, hg3⟩
  dsimp only
  clear c0 c1 c2
  have hy3 := hy2.below hb3 hy2.lt
  have hb03 := below_then hb3 hb02
  clear hb2 hb3 hb0 hb02
  go_upto_region 4 with (fail)
  have wv : IntKind.u64.wrap (v : Int) = (v : Int) := by rw [IntKind.wrap_u64]; omega
  have wl : IntKind.u8.wrap (ns.length : Int) = (ns.length : Int) := by unfold IntKind.wrap; simp [IntKind.bits, IntKind.signed]; omega
  have wl2 : (ns.length : Int) % 256 = (ns.length : Int) := by omega
  have hbyte : (#[Value.int .u8 (ns.length : Int)] : Array Value).toList = bys [UInt8.ofNat ns.length] := by simp [bys, byv]; omega
  replace hbyte := Lib.hid hbyte
  go_cut [6] from 19 to 29 (fun x6 wx => ∃ (A6 : Option Addr) (c6 : Nat), x6 = .slice A6 (p1.length + 1) c6 ∧ Own wx 5 1 A6 (p1.length + 1) c6 (bys (p1 ++ [UInt8.ofNat ns.length])) ∧ Blk wx y 26 #[.string (bstr g), .int .u32 v, .slice A ns.length c] ∧ Below w.heap.size w wx ∧ ∀ q, bOf A6 = some q → y < q)
  case first =>
    refine wp_region_alts (fun W => Blk W y 26 #[.string (bstr g), .int .u32 v, .slice A ns.length c]) [2, 6] [4, 9, 10] (.one 0 (.one 1 (.one 2 (.one 3 (.one 5 (.one 6 (.one 7 (.one 8 (.alt 4 (.one 9 (.one 10 (.one 11 .nil))) (.one 9 (.one 4 (.one 10 (.one 11 .nil))))))))))))) (by kernel_rfl) rfl rfl (by kernel_rfl) (by kernel_rfl) (fun _ _ d _ _ h => by cases d <;> exact h) ?_
    have hR3 := ho3.drew.reads_
    have hyd := hy3.drew
    have hbd := hb03.drew
    generalize w3.drew = v3 at *
    repeat (first | (refine altG_take _ ?_ rfl rfl rfl rfl (fun _ => ?_) ?_; rotate_left; (focus (go_simp; with_reducible rfl)); try simp only [Act.put, List.setIfInBounds_toArray, List.set_cons_zero, List.set_cons_succ]) | (refine altG_held _ ?_ rfl rfl rfl rfl (by assumption) (fun _ hSw => ?_) ?_; rotate_left; (focus (have z1 := hSw.cell 1; have z2 := hSw.cell 2; clear hSw; go_simp; with_reducible rfl)); try simp only [Act.put, List.setIfInBounds_toArray, List.set_cons_zero, List.set_cons_succ]) | (refine altG_skip _ rfl rfl (by assumption) ?_; try simp only [Act.put, List.setIfInBounds_toArray, List.set_cons_zero, List.set_cons_succ]))
    have hs3 : y < v3.heap.size := hyd.lt
    refine altG_alt rfl ?_ ?_
    · refine altG_now _ rfl rfl rfl (fun K0 hK => ?_)
      go_wp2_with fail
      refine (wire_put4 (r := p1) (v := v) hR3 (Nat.le_refl _) (by omega) (by omega) hp1.out).mono ?_
      rintro e w4 ⟨A4, c4, rfl, ho4, hb4, hg4⟩
      dsimp only
      have hy4 := hyd.below hb4 hs3
      refine hK _ _ _ (fun _ h => h) hy4 ?_
      clear hK K0
      try simp only [Act.put, List.setIfInBounds_toArray, List.set_cons_zero, List.set_cons_succ]
      have hb04 := below_then hb4 hbd
      have hs4 : y < w4.heap.size := hy4.lt
      refine altG_now _ rfl rfl rfl (fun K0 hK => ?_)
      go_wp2_with fail
      have hst := (Below.refl w4.heap.size w4).alloc (Nat.le_refl _) (.cells #[.int .u8 (ns.length : Int)] 5)
      have hy5 := hy4.alloc (.cells #[.int .u8 (ns.length : Int)] 5)
      refine hK _ _ _ (fun _ h => h) hy5 ?_
      clear hK K0
      try simp only [Act.put, List.setIfInBounds_toArray, List.set_cons_zero, List.set_cons_succ]
      have ho5 := ho4.alloc (.cells #[.int .u8 (ns.length : Int)] 5)
      have hb05 := below_then hst hb04
      have hsrc := Reads.lit (size := 1) w4 #[.int .u8 (ns.length : Int)] 5 (0, 0) 1 (bys [UInt8.ofNat ns.length]) hbyte.out rfl
      have hs5 := hst.size
      generalize w4.alloc (.cells #[.int .u8 (ns.length : Int)] 5) = w5 at *
      have hgA : ∀ q, bOf A4 = some q → y < q := fun q hq => Nat.lt_of_lt_of_le hs3 (hg4 q hq)
      have hgW : ∀ q, bOf A4 = some q → w.heap.size ≤ q := fun q hq => Nat.le_trans hbd.size (hg4 q hq)
      refine altG_now _ rfl rfl rfl (fun K0 hK => ?_)
      refine wp_append_mine _ _ 22 22 rfl 5 i0 (.int .u8 0) 1 1 Tryd.underlying22 hi.out hz0.out hz1.out hz2.out rfl rfl ho5 rfl (Src.ofReads Tryd.underlying22 _ hsrc (bys_one _)) (by unfold maxLen; omega) (by omega) (fun A6 c6 w6 ho6 hg6 hat6 => ?_)
      have hy6 := hy5.grown hg6 (fun e => by have := hgA y e.symm; omega)
      refine hK _ _ _ (fun _ h => h) hy6 ?_
      clear hK K0
      try simp only [Act.put, List.setIfInBounds_toArray, List.set_cons_zero, List.set_cons_succ]
      repeat (first | (refine altG_take _ ?_ rfl rfl rfl rfl (fun _ => ?_) ?_; rotate_left; (focus (go_simp; with_reducible rfl)); try simp only [Act.put, List.setIfInBounds_toArray, List.set_cons_zero, List.set_cons_succ]) | (refine altG_held _ ?_ rfl rfl rfl rfl (by assumption) (fun _ hSw => ?_) ?_; rotate_left; (focus ((try dsimp only at hSw); go_simp; with_reducible rfl)); try simp only [Act.put, List.setIfInBounds_toArray, List.set_cons_zero, List.set_cons_succ]) | (refine altG_skip _ rfl rfl (by assumption) ?_; try simp only [Act.put, List.setIfInBounds_toArray, List.set_cons_zero, List.set_cons_succ]))
      refine altG_nil ?_
      go_wp2_with fail
      go_meet
      refine ⟨A6, c6, rfl, by simpa [bys_append] using ho6, hy6, hb05.grown hg6 hb05.size hgW, fun q hq => ?_⟩
      rcases hat6 with h6 | h6 <;> rw [h6] at hq
      · exact hgA q hq
      · simp at hq; omega
    · refine altG_now _ rfl rfl rfl (fun K0 hK => ?_)
      go_wp2_with fail
      have hst := (Below.refl v3.heap.size v3).alloc (Nat.le_refl _) (.cells #[.int .u8 (ns.length : Int)] 5)
      have hy5 := hyd.alloc (.cells #[.int .u8 (ns.length : Int)] 5)
      refine hK _ _ _ (fun _ h => h) hy5 ?_
      clear hK K0
      try simp only [Act.put, List.setIfInBounds_toArray, List.set_cons_zero, List.set_cons_succ]
      have hR5 := (hR3.below hst).more hst.size
      have hb05 := below_then hst hbd
      have hsrc := Reads.lit (size := 1) v3 #[.int .u8 (ns.length : Int)] 5 (0, 0) 1 (bys [UInt8.ofNat ns.length]) hbyte.out rfl
      have hs5 := hst.size
      have hsz : (v3.alloc (.cells #[.int .u8 (ns.length : Int)] 5)).heap.size = v3.heap.size + 1 := by simp
      rw [← hsz] at hsrc
      replace hsz := Lib.hid hsz
      generalize v3.alloc (.cells #[.int .u8 (ns.length : Int)] 5) = w5 at *
      refine altG_now _ rfl rfl rfl (fun K0 hK => ?_)
      go_wp2_with fail
      refine (wire_put4 (r := p1) (v := v) hR5 (Nat.le_refl _) (by omega) (by omega) hp1.out).mono ?_
      rintro e w4 ⟨A4, c4, rfl, ho4, hb4, hg4⟩
      dsimp only
      have hy4 := hy5.below hb4 hy5.lt
      refine hK _ _ _ (fun _ h => h) hy4 ?_
      clear hK K0
      try simp only [Act.put, List.setIfInBounds_toArray, List.set_cons_zero, List.set_cons_succ]
      have hb04 := below_then hb4 hb05
      have hs4 : y < w4.heap.size := hy4.lt
      have hsrc4 := hsrc.below hb4
      have hgA : ∀ q, bOf A4 = some q → y < q := fun q hq => Nat.lt_of_lt_of_le hs3 (Nat.le_trans hs5 (hg4 q hq))
      have hgW : ∀ q, bOf A4 = some q → w.heap.size ≤ q := fun q hq => Nat.le_trans hb05.size (hg4 q hq)
      refine altG_now _ rfl rfl rfl (fun K0 hK => ?_)
      refine wp_append_mine _ _ 22 22 rfl 5 i0 (.int .u8 0) 1 1 Tryd.underlying22 hi.out hz0.out hz1.out hz2.out rfl rfl ho4 rfl (Src.ofReads Tryd.underlying22 _ hsrc4 (bys_one _)) (by unfold maxLen; omega) (by omega) (fun A6 c6 w6 ho6 hg6 hat6 => ?_)
      have hy6 := hy4.grown hg6 (fun e => by have := hgA y e.symm; omega)
      refine hK _ _ _ (fun _ h => h) hy6 ?_
      clear hK K0
      try simp only [Act.put, List.setIfInBounds_toArray, List.set_cons_zero, List.set_cons_succ]
      repeat (first | (refine altG_take _ ?_ rfl rfl rfl rfl (fun _ => ?_) ?_; rotate_left; (focus (go_simp; with_reducible rfl)); try simp only [Act.put, List.setIfInBounds_toArray, List.set_cons_zero, List.set_cons_succ]) | (refine altG_held _ ?_ rfl rfl rfl rfl (by assumption) (fun _ hSw => ?_) ?_; rotate_left; (focus ((try dsimp only at hSw); go_simp; with_reducible rfl)); try simp only [Act.put, List.setIfInBounds_toArray, List.set_cons_zero, List.set_cons_succ]) | (refine altG_skip _ rfl rfl (by assumption) ?_; try simp only [Act.put, List.setIfInBounds_toArray, List.set_cons_zero, List.set_cons_succ]))
      refine altG_nil ?_
      go_wp2_with fail
      go_meet
      refine ⟨A6, c6, rfl, by simpa [bys_append] using ho6, hy6, hb04.grown hg6 hb04.size hgW, fun q hq => ?_⟩
      rcases hat6 with h6 | h6 <;> rw [h6] at hq
      · exact hgA q hq
      · simp at hq; omega
  obtain ⟨A6, c6, rfl, ho6, hy6, hb06, hg6⟩ := hcut
  clear hy hy2 hy3 ho3 hg3 hb03 wv wl wl2 hbyte
  have c2 := hy6.cell 2
  go_wp2_with fail
  clear c2
  go_loopw [6, 9, 33] (fun p n i wr => ∃ (k : Nat) (A' : Option Addr) (c' : Nat) (X : List UInt8), k ≤ ns.length ∧ X.length = k ∧ Hid (X ++ nodesB (ns.drop k) = nodesB ns) ∧ p = .slice A' (p1.length + 1 + k) c' ∧ i = .int .i64 (k : Int) ∧ Own wr 5 1 A' (p1.length + 1 + k) c' (bys (p1 ++ [UInt8.ofNat ns.length] ++ X)) ∧ Below w.heap.size w wr ∧ y < wr.heap.size ∧ ∀ q, bOf A' = some q → y < q) (fun _ _ i _ => ns.length - (intOf i).toNat)
  case atStart => exact ⟨0, A6, c6, [], Nat.zero_le _, rfl, Lib.hid rfl, rfl, rfl, by simpa using ho6, hb06, hy6.lt, hg6⟩
  case round =>
    rename_i hrel
    obtain ⟨k, A', c', X, hk, hX, hXr, rfl, rfl, ho, hbr, hyr, hgr⟩ := hrel
    replace hX := Lib.hid hX
    by_cases hlt : k < ns.length
    · have hbY : Below y w wr := by rw [← ey.out]; exact hbr
      obtain ⟨ad, rfl, hbk, hc⟩ := node_at (h.below hbY) hlt
      obtain ⟨o0, o1, -⟩ := hok.out k hlt
      obtain ⟨x, hx⟩ : ∃ x, ns.getD k 0 = x := ⟨_, rfl⟩
      rw [hx] at hc o0 o1
      have hXn : Hid (X ++ [nodeB x] ++ nodesB (ns.drop (k + 1)) = nodesB ns) := by
        refine Lib.hid ?_
        have e := hXr.out
        rw [List.drop_eq_getElem_cons hlt] at e
        rw [← e, ← hx]
        simp only [nodesB, List.getD, List.getElem?_eq_getElem hlt, Option.getD_some, List.map_cons, List.append_assoc, List.cons_append, List.nil_append]
      replace hx := Lib.hid hx
      have hbyte : Hid ((#[Value.int .u8 x] : Array Value).toList = bys [nodeB x]) := Lib.hid (by have e := nodeB_val o0 o1; rw [Int.emod_eq_of_lt o0 (by omega)] at e; simp only [bys, byv, List.map_cons, List.map_nil]; rw [← e])
      go_wp2_with (at_builtin; go_must (refine wpList_append_mine rfl _ _ 22 22 rfl 5 i0 (.int .u8 0) 1 1 Tryd.underlying22 hi.out hz0.out hz1.out hz2.out rfl rfl (ho.alloc _) rfl (Src.ofReads Tryd.underlying22 _ (Reads.lit _ _ _ _ 1 _ hbyte.out rfl) (bys_one _)) ?b1 ?b2 ?grow))
      case b1 => unfold maxLen; omega
      case b2 => omega
      case grow =>
        intro A2 c2 w2 hown hgr2 hat
        go_wp2_with fail
        go_roundw
        case rel =>
          refine ⟨k + 1, A2, c2, X ++ [nodeB x], by omega, by rw [List.length_append, hX.out]; rfl, hXn, by simp [Nat.add_assoc], by go_num, by rw [show bys (p1 ++ [UInt8.ofNat ns.length] ++ (X ++ [nodeB x])) = bys (p1 ++ UInt8.ofNat ns.length :: X) ++ bys [nodeB x] from by rw [← bys_append]; simp]; exact hown, (hbr.alloc hbr.size _).grown hgr2 (Nat.le_trans hbr.size (by simp)) (fun q hq => ?_), ?_, fun q hq => ?_⟩
          · have := hgr q hq; rw [← ey.out] at this; omega
          · have := hgr2.size; simp at this; omega
          · rcases hat with h7 | h7 <;> rw [h7] at hq
            · exact hgr q hq
            · simp at hq; omega
        case measure => simp [intOf]; omega
    · obtain rfl : k = ns.length := by omega
      have hXX : Hid (X = nodesB ns) := Lib.hid (by have e := hXr.out; simpa [nodesB] using e)
      have hRb := (hb.below hbr).more hbr.size
      have hpl : Hid (p1 ++ [UInt8.ofNat ns.length] ++ X = payR g v ns) := Lib.hid (by rw [hXX.out]; exact hpay.out)
      have hpn : Hid (p1.length + 1 + ns.length = (payR g v ns).length) := Lib.hid (by rw [← hpl.out]; simp [hX.out]; omega)
      rw [hpl.out, hpn.out] at ho
      rw [hpn.out]
      have hwrap := wrap_walk (c := d) (d := c') hRb ho.reads_ hbl (by rw [payR_len]; omega) he.out
      replace hwrap := Lib.hid hwrap
      obtain ⟨N, hN⟩ : ∃ N, (payR g v ns).length = N := ⟨_, rfl⟩
      rw [hN] at hwrap ⊢
      clear hN ho hRb
      go_wp2_with fail
      refine hwrap.out.mono ?_
      rintro e w9 ⟨A9, c9, rfl, ho9, hb9, hg9⟩
      dsimp only
      go_wp2_with fail
      go_ret2
      exact ⟨A9, c9, rfl, ho9, below_then hb9 hbr, fun q hq => Nat.le_trans hbr.size (hg9 q hq)⟩
/-- GENERATED BEHIND -/
theorem Reads.keepAt {w w' : World} {B size n g : Nat} {xs : List Value} (h : Reads w B size (some ⟨g, 0, none⟩) n xs) (hk : ∀ j, w'.cell? ⟨g, j, none⟩ = w.cell? ⟨g, j, none⟩) : Reads w' B size (some ⟨g, 0, none⟩) n xs :=
  ⟨h.1, fun hn => by
    obtain ⟨ad, e, hb, hc⟩ := h.2 hn
    obtain rfl := Option.some.inj e
    refine ⟨_, rfl, hb, fun j u hu => ?_⟩
    have := hc j u hu
    rw [add_row] at this ⊢
    rw [hk]; exact this⟩
theorem put_no {g : List UInt8} {v : Int} {A C : Option Addr} {n c d : Nat} {ns : List Int} {w : World} (h : Reads w w.heap.size 1 A ns.length (ints ns)) (hg : g.length ≤ 140737488351232) (hn : ns.length ≤ 140737488351232) (hr : rightB g ns = false) :
    Calls Tryd.prog 7 #[.slice C n d, .agg #[.string (bstr g), .int .u32 v, .slice A ns.length c]] w (fun e w' => e = .returned (.tuple #[.slice none 0 0, .int .i64 22]) ∧ Below w.heap.size w w') := by
  have hb0 := (Below.refl w.heap.size w).alloc (Nat.le_refl _) (.cells #[.string (bstr g), .int .u32 v, .slice A ns.length c] 26)
  have hright := right_walk (g := g) (v := v) (c := c) ((h.below hb0).more hb0.size) hg hn
  rw [hr] at hright
  replace hright := Lib.hid hright
  replace hr := Lib.hid hr
  go_enter Tryd.func7, Tryd.ntmps7
  go_wp2_with fail
  refine hright.out.mono ?_
  rintro e w2 ⟨rfl, hb2⟩
  dsimp only
  have hb02 := below_then hb2 hb0
  go_wp2_with fail
  go_ret2
  exact ⟨rfl, hb02⟩
set_option maxHeartbeats 3200000 in
theorem ref_put_yes {g bs : List UInt8} {v : Nat} {A C : Option Addr} {c : Nat} {ns : List Int} {w : World} (h : Reads w w.heap.size 1 A ns.length (ints ns)) (hb : Reads w w.heap.size 1 C bs.length (bys bs)) (hbl : bs.length ≤ 1000000000) (hv : v < 4294967296) (hr : rightB g ns = true) {r : List UInt8} (he : bs ++ framed (payR g v ns) = r) :
    Calls Tryd.prog 8 #[.slice C bs.length bs.length, .agg #[.string (bstr g), .int .u32 v, .slice A ns.length c]] w (WrapOk w r .i64) := by
  obtain ⟨i0, hi, hz0, hz1, hz2⟩ := info_parts info_u8
  obtain ⟨l1, l2, l3, l4, hok⟩ := right_yes hr
  have hb0 := (Below.refl w.heap.size w).alloc (Nat.le_refl _) (.cells #[.string (bstr g), .int .u32 v, .slice A ns.length c] 36)
  have hy := Blk.new w 36 #[.string (bstr g), .int .u32 v, .slice A ns.length c]
  have hright := ref_right (g := g) (v := v) (c := c) ((h.below hb0).more hb0.size) (by omega) (by omega)
  rw [hr] at hright
  obtain ⟨p0, hp0⟩ : ∃ p, putU g.length 2 ++ g = p := ⟨_, rfl⟩
  obtain ⟨p1, hp1⟩ : ∃ p, p0 ++ putU v 4 = p := ⟨_, rfl⟩
  have hl0 : p0.length ≤ 100 := by rw [← hp0]; simp [putU_len]; omega
  have hl1 : p1.length ≤ 200 := by rw [← hp1]; simp [putU_len]; omega
  have hpay : p1 ++ [UInt8.ofNat ns.length] ++ nodesB ns = payR g v ns := by rw [← hp1, ← hp0]; rfl
  replace hright := Lib.hid hright
  replace hi := Lib.hid hi
  replace hz0 := Lib.hid hz0
  replace hz1 := Lib.hid hz1
  replace hz2 := Lib.hid hz2
  replace hok := Lib.hid hok
  replace hp0 := Lib.hid hp0
  replace hp1 := Lib.hid hp1
  replace hpay := Lib.hid hpay
  replace hr := Lib.hid hr
  replace he := Lib.hid he
  obtain ⟨y, ey⟩ : ∃ y, w.heap.size = y := ⟨_, rfl⟩
  rw [ey] at hy h
  replace ey := Lib.hid ey
  go_enter Tryd.func8, Tryd.ntmps8
  go_upto_region 1 with (fail)
  try rw [ey.out]
  generalize w.alloc (.cells #[.string (bstr g), .int .u32 v, .slice A ns.length c] 36) = w1 at *
  have c0 := hy.cell 0
  have c1 := hy.cell 1
  have c2 := hy.cell 2
  go_wp2_with fail
  refine hright.out.mono ?_
  rintro e w2 ⟨rfl, hb2⟩
  dsimp only
  clear hright c0 c1 c2
  have hy2 := hy.below hb2 hy.lt
  have hb02 := below_then hb2 hb0
  have c0 := hy2.cell 0
  have c1 := hy2.cell 1
  have c2 := hy2.cell 2
  go_wp2_with fail
  refine (ref_put_text (A := none) (B := 0) (bs := []) (s := g) (m := 32) (r := p0) (w := w2) Reads.none_ (Nat.zero_le _) (by simp) (by omega) (by omega) (by rw [List.nil_append]; exact hp0.out)).mono ?_
  rintro e w3 ⟨A3, c3, rfl, ho3, hb3, hg3⟩
  dsimp only
  clear c0 c1 c2
  have hy3 := hy2.below hb3 hy2.lt
  have hb03 := below_then hb3 hb02
  clear hb2 hb3 hb0 hb02
  go_upto_region 4 with (fail)
  have wv : IntKind.u64.wrap (v : Int) = (v : Int) := by rw [IntKind.wrap_u64]; omega
  have wl : IntKind.u8.wrap (ns.length : Int) = (ns.length : Int) := by unfold IntKind.wrap; simp [IntKind.bits, IntKind.signed]; omega
  have wl2 : (ns.length : Int) % 256 = (ns.length : Int) := by omega
  have hbyte : (#[Value.int .u8 (ns.length : Int)] : Array Value).toList = bys [UInt8.ofNat ns.length] := by simp [bys, byv]; omega
  replace hbyte := Lib.hid hbyte
  go_cut [6] from 18 to 28 (fun x6 wx => ∃ (A6 : Option Addr) (c6 : Nat), x6 = .slice A6 (p1.length + 1) c6 ∧ Own wx 5 1 A6 (p1.length + 1) c6 (bys (p1 ++ [UInt8.ofNat ns.length])) ∧ Blk wx y 36 #[.string (bstr g), .int .u32 v, .slice A ns.length c] ∧ Below w.heap.size w wx ∧ ∀ q, bOf A6 = some q → y < q)
  case first =>
    refine wp_region_alts (fun W => Blk W y 36 #[.string (bstr g), .int .u32 v, .slice A ns.length c]) [2, 6] [4, 9, 10] (.one 0 (.one 1 (.one 2 (.one 3 (.one 5 (.one 6 (.one 7 (.one 8 (.alt 4 (.one 9 (.one 10 (.one 11 .nil))) (.one 9 (.one 4 (.one 10 (.one 11 .nil))))))))))))) (by kernel_rfl) rfl rfl (by kernel_rfl) (by kernel_rfl) (fun _ _ d _ _ h => by cases d <;> exact h) ?_
    have ho3d := ho3.drew
    have hyd := hy3.drew
    have hbd := hb03.drew
    have hgY : ∀ q, bOf A3 = some q → y < q := fun q hq => Nat.lt_of_lt_of_le hy2.lt (hg3 q hq)
    have hgV : ∀ q, bOf A3 = some q → w.heap.size ≤ q := fun q hq => by have := hgY q hq; rw [ey.out]; omega
    generalize w3.drew = v3 at *
    repeat (first | (refine altG_take _ ?_ rfl rfl rfl rfl (fun _ => ?_) ?_; rotate_left; (focus (go_simp; with_reducible rfl)); try simp only [Act.put, List.setIfInBounds_toArray, List.set_cons_zero, List.set_cons_succ]) | (refine altG_held _ ?_ rfl rfl rfl rfl (by assumption) (fun _ hSw => ?_) ?_; rotate_left; (focus (have z1 := hSw.cell 1; have z2 := hSw.cell 2; clear hSw; go_simp; with_reducible rfl)); try simp only [Act.put, List.setIfInBounds_toArray, List.set_cons_zero, List.set_cons_succ]) | (refine altG_skip _ rfl rfl (by assumption) ?_; try simp only [Act.put, List.setIfInBounds_toArray, List.set_cons_zero, List.set_cons_succ]))
    have hs3 : y < v3.heap.size := hyd.lt
    refine altG_alt rfl ?_ ?_
    · refine altG_now _ rfl rfl rfl (fun K0 hK => ?_)
      go_wp2_with fail
      refine (ref_put4 (r := p1) (v := v) ho3d (by omega) (by omega) hp1.out).mono ?_
      rintro e w4 ⟨A4, c4, rfl, ho4, hu4, hat4⟩
      dsimp only
      have hy4 := hyd.upd hu4 (fun e => by have := hgY y e.symm; omega)
      refine hK _ _ _ (fun _ h => h) hy4 ?_
      clear hK K0
      try simp only [Act.put, List.setIfInBounds_toArray, List.set_cons_zero, List.set_cons_succ]
      have hb04 := hbd.trans (hu4.below hbd.size (fun q hq hx => by have := hgV q hx.symm; omega))
      have hg4 : ∀ q, bOf A4 = some q → y < q ∧ w.heap.size ≤ q := fun q hq => by
        rcases hat4 with h4 | h4
        · rw [h4] at hq; exact ⟨hgY q hq, hgV q hq⟩
        · have := h4 q hq; exact ⟨by omega, Nat.le_trans hbd.size this⟩
      have hs4 : y < w4.heap.size := hy4.lt
      refine altG_now _ rfl rfl rfl (fun K0 hK => ?_)
      go_wp2_with fail
      have hst := (Below.refl w4.heap.size w4).alloc (Nat.le_refl _) (.cells #[.int .u8 (ns.length : Int)] 5)
      have hy5 := hy4.alloc (.cells #[.int .u8 (ns.length : Int)] 5)
      refine hK _ _ _ (fun _ h => h) hy5 ?_
      clear hK K0
      try simp only [Act.put, List.setIfInBounds_toArray, List.set_cons_zero, List.set_cons_succ]
      have ho5 := ho4.alloc (.cells #[.int .u8 (ns.length : Int)] 5)
      have hb05 := below_then hst hb04
      have hsrc := Reads.lit (size := 1) w4 #[.int .u8 (ns.length : Int)] 5 (0, 0) 1 (bys [UInt8.ofNat ns.length]) hbyte.out rfl
      have hs5 := hst.size
      generalize w4.alloc (.cells #[.int .u8 (ns.length : Int)] 5) = w5 at *
      have hgA : ∀ q, bOf A4 = some q → y < q := fun q hq => (hg4 q hq).1
      have hgW : ∀ q, bOf A4 = some q → w.heap.size ≤ q := fun q hq => (hg4 q hq).2
      refine altG_now _ rfl rfl rfl (fun K0 hK => ?_)
      refine wp_append_mine _ _ 22 22 rfl 5 i0 (.int .u8 0) 1 1 Tryd.underlying22 hi.out hz0.out hz1.out hz2.out rfl rfl ho5 rfl (Src.ofReads Tryd.underlying22 _ hsrc (bys_one _)) (by unfold maxLen; omega) (by omega) (fun A6 c6 w6 ho6 hg6 hat6 => ?_)
      have hy6 := hy5.grown hg6 (fun e => by have := hgA y e.symm; omega)
      refine hK _ _ _ (fun _ h => h) hy6 ?_
      clear hK K0
      try simp only [Act.put, List.setIfInBounds_toArray, List.set_cons_zero, List.set_cons_succ]
      repeat (first | (refine altG_take _ ?_ rfl rfl rfl rfl (fun _ => ?_) ?_; rotate_left; (focus (go_simp; with_reducible rfl)); try simp only [Act.put, List.setIfInBounds_toArray, List.set_cons_zero, List.set_cons_succ]) | (refine altG_held _ ?_ rfl rfl rfl rfl (by assumption) (fun _ hSw => ?_) ?_; rotate_left; (focus ((try dsimp only at hSw); go_simp; with_reducible rfl)); try simp only [Act.put, List.setIfInBounds_toArray, List.set_cons_zero, List.set_cons_succ]) | (refine altG_skip _ rfl rfl (by assumption) ?_; try simp only [Act.put, List.setIfInBounds_toArray, List.set_cons_zero, List.set_cons_succ]))
      refine altG_nil ?_
      go_wp2_with fail
      go_meet
      refine ⟨A6, c6, rfl, by simpa [bys_append] using ho6, hy6, hb05.grown hg6 hb05.size hgW, fun q hq => ?_⟩
      rcases hat6 with h6 | h6 <;> rw [h6] at hq
      · exact hgA q hq
      · simp at hq; omega
    · refine altG_now _ rfl rfl rfl (fun K0 hK => ?_)
      go_wp2_with fail
      have hst := (Below.refl v3.heap.size v3).alloc (Nat.le_refl _) (.cells #[.int .u8 (ns.length : Int)] 5)
      have hy5 := hyd.alloc (.cells #[.int .u8 (ns.length : Int)] 5)
      refine hK _ _ _ (fun _ h => h) hy5 ?_
      clear hK K0
      try simp only [Act.put, List.setIfInBounds_toArray, List.set_cons_zero, List.set_cons_succ]
      have ho3e := ho3d.alloc (.cells #[.int .u8 (ns.length : Int)] 5)
      have hgS : ∀ q, bOf A3 = some q → q < v3.heap.size := fun q hq => ho3d.lt hq
      have hb05 := below_then hst hbd
      have hsrc := Reads.lit (size := 1) v3 #[.int .u8 (ns.length : Int)] 5 (0, 0) 1 (bys [UInt8.ofNat ns.length]) hbyte.out rfl
      have hs5 := hst.size
      have hsz : (v3.alloc (.cells #[.int .u8 (ns.length : Int)] 5)).heap.size = v3.heap.size + 1 := by simp
      rw [← hsz] at hsrc
      have hsl : v3.heap.size < (v3.alloc (.cells #[.int .u8 (ns.length : Int)] 5)).heap.size := by rw [hsz]; omega
      replace hsz := Lib.hid hsz
      generalize v3.alloc (.cells #[.int .u8 (ns.length : Int)] 5) = w5 at *
      refine altG_now _ rfl rfl rfl (fun K0 hK => ?_)
      go_wp2_with fail
      refine (ref_put4 (r := p1) (v := v) ho3e (by omega) (by omega) hp1.out).mono ?_
      rintro e w4 ⟨A4, c4, rfl, ho4, hu4, hat4⟩
      dsimp only
      have hy4 := hy5.upd hu4 (fun e => by have := hgY y e.symm; omega)
      refine hK _ _ _ (fun _ h => h) hy4 ?_
      clear hK K0
      try simp only [Act.put, List.setIfInBounds_toArray, List.set_cons_zero, List.set_cons_succ]
      have hb04 := hb05.trans (hu4.below hb05.size (fun q hq hx => by have := hgV q hx.symm; omega))
      have hg4 : ∀ q, bOf A4 = some q → y < q ∧ w.heap.size ≤ q := fun q hq => by
        rcases hat4 with h4 | h4
        · rw [h4] at hq; exact ⟨hgY q hq, hgV q hq⟩
        · have := h4 q hq; exact ⟨by omega, Nat.le_trans hb05.size this⟩
      have hs4 : y < w4.heap.size := hy4.lt
      have hsrc4 : Reads w4 w4.heap.size 1 (some ⟨v3.heap.size, 0, none⟩) 1 (bys [UInt8.ofNat ns.length]) := (hsrc.keepAt (fun j => World.cell?_of_block (hu4.block _ hsl (fun e => Nat.lt_irrefl _ (hgS _ e.symm))))).more hu4.size
      have hgA : ∀ q, bOf A4 = some q → y < q := fun q hq => (hg4 q hq).1
      have hgW : ∀ q, bOf A4 = some q → w.heap.size ≤ q := fun q hq => (hg4 q hq).2
      refine altG_now _ rfl rfl rfl (fun K0 hK => ?_)
      refine wp_append_mine _ _ 22 22 rfl 5 i0 (.int .u8 0) 1 1 Tryd.underlying22 hi.out hz0.out hz1.out hz2.out rfl rfl ho4 rfl (Src.ofReads Tryd.underlying22 _ hsrc4 (bys_one _)) (by unfold maxLen; omega) (by omega) (fun A6 c6 w6 ho6 hg6 hat6 => ?_)
      have hy6 := hy4.grown hg6 (fun e => by have := hgA y e.symm; omega)
      refine hK _ _ _ (fun _ h => h) hy6 ?_
      clear hK K0
      try simp only [Act.put, List.setIfInBounds_toArray, List.set_cons_zero, List.set_cons_succ]
      repeat (first | (refine altG_take _ ?_ rfl rfl rfl rfl (fun _ => ?_) ?_; rotate_left; (focus (go_simp; with_reducible rfl)); try simp only [Act.put, List.setIfInBounds_toArray, List.set_cons_zero, List.set_cons_succ]) | (refine altG_held _ ?_ rfl rfl rfl rfl (by assumption) (fun _ hSw => ?_) ?_; rotate_left; (focus ((try dsimp only at hSw); go_simp; with_reducible rfl)); try simp only [Act.put, List.setIfInBounds_toArray, List.set_cons_zero, List.set_cons_succ]) | (refine altG_skip _ rfl rfl (by assumption) ?_; try simp only [Act.put, List.setIfInBounds_toArray, List.set_cons_zero, List.set_cons_succ]))
      refine altG_nil ?_
      go_wp2_with fail
      go_meet
      refine ⟨A6, c6, rfl, by simpa [bys_append] using ho6, hy6, hb04.grown hg6 hb04.size hgW, fun q hq => ?_⟩
      rcases hat6 with h6 | h6 <;> rw [h6] at hq
      · exact hgA q hq
      · simp at hq; omega
  obtain ⟨A6, c6, rfl, ho6, hy6, hb06, hg6⟩ := hcut
  clear hy hy2 hy3 ho3 hg3 hb03 wv wl wl2 hbyte
  have c2 := hy6.cell 2
  go_wp2_with fail
  clear c2
  go_loopw [6, 8] (fun p i wr => ∃ (k : Nat) (A' : Option Addr) (c' : Nat) (X : List UInt8), k ≤ ns.length ∧ X.length = k ∧ Hid (X ++ nodesB (ns.drop k) = nodesB ns) ∧ p = .slice A' (p1.length + 1 + k) c' ∧ i = .int .i64 (k : Int) ∧ Own wr 5 1 A' (p1.length + 1 + k) c' (bys (p1 ++ [UInt8.ofNat ns.length] ++ X)) ∧ Below w.heap.size w wr ∧ Blk wr y 36 #[.string (bstr g), .int .u32 v, .slice A ns.length c] ∧ ∀ q, bOf A' = some q → y < q) (fun _ i _ => ns.length - (intOf i).toNat)
  case atStart => exact ⟨0, A6, c6, [], Nat.zero_le _, rfl, Lib.hid rfl, rfl, rfl, by simpa using ho6, hb06, hy6, hg6⟩
  case round =>
    rename_i hrel
    obtain ⟨k, A', c', X, hk, hX, hXr, rfl, rfl, ho, hbr, hyr, hgr⟩ := hrel
    replace hX := Lib.hid hX
    have c2 := hyr.cell 2
    have hyl := hyr.lt
    by_cases hlt : k < ns.length
    · have hbY : Below y w wr := by rw [← ey.out]; exact hbr
      obtain ⟨ad, rfl, hbk, hc⟩ := node_at (h.below hbY) hlt
      obtain ⟨o0, o1, -⟩ := hok.out k hlt
      obtain ⟨x, hx⟩ : ∃ x, ns.getD k 0 = x := ⟨_, rfl⟩
      rw [hx] at hc o0 o1
      have hXn : Hid (X ++ [nodeB x] ++ nodesB (ns.drop (k + 1)) = nodesB ns) := by
        refine Lib.hid ?_
        have e := hXr.out
        rw [List.drop_eq_getElem_cons hlt] at e
        rw [← e, ← hx]
        simp only [nodesB, List.getD, List.getElem?_eq_getElem hlt, Option.getD_some, List.map_cons, List.append_assoc, List.cons_append, List.nil_append]
      replace hx := Lib.hid hx
      have hbyte : Hid ((#[Value.int .u8 x] : Array Value).toList = bys [nodeB x]) := Lib.hid (by have e := nodeB_val o0 o1; rw [Int.emod_eq_of_lt o0 (by omega)] at e; simp only [bys, byv, List.map_cons, List.map_nil]; rw [← e])
      go_wp2_with (at_builtin; go_must (refine wpList_append_mine rfl _ _ 22 22 rfl 5 i0 (.int .u8 0) 1 1 Tryd.underlying22 hi.out hz0.out hz1.out hz2.out rfl rfl (ho.alloc _) rfl (Src.ofReads Tryd.underlying22 _ (Reads.lit _ _ _ _ 1 _ hbyte.out rfl) (bys_one _)) ?b1 ?b2 ?grow))
      case b1 => unfold maxLen; omega
      case b2 => omega
      case grow =>
        intro A2 c2 w2 hown hgr2 hat
        go_wp2_with fail
        go_roundw
        case rel =>
          refine ⟨k + 1, A2, c2, X ++ [nodeB x], by omega, by rw [List.length_append, hX.out]; rfl, hXn, by simp [Nat.add_assoc], by go_num, by rw [show bys (p1 ++ [UInt8.ofNat ns.length] ++ (X ++ [nodeB x])) = bys (p1 ++ UInt8.ofNat ns.length :: X) ++ bys [nodeB x] from by rw [← bys_append]; simp]; exact hown, (hbr.alloc hbr.size _).grown hgr2 (Nat.le_trans hbr.size (by simp)) (fun q hq => ?_), ?_, fun q hq => ?_⟩
          · have := hgr q hq; rw [← ey.out] at this; omega
          · exact (hyr.alloc _).grown hgr2 (fun e => by have := hgr y e.symm; omega)
          · rcases hat with h7 | h7 <;> rw [h7] at hq
            · exact hgr q hq
            · simp at hq; omega
        case measure => simp [intOf]; omega
    · obtain rfl : k = ns.length := by omega
      have hXX : Hid (X = nodesB ns) := Lib.hid (by have e := hXr.out; simpa [nodesB] using e)
      have hRb := (hb.below hbr).more hbr.size
      have hpl : Hid (p1 ++ [UInt8.ofNat ns.length] ++ X = payR g v ns) := Lib.hid (by rw [hXX.out]; exact hpay.out)
      have hpn : Hid (p1.length + 1 + ns.length = (payR g v ns).length) := Lib.hid (by rw [← hpl.out]; simp [hX.out]; omega)
      rw [hpl.out, hpn.out] at ho
      rw [hpn.out]
      have hwrap := wrap_ref (d := c') (row := none) (Grows.full hRb (Nat.le_refl _) (Nat.le_refl _)) ho.reads_ (Nat.le_refl _) (fun _ h => by cases h) hbl (by rw [payR_len]; omega) he.out
      replace hwrap := Lib.hid hwrap
      obtain ⟨N, hN⟩ : ∃ N, (payR g v ns).length = N := ⟨_, rfl⟩
      rw [hN] at hwrap ⊢
      clear hN ho hRb
      go_wp2_with fail
      refine hwrap.out.mono ?_
      rintro e w9 ⟨A9, c9, rfl, ho9, hu9, hg9⟩
      dsimp only
      go_wp2_with fail
      go_ret2
      exact ⟨A9, c9, rfl, ho9, hbr.trans (hu9.below hbr.size (fun q _ hx => by cases hx)), fun q hq => by
        rcases hg9 q hq with h9 | h9
        · rw [h9] at hq; cases hq
        · exact Nat.le_trans hbr.size h9⟩
theorem ref_put_no {g : List UInt8} {v : Int} {A C : Option Addr} {n c d : Nat} {ns : List Int} {w : World} (h : Reads w w.heap.size 1 A ns.length (ints ns)) (hg : g.length ≤ 140737488351232) (hn : ns.length ≤ 140737488351232) (hr : rightB g ns = false) :
    Calls Tryd.prog 8 #[.slice C n d, .agg #[.string (bstr g), .int .u32 v, .slice A ns.length c]] w (fun e w' => e = .returned (.tuple #[.slice none 0 0, .int .i64 22]) ∧ Below w.heap.size w w') := by
  have hb0 := (Below.refl w.heap.size w).alloc (Nat.le_refl _) (.cells #[.string (bstr g), .int .u32 v, .slice A ns.length c] 36)
  have hright := ref_right (g := g) (v := v) (c := c) ((h.below hb0).more hb0.size) hg hn
  rw [hr] at hright
  replace hright := Lib.hid hright
  replace hr := Lib.hid hr
  go_enter Tryd.func8, Tryd.ntmps8
  go_wp2_with fail
  refine hright.out.mono ?_
  rintro e w2 ⟨rfl, hb2⟩
  dsimp only
  have hb02 := below_then hb2 hb0
  go_wp2_with fail
  go_ret2
  exact ⟨rfl, hb02⟩
end Go.Proofs.YtdnoafjaheofcaaDoor
