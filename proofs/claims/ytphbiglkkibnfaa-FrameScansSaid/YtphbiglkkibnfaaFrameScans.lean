/- FrameScans' walk. -/
import Derived.Test.YtphbiglkkibnfaaScan
import Derived.Test.YtphbiglkkibnfaaFrameReads
import Derived.BigQuiet
namespace Go.Proofs.Ytphbiglkkibnfaa
open Go.RowKit

def RowsIn (w : World) (B : Nat) (A : Option Addr) (l : List (List UInt8)) : Prop :=
  0 < l.length → ∃ a, A = some a ∧ a.block < B ∧ ∀ (i : Nat) x, l[i]? = some x → ∃ C c, w.cell? (a.add i) = some (.slice C x.length c) ∧ Reads w B 1 C x.length (bys x) ∧ x.length ≤ c

theorem Own.none_cap {w : World} {t : TypeId} {A : Option Addr} {n c : Nat} {xs : List Value} (h : Own w t 1 A n c xs) (hA : A = none) : c = 0 := by
  rcases h.2 with ⟨_, _, h⟩ | ⟨g, cur, rfl, _⟩
  · exact h
  · cases hA

def ScansRel (l : List (List UInt8)) (w : World) (o i : Value) (wr : World) : Prop :=
  ∃ (k : Nat) (A : Option Addr) (c : Nat) (bs : List UInt8), k ≤ l.length ∧ i = .int .i64 (k : Int) ∧ o = .slice A bs.length c ∧ Own wr 5 1 A bs.length c (bys bs) ∧ bs.length ≤ 108 * k ∧ Below w.heap.size w wr ∧ (∀ g, bOf A = some g → w.heap.size ≤ g)

set_option maxHeartbeats 1600000 in
theorem frameScans_walk (A C : Option Addr) (c cc : Nat) (l : List (List UInt8)) (more : List UInt8) (at_ x : Int) (w : World) (ha0 : 0 ≤ at_) (ha1 : at_ ≤ 65535) (hx0 : 0 ≤ x) (hx1 : x ≤ 255) (h : RowsIn w w.heap.size A l) (hm : Reads w w.heap.size 1 C more.length (bys more)) :
    Calls Try.prog 8 #[.slice A l.length c, .int .u16 at_, .int .u8 x, .slice C more.length cc] w (SaysTrue w) := by
  obtain ⟨i0, hi, hz0, hz1, hz2⟩ := info_parts info_u8
  go_enter Try.func8, Try.ntmps8
  go_wp2_with fail
  refine (known_true w).mono ?_
  rintro e w1 ⟨rfl, hb1⟩
  by_cases h1 : 10 < l.length
  · go_wp2_with fail
    go_ret
    exact ⟨rfl, hb1⟩
  by_cases h2 : 100 < more.length
  · go_wp2_with fail
    go_ret
    exact ⟨rfl, hb1⟩
  go_wp2_with fail
  go_loopw [9, 10] (fun o i wr => ScansRel l w o i wr) (fun _ i _ => l.length - (intOf i).toNat)
  case atStart => exact ⟨0, none, 0, [], by omega, rfl, rfl, Own.none_, by simp, hb1, by simp [bOf]⟩
  case round =>
    obtain ⟨k, A2, c2, bs, hk, rfl, rfl, ho2, hbl, hb2, hg2⟩ := hrel
    by_cases hlt : k < l.length
    · obtain ⟨ad, rfl, had, hrow⟩ := h (by omega)
      obtain ⟨Ci, ci, hci, hri, hle⟩ := hrow k l[k] (List.getElem?_eq_getElem hlt)
      have hci2 := (hb2.cell (p := ad.add k) (by rw [block_of_add]; exact had)).trans hci
      have hri2 := hri.below hb2
      generalize l[k] = y at hci hri hle hci2 hri2
      clear hci hri
      by_cases h3 : 100 < y.length
      · go_wp2_with fail
        go_ret
        exact ⟨rfl, hb2⟩
      obtain ⟨r, hr⟩ : ∃ r, bs ++ framed y = r := ⟨_, rfl⟩
      have hrl : r.length = bs.length + (8 + y.length) := by rw [← hr, List.length_append, framed_len]
      replace hr := Lib.hid hr
      replace hrl := Lib.hid hrl
      go_wp2_with fail
      refine (wrap_ref (Grows.own ho2) hri2 hb2.size hg2 (by omega) (by omega) hr.out).mono ?_
      rintro e w3 ⟨A3, c3, rfl, ho3, hu3, hg3⟩
      dsimp only
      have hb3 : Below w.heap.size w w3 := hb2.trans (hu3.below hb2.size (fun k hk he => by have := hg2 k he.symm; omega))
      go_wp2_with fail
      refine ⟨⟨k + 1, A3, c3, r, by omega, by simp, rfl, ho3, by rw [hrl.out]; omega, hb3, fun g hg => ?_⟩, by simp [intOf]; omega⟩
      rcases hg3 g hg with e | e
      · exact hg2 g (by rw [← e, hg])
      · have := hb2.size; omega
    · have hk' : k = l.length := by omega
      subst hk'
      have hm2 := hm.below hb2
      obtain ⟨t, ht⟩ : ∃ t, bs ++ more = t := ⟨_, rfl⟩
      have htl : bs.length + more.length = t.length := by rw [← ht, List.length_append]
      have htb : t.length ≤ 2000 := by omega
      replace ht := Lib.hid ht
      replace htl := Lib.hid htl
      go_wp2_with (at_builtin; go_must (refine wpList_append_mine rfl _ _ 22 22 rfl 5 i0 (.int .u8 0) 1 1 Try.underlying22 hi hz0 hz1 hz2 rfl rfl ho2 rfl (Src.ofReads Try.underlying22 _ hm2 (bys_one _)) ?b1 ?b2 ?grow))
      case b1 => unfold maxLen; omega
      case b2 => omega
      case grow =>
      intro A4 c4 w4 ho4 hg4 hat4
      rw [← bys_append, ht.out, htl.out] at ho4
      rw [htl.out]
      have hb4 : Below w.heap.size w w4 := hb2.grown hg4 hb2.size hg2
      have hfr4 : ∀ g, bOf A4 = some g → w.heap.size ≤ g := by
        rcases hat4 with e | e
        · rw [e]; exact hg2
        · intro g hg; rw [e] at hg; cases hg; exact hb2.size
      clear hat4 hg4 ho2 hm2 hbl
      by_cases h0 : t.length = 0
      · have h0' : ¬ (0 : Int) < (t.length : Int) := by omega
        have ht0 : t = [] := List.eq_nil_of_length_eq_zero h0
        subst ht0
        go_wp2_with fail
        have hoD := ho4
        have hbD := hb4
        obtain ⟨R, hRq⟩ : ∃ R, scan [] (([] : List UInt8).length + 1) 0 = R := ⟨_, rfl⟩
        refine (scan_walk (A := A4) (b := []) hoD.none_cap hoD.reads_ hoD.le_cap (by first | omega | simp)).mono ?_
        rw [hRq]
        rintro e w7 ⟨A7, c7, rfl, hr7, hb7'⟩
        dsimp only
        have hb7 := below_then hb7' hbD
        have hoE := hoD.below hb7' (Nat.le_refl _)
        go_wp2_with fail
        refine (ref_scan_walk (A := A4) (b := []) hoE.none_cap hoE.reads_ hoE.le_cap (by first | omega | simp)).mono ?_
        rw [hRq]
        rintro e w8 ⟨A8, c8, rfl, hr8, hb8'⟩
        dsimp only
        have hb8 := below_then hb8' hb7
        have hr7' := hr7.below hb8'
        have hRb : R.1.length ≤ 9223372036854775807 := by
          obtain ⟨xs, hx, _⟩ := hr8
          have e1 := hx.le_cap
          have e2 := hx.cap_le
          unfold maxLen at e2
          omega
        clear hRq hoD hoE hr7 hb7' hb8' hb7 hbD
        go_wp2_with fail
        go_loopw [15] (fun i wr => ∃ k : Nat, k ≤ R.1.length ∧ i = .int .i64 (k : Int) ∧ Below w8.heap.size w8 wr) (fun i _ => R.1.length - (intOf i).toNat)
        case atStart => exact ⟨0, by omega, rfl, Below.refl _ _⟩
        case round =>
          rename_i hrel
          obtain ⟨j, hj, rfl, hbj⟩ := hrel
          by_cases hjl : j < R.1.length
          · obtain ⟨xs1, hx1o, hx1⟩ := hr7'.below hbj
            obtain ⟨xs2, hx2o, hx2⟩ := hr8.below hbj
            obtain ⟨D1, d1, e1, o1⟩ := hx1 j R.1[j] (List.getElem?_eq_getElem hjl)
            obtain ⟨D2, d2, e2, o2⟩ := hx2 j R.1[j] (List.getElem?_eq_getElem hjl)
            obtain ⟨g1, cur1, rfl, hblk1, hcur1, _⟩ := hx1o.open_ (by omega)
            obtain ⟨g2, cur2, rfl, hblk2, hcur2, _⟩ := hx2o.open_ (by omega)
            have f1 := (hblk1.cell j).trans ((hcur1 j hjl).trans e1)
            have f2 := (hblk2.cell j).trans ((hcur2 j hjl).trans e2)
            have k1 := fun n => conv_bytes (c := d1) (w := wr.drewN n) (o1.reads_.drewN n)
            have k2 := fun n => conv_bytes (c := d2) (w := wr.drewN n) (o2.reads_.drewN n)
            generalize R.1[j] = y at e1 e2 o1 o2 f1 f2 k1 k2
            clear hx1o hx1 hx2o hx2 e1 e2 o1 o2 hblk1 hcur1 hblk2 hcur2
            have hjI : (j : Int) < (R.1.length : Int) := by omega
            go_wp2_with fail
            go_quiet (fail)
            go_wp2_with fail
            go_roundw
            case rel => exact ⟨j + 1, by omega, by simp, below_drewN (by assumption) _⟩
            case measure => simp [intOf]; omega
          · have hjk : j = R.1.length := by omega
            subst hjk
            go_wp2_with fail
            go_ret
            exact ⟨rfl, below_then hbj hb8⟩
      · replace h0 : 0 < t.length := by omega
        obtain ⟨g, cur, rfl, hblk, hcur, hset⟩ := ho4.open_ (by omega)
        obtain ⟨i, hi', hii⟩ : ∃ i : Nat, at_ % (t.length : Int) = (i : Int) ∧ i < t.length := by
          have h1 := Int.emod_nonneg at_ (show (t.length : Int) ≠ 0 by omega)
          have h2 := Int.emod_lt_of_pos at_ (show (0 : Int) < (t.length : Int) by omega)
          exact ⟨(at_ % (t.length : Int)).toNat, by omega, by omega⟩
        have hcell := hblk.cell i
        rw [hcur i hii] at hcell
        simp only [bys, byv, List.getElem?_map, List.getElem?_eq_getElem hii, Option.map_some] at hcell
        have hfz := hblk.frozen i
        obtain ⟨b', hbv⟩ := byte_xor t[i] x (by omega) (by omega)
        go_wp2_with fail
        have hoD := hset i (byv b') hii
        rw [bys_set] at hoD
        have hbD : Below w.heap.size w (w4.setCell ⟨g, i, none⟩ (byv b')) := hb4.setCell (by show w.heap.size ≤ g; exact hfr4 g rfl) _
        change Calls _ _ _ (w4.setCell ⟨g, i, none⟩ (byv b')) _
        generalize w4.setCell ⟨g, i, none⟩ (byv b') = w5 at hoD hbD ⊢
        clear hcell hfz hset hcur hblk hbv
        have hlc : (t.set i b').length = t.length := by simp
        obtain ⟨d, hd⟩ : ∃ d, t.set i b' = d := ⟨_, rfl⟩
        rw [hd] at hoD hlc
        rw [← hlc] at hoD ⊢
        have hdb : d.length ≤ 2000 := by omega
        replace hlc := Lib.hid hlc
        obtain ⟨R, hRq⟩ : ∃ R, scan d (d.length + 1) 0 = R := ⟨_, rfl⟩
        refine (scan_walk (A := some ⟨g, 0, none⟩) (b := d) hoD.none_cap hoD.reads_ hoD.le_cap (by first | omega | simp)).mono ?_
        rw [hRq]
        rintro e w7 ⟨A7, c7, rfl, hr7, hb7'⟩
        dsimp only
        have hb7 := below_then hb7' hbD
        have hoE := hoD.below hb7' (Nat.le_refl _)
        go_wp2_with fail
        refine (ref_scan_walk (A := some ⟨g, 0, none⟩) (b := d) hoE.none_cap hoE.reads_ hoE.le_cap (by first | omega | simp)).mono ?_
        rw [hRq]
        rintro e w8 ⟨A8, c8, rfl, hr8, hb8'⟩
        dsimp only
        have hb8 := below_then hb8' hb7
        have hr7' := hr7.below hb8'
        have hRb : R.1.length ≤ 9223372036854775807 := by
          obtain ⟨xs, hx, _⟩ := hr8
          have e1 := hx.le_cap
          have e2 := hx.cap_le
          unfold maxLen at e2
          omega
        clear hRq hoD hoE hr7 hb7' hb8' hb7 hbD
        go_wp2_with fail
        go_loopw [15] (fun i wr => ∃ k : Nat, k ≤ R.1.length ∧ i = .int .i64 (k : Int) ∧ Below w8.heap.size w8 wr) (fun i _ => R.1.length - (intOf i).toNat)
        case atStart => exact ⟨0, by omega, rfl, Below.refl _ _⟩
        case round =>
          rename_i hrel
          obtain ⟨j, hj, rfl, hbj⟩ := hrel
          by_cases hjl : j < R.1.length
          · obtain ⟨xs1, hx1o, hx1⟩ := hr7'.below hbj
            obtain ⟨xs2, hx2o, hx2⟩ := hr8.below hbj
            obtain ⟨D1, d1, e1, o1⟩ := hx1 j R.1[j] (List.getElem?_eq_getElem hjl)
            obtain ⟨D2, d2, e2, o2⟩ := hx2 j R.1[j] (List.getElem?_eq_getElem hjl)
            obtain ⟨g1, cur1, rfl, hblk1, hcur1, _⟩ := hx1o.open_ (by omega)
            obtain ⟨g2, cur2, rfl, hblk2, hcur2, _⟩ := hx2o.open_ (by omega)
            have f1 := (hblk1.cell j).trans ((hcur1 j hjl).trans e1)
            have f2 := (hblk2.cell j).trans ((hcur2 j hjl).trans e2)
            have k1 := fun n => conv_bytes (c := d1) (w := wr.drewN n) (o1.reads_.drewN n)
            have k2 := fun n => conv_bytes (c := d2) (w := wr.drewN n) (o2.reads_.drewN n)
            generalize R.1[j] = y at e1 e2 o1 o2 f1 f2 k1 k2
            clear hx1o hx1 hx2o hx2 e1 e2 o1 o2 hblk1 hcur1 hblk2 hcur2
            have hjI : (j : Int) < (R.1.length : Int) := by omega
            go_wp2_with fail
            go_quiet (fail)
            go_wp2_with fail
            go_roundw
            case rel => exact ⟨j + 1, by omega, by simp, below_drewN (by assumption) _⟩
            case measure => simp [intOf]; omega
          · have hjk : j = R.1.length := by omega
            subst hjk
            go_wp2_with fail
            go_ret
            exact ⟨rfl, below_then hbj hb8⟩
end Go.Proofs.Ytphbiglkkibnfaa
