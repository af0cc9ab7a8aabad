/- Any value: choirref1's kinds, great, Check; value.Size, value.Check whatever the size; choirhelp.Light, Lights. -/
import Derived.Test.YtafogjonicdbmaaDeep
namespace Go.Proofs.Ytafogjonicdbmaa
open Go.RowKit

theorem any_next {l : List Val} {p : Val → Bool} {j : Nat} (hlt : j < l.length) (h : (l.take j).any p = false) (hp : p l[j] = false) : (l.take (j + 1)).any p = false := by
  rw [List.take_succ_eq_append_getElem hlt, List.any_append, h]
  simpa using hp
theorem any_here {l : List Val} {p : Val → Bool} {j : Nat} (hlt : j < l.length) (hp : p l[j] = true) : l.any p = true := List.any_eq_true.2 ⟨l[j], List.getElem_mem hlt, hp⟩

set_option maxHeartbeats 1600000 in
theorem ref_kinds {w : World} {B : Nat} {v : Val} {cs : Array Value} (h : VReads w B v cs) : ∀ w1, Below B w w1 → B ≤ w1.heap.size → Calls Try.prog 46 #[.agg cs] w1 (Says w1 (.bool (!strangeV v))) := by
  induction h with
  | @mk k i f s l A c xs css hn hr hx hxs ih =>
    intro w1 hb1 hB1
    have hS := SV.alloc w1 (Below.refl _ _) k i f (bstr s) A l.length c
    have hfin := (Below.refl w1.heap.size w1).alloc (Nat.le_refl _) (.cells #[.int .i64 k, .int .i64 i, .float .f64 f, .string (bstr s), .slice A l.length c] 26)
    have hst : strangeV (.mk k i f s l) = (decide (k < 0 ∨ 4 < k) || (k == 4 && l.any strangeV)) := by rw [← strangeL_any]; rfl
    rw [hst]
    clear hst
    by_cases hout : k < 0 ∨ 4 < k
    · have e : (!(decide (k < 0 ∨ 4 < k) || (k == 4 && l.any strangeV))) = false := by simp [hout]
      rw [e]
      clear e
      rcases hout with h0 | h4
      · go_enter Try.func46, Try.ntmps46
        go_wp2_with fail
        go_ret
        exact ⟨rfl, hfin⟩
      · have h0 : 0 ≤ k := by omega
        go_enter Try.func46, Try.ntmps46
        go_wp2_with fail
        go_ret
        exact ⟨rfl, hfin⟩
    have h0 : 0 ≤ k := by omega
    have h4 : k ≤ 4 := by omega
    by_cases hk4 : k = 4
    · subst hk4
      have e : (!(decide ((4 : Int) < 0 ∨ (4 : Int) < 4) || ((4 : Int) == 4 && l.any strangeV))) = !(l.any strangeV) := by simp
      rw [e]
      have hb2 := hb1.trans (hfin.mono hB1)
      have hB2 := Nat.le_trans hB1 hfin.size
      replace ih := Lib.hid ih
      clear e hout
      go_enter Try.func46, Try.ntmps46
      go_wp2_with fail
      generalize w1.alloc (.cells #[.int .i64 4, .int .i64 i, .float .f64 f, .string (bstr s), .slice A l.length c] 26) = w2 at *
      go_loopw [3] (fun i wr => ∃ j : Nat, j ≤ l.length ∧ i = .int .i64 (j : Int) ∧ (l.take j).any strangeV = false ∧ Below w2.heap.size w2 wr) (fun i _ => l.length - (intOf i).toNat)
      case atStart => exact ⟨0, Nat.zero_le _, rfl, by simp, Below.refl _ _⟩
      case round =>
        rename_i hrel
        obtain ⟨j, hj, rfl, hany, hb⟩ := hrel
        obtain ⟨e0, e1, e2, e3, e4, -, -⟩ := hS.below hb
        by_cases hlt : j < l.length
        · have hbb : Below B w wr := hb2.trans (hb.mono hB2)
          obtain ⟨ad, k', i', f', s', A', n', c', rfl, hform, hgk, g0, g1, g2, g3, g4⟩ := kid hr hx hxs hbb hlt
          have hcl := ih.out j l[j] hgk wr hbb (Nat.le_trans hB2 hb.size)
          have hnx := any_next hlt hany
          have hhr := any_here (p := strangeV) hlt
          rw [hform] at hcl
          clear hform hgk hany
          generalize strangeV l[j] = q at hcl hnx hhr
          replace hnx := Lib.hid hnx
          replace hhr := Lib.hid hhr
          go_wp2_with fail
          refine hcl.mono ?_
          clear hcl
          rintro e w4 ⟨rfl, hb4⟩
          dsimp only
          have hb4' := below_then hb4 hb
          cases q
          · go_wp2_with fail
            go_roundw
            case rel => exact ⟨j + 1, by omega, by simp, hnx.out rfl, by assumption⟩
            case measure => simp [intOf]; omega
          · go_wp2_with fail
            go_ret
            exact ⟨by rw [hhr.out (by trivial)]; rfl, below_then hb4' hfin⟩
        · have hj' : j = l.length := by omega
          subst hj'
          rw [List.take_length] at hany
          replace hany := Lib.hid hany
          go_wp2_with fail
          go_ret
          exact ⟨by rw [hany.out]; rfl, below_then hb hfin⟩
    · have k4 : (k == 4) = false := by rw [beq_eq_false_iff_ne]; exact hk4
      have e : (!(decide (k < 0 ∨ 4 < k) || (k == 4 && l.any strangeV))) = true := by simp [hout, k4]
      rw [e]
      clear e hout ih hx hxs hr
      go_enter Try.func46, Try.ntmps46
      go_wp2_with fail
      generalize w1.alloc (.cells #[.int .i64 k, .int .i64 i, .float .f64 f, .string (bstr s), .slice A l.length c] 26) = w2 at *
      go_loopw [3] (fun i wr => i = .int .i64 0 ∧ Below w2.heap.size w2 wr) (fun i _ => 0)
      case atStart => exact ⟨rfl, Below.refl _ _⟩
      case round =>
        rename_i hrel
        obtain ⟨rfl, hb⟩ := hrel
        obtain ⟨e0, e1, e2, e3, e4, -, -⟩ := hS.below hb
        by_cases hlt : 0 < l.length
        · go_wp2_with fail
          go_ret
          exact ⟨rfl, below_then hb hfin⟩
        · have hlt' : l.length = 0 := by omega
          go_wp2_with fail
          go_ret
          exact ⟨rfl, below_then hb hfin⟩

set_option maxHeartbeats 1600000 in
theorem ref_great {w : World} {B : Nat} {v : Val} {cs : Array Value} (h : VReads w B v cs) : ∀ (d : Nat) (w1 : World), d ≤ 8 → Below B w w1 → B ≤ w1.heap.size → Calls Try.prog 47 #[.agg cs, .int .i64 (d : Int)] w1 (Says w1 (.bool (greatV v (8 - (d : Int))))) := by
  induction h with
  | @mk k i f s l A c xs css hn hr hx hxs ih =>
    intro d w1 hd hb1 hB1
    have hS := SV.alloc w1 (Below.refl _ _) k i f (bstr s) A l.length c
    have hfin := (Below.refl w1.heap.size w1).alloc (Nat.le_refl _) (.cells #[.int .i64 k, .int .i64 i, .float .f64 f, .string (bstr s), .slice A l.length c] 26)
    have hbs : (bstr s).size = s.length := bstr_size s
    by_cases hk4 : k = 4
    · have hgt : greatV (.mk k i f s l) (8 - (d : Int)) = (decide (64 < l.length) || decide (8 - (d : Int) < 1) || l.any (greatV · (8 - (d : Int) - 1))) := by
        rw [← greatL_any, hk4]; rfl
      rw [hgt]
      clear hgt
      subst hk4
      by_cases hd8 : d = 8
      · subst hd8
        have e : (decide (64 < l.length) || decide (8 - ((8 : Nat) : Int) < 1) || l.any (greatV · (8 - ((8 : Nat) : Int) - 1))) = true := by simp
        rw [e]
        go_enter Try.func47, Try.ntmps47
        go_wp2_with fail
        go_ret
        exact ⟨rfl, hfin⟩
      have hd' : (d : Int) < 8 := by omega
      by_cases h64 : 64 < l.length
      · have e : (decide (64 < l.length) || decide (8 - (d : Int) < 1) || l.any (greatV · (8 - (d : Int) - 1))) = true := by simp [h64]
        rw [e]
        have h64i : (64 : Int) < (l.length : Int) := by omega
        clear e
        go_enter Try.func47, Try.ntmps47
        go_wp2_with fail
        go_ret
        exact ⟨rfl, hfin⟩
      have h64i : (l.length : Int) ≤ 64 := by omega
      have e : (decide (64 < l.length) || decide (8 - (d : Int) < 1) || l.any (greatV · (8 - (d : Int) - 1))) = l.any (greatV · (8 - ((d + 1 : Nat) : Int))) := by
        rw [decide_eq_false h64, decide_eq_false (by omega), show (8 - (d : Int) - 1) = 8 - ((d + 1 : Nat) : Int) by omega]
        rfl
      rw [e]
      clear e
      have hd1 : ((d : Int) + 1) = ((d + 1 : Nat) : Int) := by omega
      have hd2 : d + 1 ≤ 8 := by omega
      generalize d + 1 = d' at hd1 hd2 ⊢
      generalize hp : (fun x : Val => greatV x (8 - (d' : Int))) = p
      have hpx : ∀ x, greatV x (8 - (d' : Int)) = p x := fun x => by rw [← hp]
      have hb2 := hb1.trans (hfin.mono hB1)
      have hB2 := Nat.le_trans hB1 hfin.size
      replace ih := Lib.hid ih
      replace hpx := Lib.hid hpx
      clear hp
      go_enter Try.func47, Try.ntmps47
      go_wp2_with fail
      generalize w1.alloc (.cells #[.int .i64 4, .int .i64 i, .float .f64 f, .string (bstr s), .slice A l.length c] 26) = w2 at *
      go_loopw [5] (fun i wr => ∃ j : Nat, j ≤ l.length ∧ i = .int .i64 (j : Int) ∧ (l.take j).any p = false ∧ Below w2.heap.size w2 wr) (fun i _ => l.length - (intOf i).toNat)
      case atStart => exact ⟨0, Nat.zero_le _, rfl, by simp, Below.refl _ _⟩
      case round =>
        rename_i hrel
        obtain ⟨j, hj, rfl, hany, hb⟩ := hrel
        obtain ⟨e0, e1, e2, e3, e4, -, -⟩ := hS.below hb
        by_cases hlt : j < l.length
        · have hbb : Below B w wr := hb2.trans (hb.mono hB2)
          obtain ⟨ad, k', i', f', s', A', n', c', rfl, hform, hgk, g0, g1, g2, g3, g4⟩ := kid hr hx hxs hbb hlt
          have hcl := ih.out j l[j] hgk d' wr hd2 hbb (Nat.le_trans hB2 hb.size)
          have hnx := any_next hlt hany
          have hhr := any_here (p := p) hlt
          rw [hform, hpx.out] at hcl
          clear hform hgk hany
          generalize p l[j] = q at hcl hnx hhr
          replace hnx := Lib.hid hnx
          replace hhr := Lib.hid hhr
          go_wp2_with fail
          refine hcl.mono ?_
          clear hcl
          rintro e w4 ⟨rfl, hb4⟩
          dsimp only
          have hb4' := below_then hb4 hb
          cases q
          · go_wp2_with fail
            go_roundw
            case rel => exact ⟨j + 1, by omega, by simp, hnx.out rfl, by assumption⟩
            case measure => simp [intOf]; omega
          · go_wp2_with fail
            go_ret
            exact ⟨by rw [hhr.out (by trivial)]; rfl, below_then hb4' hfin⟩
        · have hj' : j = l.length := by omega
          subst hj'
          rw [List.take_length] at hany
          replace hany := Lib.hid hany
          go_wp2_with fail
          go_ret
          exact ⟨by rw [hany.out]; rfl, below_then hb hfin⟩
    · have hgt : greatV (.mk k i f s l) (8 - (d : Int)) = (if k = 3 then decide (256 < s.length) else false) := by
        unfold greatV
        rw [if_neg hk4]
      rw [hgt]
      clear hgt
      have k4 : (k != 4) = true := by rw [bne_iff_ne]; exact hk4
      by_cases h3 : k = 3
      · rw [if_pos h3]
        subst h3
        by_cases hl : 256 < s.length
        · have hli : (256 : Int) < (s.length : Int) := by omega
          rw [decide_eq_true hl]
          go_enter Try.func47, Try.ntmps47
          go_wp2
          go_ret
          refine ⟨?_, hfin⟩
          simp [go_sem, hbs, hl]
        · have hli : (s.length : Int) ≤ 256 := by omega
          rw [decide_eq_false hl]
          go_enter Try.func47, Try.ntmps47
          go_wp2
          go_ret
          refine ⟨?_, hfin⟩
          simp [go_sem, hbs]
          omega
      · rw [if_neg h3]
        have k3 : (k == 3) = false := by rw [beq_eq_false_iff_ne]; exact h3
        go_enter Try.func47, Try.ntmps47
        go_wp2_with fail
        go_ret
        exact ⟨rfl, hfin⟩
end Go.Proofs.Ytafogjonicdbmaa
