/- Any value: what choirref1.Deep and choirref1.Size say of it, and value.Size at any size. -/
import Derived.Test.YtafogjonicdbmaaReadTop
namespace Go.Proofs.Ytafogjonicdbmaa
open Go.RowKit

theorem w64_add (a b : Int) : IntKind.i64.wrap (IntKind.i64.wrap a + IntKind.i64.wrap b) = IntKind.i64.wrap (a + b) := by
  simp only [IntKind.wrap, IntKind.bits, IntKind.signed]
  simp
  omega
theorem w64_id (a : Int) (h0 : -1000000000000000000 ≤ a) (h1 : a ≤ 1000000000000000000) : IntKind.i64.wrap a = a := by
  simp only [IntKind.wrap, IntKind.bits, IntKind.signed]
  simp
  omega

/-- A list's item, as a walk finds it. -/
theorem kid {w wr : World} {B : Nat} {l : List Val} {A : Option Addr} {xs : List Value} {css : Nat → Array Value} (hr : Reads w B 5 A l.length xs) (hx : ∀ (j : Nat) (v : Val), l[j]? = some v → VReads w B v (css j)) (hxs : ∀ j, j < l.length → (xs.drop (j * 5)).take 5 = (css j).toList) (hb : Below B w wr) {j : Nat} (hlt : j < l.length) :
    ∃ ad k i f s A' n c, A = some ad ∧ css j = #[.int .i64 k, .int .i64 i, .float .f64 f, .string s, .slice A' n c] ∧ l[j]? = some l[j] ∧ wr.cell? (ad.add (j * 5)) = some (.int .i64 k) ∧ wr.cell? ⟨(ad.add (j * 5)).block, (ad.add (j * 5)).off + 1, none⟩ = some (.int .i64 i) ∧ wr.cell? ⟨(ad.add (j * 5)).block, (ad.add (j * 5)).off + 2, none⟩ = some (.float .f64 f) ∧ wr.cell? ⟨(ad.add (j * 5)).block, (ad.add (j * 5)).off + 3, none⟩ = some (.string s) ∧ wr.cell? ⟨(ad.add (j * 5)).block, (ad.add (j * 5)).off + 4, none⟩ = some (.slice A' n c) := by
  obtain ⟨ad, rfl, -, -⟩ := hr.2 (by omega)
  have hgk : l[j]? = some l[j] := List.getElem?_eq_getElem hlt
  obtain ⟨k', i', f', s', A', n', c', hform⟩ := (hx j l[j] hgk).form
  have hc5 := hxs j hlt
  rw [hform] at hc5
  obtain ⟨g0, g1, g2, g3, g4⟩ := elem_cells (hr.below hb) hlt hc5
  exact ⟨ad, k', i', f', s', A', n', c', rfl, hform, hgk, g0, g1, g2, g3, g4⟩

set_option maxHeartbeats 800000 in
theorem ref_deep {w : World} {B : Nat} {v : Val} {cs : Array Value} (h : VReads w B v cs) : ∀ (d : Nat) (w1 : World), d ≤ 100 → Below B w w1 → B ≤ w1.heap.size → Calls Try.prog 28 #[.agg cs, .int .i64 (d : Int)] w1 (fun e w' => ∃ q, e = .returned (.bool q) ∧ Below w1.heap.size w1 w') := by
  induction h with
  | @mk k i f s l A c xs css hn hr hx hxs ih =>
    intro d w1 hd hb1 hB1
    have hfin := (Below.refl w1.heap.size w1).alloc (Nat.le_refl _) (.cells #[.int .i64 k, .int .i64 i, .float .f64 f, .string (bstr s), .slice A l.length c] 26)
    by_cases hk4 : k = 4
    · subst hk4
      by_cases hd0 : d = 0
      · subst hd0
        go_enter Try.func28, Try.ntmps28
        go_wp2_with fail
        go_ret
        exact ⟨_, rfl, hfin⟩
      · have hd0' : ((d : Int) == 0) = false := by rw [beq_eq_false_iff_ne]; omega
        have hd1 : ((d : Int) - 1) = ((d - 1 : Nat) : Int) := by omega
        have hd2 : d - 1 ≤ 100 := by omega
        generalize d - 1 = d' at hd1 hd2
        have hb2 := hb1.trans (hfin.mono hB1)
        have hB2 := Nat.le_trans hB1 hfin.size
        replace ih := Lib.hid ih
        clear hd0
        go_enter Try.func28, Try.ntmps28
        go_wp2_with fail
        have hS := SV.alloc w1 (Below.refl _ _) 4 i f (bstr s) A l.length c
        generalize w1.alloc (.cells #[.int .i64 4, .int .i64 i, .float .f64 f, .string (bstr s), .slice A l.length c] 26) = w2 at *
        go_loopw [5] (fun i wr => ∃ j : Nat, j ≤ l.length ∧ i = .int .i64 (j : Int) ∧ Below w2.heap.size w2 wr) (fun i _ => l.length - (intOf i).toNat)
        case atStart => exact ⟨0, Nat.zero_le _, rfl, Below.refl _ _⟩
        case round =>
          rename_i hrel
          obtain ⟨j, hj, rfl, hb⟩ := hrel
          obtain ⟨e0, e1, e2, e3, e4, -, -⟩ := hS.below hb
          by_cases hlt : j < l.length
          · have hbb : Below B w wr := hb2.trans (hb.mono hB2)
            obtain ⟨ad, k', i', f', s', A', n', c', rfl, hform, hgk, g0, g1, g2, g3, g4⟩ := kid hr hx hxs hbb hlt
            have hcl := ih.out j l[j] hgk d' wr hd2 hbb (Nat.le_trans hB2 hb.size)
            rw [hform] at hcl
            clear hform hgk
            go_wp2_with fail
            refine hcl.mono ?_
            clear hcl
            rintro e w4 ⟨q, rfl, hb4⟩
            dsimp only
            have hb4' := below_then hb4 hb
            cases q
            · go_wp2_with fail
              go_roundw
              case rel => exact ⟨j + 1, by omega, by simp, by assumption⟩
              case measure => simp [intOf]; omega
            · go_wp2_with fail
              go_ret
              exact ⟨_, rfl, below_then hb4' hfin⟩
          · have hj' : j = l.length := by omega
            subst hj'
            go_wp2_with fail
            go_ret
            exact ⟨_, rfl, below_then hb hfin⟩
    · have k4 : (k != 4) = true := by rw [bne_iff_ne]; exact hk4
      go_enter Try.func28, Try.ntmps28
      go_wp2_with fail
      go_ret
      exact ⟨_, rfl, hfin⟩

set_option maxHeartbeats 1600000 in
theorem ref_size {w : World} {B : Nat} {v : Val} {cs : Array Value} (h : VReads w B v cs) : ∀ w1, Below B w w1 → B ≤ w1.heap.size → Calls Try.prog 14 #[.agg cs] w1 (Says w1 (.int .i64 (IntKind.i64.wrap (sizeV v : Int)))) := by
  induction h with
  | @mk k i f s l A c xs css hn hr hx hxs ih =>
    intro w1 hb1 hB1
    have hfin := (Below.refl w1.heap.size w1).alloc (Nat.le_refl _) (.cells #[.int .i64 k, .int .i64 i, .float .f64 f, .string (bstr s), .slice A l.length c] 26)
    have hbs : (bstr s).size = s.length := bstr_size s
    by_cases hk4 : k = 4
    · have hsv : sizeV (.mk k i f s l) = 2 + sizeL l := by rw [hk4]; rfl
      rw [hsv]
      subst hk4
      have hb2 := hb1.trans (hfin.mono hB1)
      have hB2 := Nat.le_trans hB1 hfin.size
      replace ih := Lib.hid ih
      go_enter Try.func14, Try.ntmps14
      go_wp2_with fail
      have hS := SV.alloc w1 (Below.refl _ _) 4 i f (bstr s) A l.length c
      generalize w1.alloc (.cells #[.int .i64 4, .int .i64 i, .float .f64 f, .string (bstr s), .slice A l.length c] 26) = w2 at *
      go_loopw [3, 4] (fun n i wr => ∃ j : Nat, ∃ z : Int, j ≤ l.length ∧ i = .int .i64 (j : Int) ∧ n = .int .i64 z ∧ z = IntKind.i64.wrap ((2 + sizeL (l.take j) : Nat) : Int) ∧ Below w2.heap.size w2 wr) (fun _ i _ => l.length - (intOf i).toNat)
      case atStart => exact ⟨0, 2, Nat.zero_le _, rfl, rfl, rfl, Below.refl _ _⟩
      case round =>
        rename_i hrel
        obtain ⟨j, z, hj, rfl, rfl, hz, hb⟩ := hrel
        replace hz := Lib.hid hz
        obtain ⟨e0, e1, e2, e3, e4, -, -⟩ := hS.below hb
        by_cases hlt : j < l.length
        · have hbb : Below B w wr := hb2.trans (hb.mono hB2)
          obtain ⟨ad, k', i', f', s', A', n', c', rfl, hform, hgk, g0, g1, g2, g3, g4⟩ := kid hr hx hxs hbb hlt
          have hss := sizeL_sum l j hlt
          have hcl := ih.out j l[j] hgk wr hbb (Nat.le_trans hB2 hb.size)
          obtain ⟨u, hu⟩ : ∃ u, IntKind.i64.wrap (sizeV l[j] : Int) = u := ⟨_, rfl⟩
          rw [hform, hu] at hcl
          obtain ⟨y, hy⟩ : ∃ y, IntKind.i64.wrap (z + u) = y := ⟨_, rfl⟩
          have hnext : y = IntKind.i64.wrap ((2 + sizeL (l.take (j + 1)) : Nat) : Int) := by
            rw [← hy, hz.out, ← hu, w64_add, hss]
            congr 1
            omega
          replace hnext := Lib.hid hnext
          clear hss hform hgk hu hz
          go_wp2_with fail
          refine hcl.mono ?_
          clear hcl
          rintro e w4 ⟨rfl, hb4⟩
          dsimp only
          have hb4' := below_then hb4 hb
          go_wp2_with fail
          go_roundw
          case rel => exact ⟨j + 1, y, by omega, by simp, rfl, hnext.out, by assumption⟩
          case measure => simp [intOf]; omega
        · have hj' : j = l.length := by omega
          subst hj'
          rw [List.take_length] at hz
          go_wp2_with fail
          go_ret
          exact ⟨by show Ending.returned (.int .i64 z) = _; rw [hz.out], below_then hb hfin⟩
    · by_cases h12 : k = 1 ∨ k = 2
      · have : sizeV (.mk k i f s l) = 9 := by unfold sizeV; rw [if_pos h12]
        rw [this]
        rcases h12 with rfl | rfl
        all_goals go_enter Try.func14, Try.ntmps14
        all_goals go_wp2
        all_goals go_ret
        all_goals exact ⟨rfl, hfin⟩
      by_cases h3 : k = 3
      · have hs3 : sizeV (.mk k i f s l) = 3 + s.length := by rw [h3]; rfl
        rw [hs3]
        subst h3
        obtain ⟨y, hy⟩ : ∃ y, IntKind.i64.wrap (3 + (s.length : Int)) = y := ⟨_, rfl⟩
        have e3 : IntKind.i64.wrap ((3 + s.length : Nat) : Int) = y := by rw [← hy]; congr 1
        rw [e3]
        clear h12 hk4 hs3 e3
        go_enter Try.func14, Try.ntmps14
        go_wp2_with fail
        go_ret
        exact ⟨rfl, hfin⟩
      · have hs1 : sizeV (.mk k i f s l) = 1 := by unfold sizeV; rw [if_neg h12, if_neg h3, if_neg hk4]
        rw [hs1]
        have k1 : (k == 1) = false := by rw [beq_eq_false_iff_ne]; omega
        have k2 : (k == 2) = false := by rw [beq_eq_false_iff_ne]; omega
        have k3 : (k == 3) = false := by rw [beq_eq_false_iff_ne]; omega
        have k4 : (k == 4) = false := by rw [beq_eq_false_iff_ne]; omega
        clear h12 hk4 hs1
        go_enter Try.func14, Try.ntmps14
        go_wp2
        go_ret
        exact ⟨rfl, hfin⟩
end Go.Proofs.Ytafogjonicdbmaa
