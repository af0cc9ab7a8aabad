/- Values: the document's answers; Clean, Same. -/
import Derived.Test.YtdbmffagibnibaaGreatDoorVals
import Derived.BigQuiet
set_option linter.unusedSimpArgs false
set_option linter.unusedVariables false
namespace Go.Proofs.YtdbmffagibnibaaGreatDoor
set_option maxRecDepth 100000
open Go.RowKit
theorem w64_add (a b : Int) : IntKind.i64.wrap (IntKind.i64.wrap a + IntKind.i64.wrap b) = IntKind.i64.wrap (a + b) := by
  simp only [IntKind.wrap, IntKind.bits, IntKind.signed]
  simp
  omega
theorem w64_id (a : Int) (h0 : -1000000000000000000 ≤ a) (h1 : a ≤ 1000000000000000000) : IntKind.i64.wrap a = a := by
  simp only [IntKind.wrap, IntKind.bits, IntKind.signed]
  simp
  omega
/-- A list's item, as a walk finds it. -/
theorem kid {w wr : World} {B : Nat} {l : List Val} {A : Option Addr} {xs : List Value} {css : Nat → Array Value} (hr : Reads w B 5 A l.length xs) (hx : ∀ (j : Nat) (v : Val), l[j]? = some v → VReads w B v (css j)) (hxs : ∀ j, j < l.length → (xs.drop (j * 5)).take 5 = (css j).toList) (hb : Below B w wr) {j : Nat} (hlt : j < l.length) :
    ∃ ad k i f s A' n c, A = some ad ∧ css j = #[.int .i64 k, .int .i64 i, .float .f64 f, .string s, .slice A' n c] ∧ l[j]? = some l[j] ∧ wr.cell? (ad.add (j * 5)) = some (.int .i64 k) ∧ wr.cell? ⟨(ad.add (j * 5)).block, (ad.add (j * 5)).off + 1, none⟩ = some (.int .i64 i) ∧ wr.cell? ⟨(ad.add (j * 5)).block, (ad.add (j * 5)).off + 2, none⟩ = some (.float .f64 f) ∧ wr.cell? ⟨(ad.add (j * 5)).block, (ad.add (j * 5)).off + 3, none⟩ = some (.string s) ∧ wr.cell? ⟨(ad.add (j * 5)).block, (ad.add (j * 5)).off + 4, none⟩ = some (.slice A' n c) := by
  obtain ⟨ad, rfl, -, -⟩ := hr.2 (by omega)
  have hgk : l[j]? = some l[j] := List.getElem?_eq_getElem hlt
  obtain ⟨k', i', f', s', A', n', c', hform⟩ := (hx j l[j] hgk).form
  have hc5 := hxs j hlt
  rw [hform] at hc5
  obtain ⟨g0, g1, g2, g3, g4⟩ := elem_cells (hr.below hb) hlt hc5
  exact ⟨ad, k', i', f', s', A', n', c', rfl, hform, hgk, g0, g1, g2, g3, g4⟩
set_option maxHeartbeats 800000 in
theorem ref_deep {w : World} {B : Nat} {v : Val} {cs : Array Value} (h : VReads w B v cs) : ∀ (d : Nat) (w1 : World), d ≤ 100 → Below B w w1 → B ≤ w1.heap.size → Calls Tryz.prog 29 #[.agg cs, .int .i64 (d : Int)] w1 (fun e w' => ∃ q, e = .returned (.bool q) ∧ Below w1.heap.size w1 w') := by
  induction h with
  | @mk k i f s l A c xs css hn hr hx hxs ih =>
    intro d w1 hd hb1 hB1
    have hfin := (Below.refl w1.heap.size w1).alloc (Nat.le_refl _) (.cells #[.int .i64 k, .int .i64 i, .float .f64 f, .string (bstr s), .slice A l.length c] 25)
    by_cases hk4 : k = 4
    · subst hk4
      by_cases hd0 : d = 0
      · subst hd0
        go_enter Tryz.func29, Tryz.ntmps29
        go_wp2_with fail
        go_ret
        exact ⟨_, rfl, hfin⟩
      · have hd0' : ((d : Int) == 0) = false := by rw [beq_eq_false_iff_ne]; omega
        have hd1 : ((d : Int) - 1) = ((d - 1 : Nat) : Int) := by omega
        have hd2 : d - 1 ≤ 100 := by omega
        generalize d - 1 = d' at hd1 hd2
        have hb2 := hb1.trans (hfin.mono hB1)
        have hB2 := Nat.le_trans hB1 hfin.size
        replace ih := Lib.hid ih
        clear hd0
        go_enter Tryz.func29, Tryz.ntmps29
        go_wp2_with fail
        have hS := SV.alloc w1 (Below.refl _ _) 4 i f (bstr s) A l.length c
        generalize w1.alloc (.cells #[.int .i64 4, .int .i64 i, .float .f64 f, .string (bstr s), .slice A l.length c] 25) = w2 at *
        go_loopw [5] (fun i wr => ∃ j : Nat, j ≤ l.length ∧ i = .int .i64 (j : Int) ∧ Below w2.heap.size w2 wr) (fun i _ => l.length - (intOf i).toNat)
        case atStart => exact ⟨0, Nat.zero_le _, rfl, Below.refl _ _⟩
        case round =>
          rename_i hrel
          obtain ⟨j, hj, rfl, hb⟩ := hrel
          obtain ⟨e0, e1, e2, e3, e4, -, -⟩ := hS.below hb
          by_cases hlt : j < l.length
          · have hbb : Below B w wr := hb2.trans (hb.mono hB2)
            obtain ⟨ad, k', i', f', s', A', n', c', rfl, hform, hgk, g0, g1, g2, g3, g4⟩ := kid hr hx hxs hbb hlt
            have hcl := ih.out j l[j] hgk d' wr hd2 hbb (Nat.le_trans hB2 hb.size)
            rw [hform] at hcl
            clear hform hgk
            go_wp2_with fail
            refine hcl.mono ?_
            clear hcl
            rintro e w4 ⟨q, rfl, hb4⟩
            dsimp only
            have hb4' := below_then hb4 hb
            cases q
            · go_wp2_with fail
              go_roundw
              case rel => exact ⟨j + 1, by omega, by simp, by assumption⟩
              case measure => simp [intOf]; omega
            · go_wp2_with fail
              go_ret
              exact ⟨_, rfl, below_then hb4' hfin⟩
          · have hj' : j = l.length := by omega
            subst hj'
            go_wp2_with fail
            go_ret
            exact ⟨_, rfl, below_then hb hfin⟩
    · have k4 : (k != 4) = true := by rw [bne_iff_ne]; exact hk4
      go_enter Tryz.func29, Tryz.ntmps29
      go_wp2_with fail
      go_ret
      exact ⟨_, rfl, hfin⟩
set_option maxHeartbeats 1600000 in
theorem ref_size {w : World} {B : Nat} {v : Val} {cs : Array Value} (h : VReads w B v cs) : ∀ w1, Below B w w1 → B ≤ w1.heap.size → Calls Tryz.prog 19 #[.agg cs] w1 (Says w1 (.int .i64 (IntKind.i64.wrap (sizeV v : Int)))) := by
  induction h with
  | @mk k i f s l A c xs css hn hr hx hxs ih =>
    intro w1 hb1 hB1
    have hfin := (Below.refl w1.heap.size w1).alloc (Nat.le_refl _) (.cells #[.int .i64 k, .int .i64 i, .float .f64 f, .string (bstr s), .slice A l.length c] 25)
    have hbs : (bstr s).size = s.length := bstr_size s
    by_cases hk4 : k = 4
    · have hsv : sizeV (.mk k i f s l) = 2 + sizeL l := by rw [hk4]; rfl
      rw [hsv]
      subst hk4
      have hb2 := hb1.trans (hfin.mono hB1)
      have hB2 := Nat.le_trans hB1 hfin.size
      replace ih := Lib.hid ih
      go_enter Tryz.func19, Tryz.ntmps19
      go_wp2_with fail
      have hS := SV.alloc w1 (Below.refl _ _) 4 i f (bstr s) A l.length c
      generalize w1.alloc (.cells #[.int .i64 4, .int .i64 i, .float .f64 f, .string (bstr s), .slice A l.length c] 25) = w2 at *
      go_loopw [3, 4] (fun n i wr => ∃ j : Nat, ∃ z : Int, j ≤ l.length ∧ i = .int .i64 (j : Int) ∧ n = .int .i64 z ∧ z = IntKind.i64.wrap ((2 + sizeL (l.take j) : Nat) : Int) ∧ Below w2.heap.size w2 wr) (fun _ i _ => l.length - (intOf i).toNat)
      case atStart => exact ⟨0, 2, Nat.zero_le _, rfl, rfl, rfl, Below.refl _ _⟩
      case round =>
        rename_i hrel
        obtain ⟨j, z, hj, rfl, rfl, hz, hb⟩ := hrel
        replace hz := Lib.hid hz
        obtain ⟨e0, e1, e2, e3, e4, -, -⟩ := hS.below hb
        by_cases hlt : j < l.length
        · have hbb : Below B w wr := hb2.trans (hb.mono hB2)
          obtain ⟨ad, k', i', f', s', A', n', c', rfl, hform, hgk, g0, g1, g2, g3, g4⟩ := kid hr hx hxs hbb hlt
          have hss := sizeL_sum l j hlt
          have hcl := ih.out j l[j] hgk wr hbb (Nat.le_trans hB2 hb.size)
          obtain ⟨u, hu⟩ : ∃ u, IntKind.i64.wrap (sizeV l[j] : Int) = u := ⟨_, rfl⟩
          rw [hform, hu] at hcl
          obtain ⟨y, hy⟩ : ∃ y, IntKind.i64.wrap (z + u) = y := ⟨_, rfl⟩
          have hnext : y = IntKind.i64.wrap ((2 + sizeL (l.take (j + 1)) : Nat) : Int) := by
            rw [← hy, hz.out, ← hu, w64_add, hss]
            congr 1
            omega
          replace hnext := Lib.hid hnext
          clear hss hform hgk hu hz
          go_wp2_with fail
          refine hcl.mono ?_
          clear hcl
          rintro e w4 ⟨rfl, hb4⟩
          dsimp only
          have hb4' := below_then hb4 hb
          go_wp2_with fail
          go_roundw
          case rel => exact ⟨j + 1, y, by omega, by simp, rfl, hnext.out, by assumption⟩
          case measure => simp [intOf]; omega
        · have hj' : j = l.length := by omega
          subst hj'
          rw [List.take_length] at hz
          go_wp2_with fail
          go_ret
          exact ⟨by show Ending.returned (.int .i64 z) = _; rw [hz.out], below_then hb hfin⟩
    · by_cases h12 : k = 1 ∨ k = 2
      · have : sizeV (.mk k i f s l) = 9 := by unfold sizeV; rw [if_pos h12]
        rw [this]
        rcases h12 with rfl | rfl
        all_goals go_enter Tryz.func19, Tryz.ntmps19
        all_goals go_wp2
        all_goals go_ret
        all_goals exact ⟨rfl, hfin⟩
      by_cases h3 : k = 3
      · have hs3 : sizeV (.mk k i f s l) = 3 + s.length := by rw [h3]; rfl
        rw [hs3]
        subst h3
        obtain ⟨y, hy⟩ : ∃ y, IntKind.i64.wrap (3 + (s.length : Int)) = y := ⟨_, rfl⟩
        have e3 : IntKind.i64.wrap ((3 + s.length : Nat) : Int) = y := by rw [← hy]; congr 1
        rw [e3]
        clear h12 hk4 hs3 e3
        go_enter Tryz.func19, Tryz.ntmps19
        go_wp2_with fail
        go_ret
        exact ⟨rfl, hfin⟩
      · have hs1 : sizeV (.mk k i f s l) = 1 := by unfold sizeV; rw [if_neg h12, if_neg h3, if_neg hk4]
        rw [hs1]
        have k1 : (k == 1) = false := by rw [beq_eq_false_iff_ne]; omega
        have k2 : (k == 2) = false := by rw [beq_eq_false_iff_ne]; omega
        have k3 : (k == 3) = false := by rw [beq_eq_false_iff_ne]; omega
        have k4 : (k == 4) = false := by rw [beq_eq_false_iff_ne]; omega
        clear h12 hk4 hs1
        go_enter Tryz.func19, Tryz.ntmps19
        go_wp2
        go_ret
        exact ⟨rfl, hfin⟩
end Go.Proofs.YtdbmffagibnibaaGreatDoor
namespace Go.Proofs.YtdbmffagibnibaaGreatDoor
set_option maxRecDepth 100000
open Go.RowKit
theorem any_next {l : List Val} {p : Val → Bool} {j : Nat} (hlt : j < l.length) (h : (l.take j).any p = false) (hp : p l[j] = false) : (l.take (j + 1)).any p = false := by
  rw [List.take_succ_eq_append_getElem hlt, List.any_append, h]
  simpa using hp
theorem any_here {l : List Val} {p : Val → Bool} {j : Nat} (hlt : j < l.length) (hp : p l[j] = true) : l.any p = true := List.any_eq_true.2 ⟨l[j], List.getElem_mem hlt, hp⟩
end Go.Proofs.YtdbmffagibnibaaGreatDoor
namespace Go.Proofs.YtdbmffagibnibaaGreatDoor
set_option maxRecDepth 100000
open Go.RowKit
mutual
theorem great_size : ∀ (v : Val) (d : Nat), greatV v (d : Int) = false → sizeV v ≤ 300 * 65 ^ d
  | .mk k i f s l, d, h => by
    have hp : 1 ≤ 65 ^ d := Nat.pow_pos (by omega)
    unfold greatV at h
    unfold sizeV
    by_cases h12 : k = 1 ∨ k = 2
    · rw [if_pos h12]; omega
    rw [if_neg h12]
    by_cases h3 : k = 3
    · rw [if_pos h3] at h ⊢
      have : ¬ 256 < s.length := by simpa using h
      omega
    rw [if_neg h3] at h ⊢
    by_cases h4 : k = 4
    · rw [if_pos h4] at h ⊢
      simp only [Bool.or_eq_false_iff, decide_eq_false_iff_not] at h
      obtain ⟨⟨h64, hd⟩, hl⟩ := h
      obtain ⟨e, rfl⟩ : ∃ e, d = e + 1 := ⟨d - 1, by omega⟩
      have hl' : greatL l (e : Int) = false := by rw [← hl]; congr 1; omega
      have := great_sizeL l e hl'
      have hq : 1 ≤ 65 ^ e := Nat.pow_pos (by omega)
      have hm : l.length * (300 * 65 ^ e) ≤ 64 * (300 * 65 ^ e) := Nat.mul_le_mul_right _ (by omega)
      rw [Nat.pow_succ]
      omega
    · rw [if_neg h4]; omega
theorem great_sizeL : ∀ (l : List Val) (d : Nat), greatL l (d : Int) = false → sizeL l ≤ l.length * (300 * 65 ^ d)
  | [], d, _ => Nat.zero_le _
  | v :: l, d, h => by
    have h := Bool.or_eq_false_iff.1 (show (greatV v (d : Int) || greatL l (d : Int)) = false from h)
    have h1 := great_size v d h.1
    have h2 := great_sizeL l d h.2
    show sizeV v + sizeL l ≤ (l.length + 1) * (300 * 65 ^ d)
    rw [Nat.succ_mul]
    omega
end
theorem great_w64 {v : Val} (h : greatV v 8 = false) : IntKind.i64.wrap (sizeV v : Int) = (sizeV v : Int) := by
  have := great_size v 8 h
  have e : (65 : Nat) ^ 8 = 318644812890625 := by decide
  rw [e] at this
  exact w64_id _ (by omega) (by omega)
theorem nat_hid_lt (a : Nat) : (0 : Int) ≤ a := Int.natCast_nonneg a
set_option maxHeartbeats 1600000 in
theorem val_size_any {w : World} {B : Nat} {v : Val} {cs : Array Value} (h : VReads w B v cs) : ∀ w1, Below B w w1 → B ≤ w1.heap.size → Calls Tryz.prog 18 #[.agg cs] w1 (Says w1 (.int .i64 (IntKind.i64.wrap (sizeV v : Int)))) := by
  induction h with
  | @mk k i f s l A c xs css hn hr hx hxs ih =>
    intro w1 hb1 hB1
    have hfin := (Below.refl w1.heap.size w1).alloc (Nat.le_refl _) (.cells #[.int .i64 k, .int .i64 i, .float .f64 f, .string (bstr s), .slice A l.length c] 25)
    have hbs : (bstr s).size = s.length := bstr_size s
    by_cases hk4 : k = 4
    · have hsv : sizeV (.mk k i f s l) = 2 + sizeL l := by rw [hk4]; rfl
      rw [hsv]
      subst hk4
      have hb2 := hb1.trans (hfin.mono hB1)
      have hB2 := Nat.le_trans hB1 hfin.size
      replace ih := Lib.hid ih
      go_enter Tryz.func18, Tryz.ntmps18
      go_wp2_with fail
      generalize w1.alloc (.cells #[.int .i64 4, .int .i64 i, .float .f64 f, .string (bstr s), .slice A l.length c] 25) = w2 at *
      go_loopw [3, 28] (fun n i wr => ∃ j : Nat, ∃ z : Int, j ≤ l.length ∧ i = .int .i64 (j : Int) ∧ n = .int .i64 z ∧ z = IntKind.i64.wrap ((2 + sizeL (l.take j) : Nat) : Int) ∧ Below w2.heap.size w2 wr) (fun _ i _ => l.length - (intOf i).toNat)
      case atStart => exact ⟨0, 2, Nat.zero_le _, rfl, rfl, rfl, Below.refl _ _⟩
      case round =>
        rename_i hrel
        obtain ⟨j, z, hj, rfl, rfl, hz, hb⟩ := hrel
        replace hz := Lib.hid hz
        by_cases hlt : j < l.length
        · have hbb : Below B w wr := hb2.trans (hb.mono hB2)
          obtain ⟨ad, k', i', f', s', A', n', c', rfl, hform, hgk, g0, g1, g2, g3, g4⟩ := kid hr hx hxs hbb hlt
          have hss := sizeL_sum l j hlt
          have hfin3 := (Below.refl wr.heap.size wr).alloc (Nat.le_refl _) (.cells #[.int .i64 k', .int .i64 i', .float .f64 f', .string s', .slice A' n' c'] 25)
          have hcl := ih.out j l[j] hgk _ (hbb.trans (hfin3.mono (Nat.le_trans hB2 hb.size))) (Nat.le_trans (Nat.le_trans hB2 hb.size) hfin3.size)
          obtain ⟨u, hu⟩ : ∃ u, IntKind.i64.wrap (sizeV l[j] : Int) = u := ⟨_, rfl⟩
          rw [hform, hu] at hcl
          obtain ⟨y, hy⟩ : ∃ y, IntKind.i64.wrap (z + u) = y := ⟨_, rfl⟩
          have hnext : y = IntKind.i64.wrap ((2 + sizeL (l.take (j + 1)) : Nat) : Int) := by
            rw [← hy, hz.out, ← hu, w64_add, hss]
            congr 1
            omega
          have hb3 := hb.trans (hfin3.mono hb.size)
          replace hnext := Lib.hid hnext
          replace hfin3 := Lib.hid hfin3
          clear hss hform hgk hu hz
          have hsf := fun a k x m w => run_store_float (P := Tryz.prog) a k x m w
          go_wp2_with fail
          refine hcl.mono ?_
          clear hcl
          rintro e w4 ⟨rfl, hb4⟩
          dsimp only
          have hb4' := below_then hb4 hb3
          go_wp2_with fail
          go_roundw
          case rel => exact ⟨j + 1, y, by omega, by simp, rfl, hnext.out, by assumption⟩
          case measure => simp [intOf]; omega
        · have hj' : j = l.length := by omega
          subst hj'
          rw [List.take_length] at hz
          go_wp2_with fail
          go_ret
          exact ⟨by show Ending.returned (.int .i64 z) = _; rw [hz.out], below_then hb hfin⟩
    · by_cases h12 : k = 1 ∨ k = 2
      · have : sizeV (.mk k i f s l) = 9 := by unfold sizeV; rw [if_pos h12]
        rw [this]
        exact val_size_num k i f (bstr s) A l.length c w1 h12
      by_cases h3 : k = 3
      · have hs3 : sizeV (.mk k i f s l) = 3 + s.length := by rw [h3]; rfl
        rw [hs3]
        subst h3
        obtain ⟨x, hx2⟩ : ∃ x, IntKind.i64.wrap (2 + (s.length : Int)) = x := ⟨_, rfl⟩
        obtain ⟨y, hy⟩ : ∃ y, IntKind.i64.wrap (1 + x) = y := ⟨_, rfl⟩
        have e3 : IntKind.i64.wrap ((3 + s.length : Nat) : Int) = y := by
          rw [← hy, ← hx2]
          have := w64_add 1 (2 + (s.length : Int))
          rw [show IntKind.i64.wrap 1 = 1 from by decide] at this
          rw [this]
          congr 1
          omega
        rw [e3]
        clear h12 hk4 hs3 e3
        go_enter Tryz.func18, Tryz.ntmps18
        go_wp2_with fail
        go_ret
        exact ⟨rfl, hfin⟩
      · have hs1 : sizeV (.mk k i f s l) = 1 := by unfold sizeV; rw [if_neg h12, if_neg h3, if_neg hk4]
        rw [hs1]
        have k1 : (k == 1) = false := by rw [beq_eq_false_iff_ne]; omega
        have k2 : (k == 2) = false := by rw [beq_eq_false_iff_ne]; omega
        have k3 : (k == 3) = false := by rw [beq_eq_false_iff_ne]; omega
        have k4 : (k == 4) = false := by rw [beq_eq_false_iff_ne]; omega
        clear h12 hk4 hs1
        go_enter Tryz.func18, Tryz.ntmps18
        go_wp2
        go_ret
        exact ⟨rfl, hfin⟩
/-- What a Check says of what kinds, great and Size say. -/
theorem checkV_cases (v : Val) : (strangeV v = true ∧ checkV v = 31) ∨ (strangeV v = false ∧ greatV v 8 = true ∧ checkV v = 22) ∨ (strangeV v = false ∧ greatV v 8 = false ∧ 4096 < sizeV v ∧ checkV v = 22) ∨ (strangeV v = false ∧ greatV v 8 = false ∧ sizeV v ≤ 4096 ∧ checkV v = 0) := by
  unfold checkV
  cases strangeV v
  · cases greatV v 8
    · by_cases h : 4096 < sizeV v
      · exact .inr (.inr (.inl ⟨rfl, rfl, h, by simp [h]⟩))
      · exact .inr (.inr (.inr ⟨rfl, rfl, by omega, by simp [h]⟩))
    · exact .inr (.inl ⟨rfl, rfl, rfl⟩)
  · exact .inl ⟨rfl, rfl⟩
set_option maxHeartbeats 800000 in
theorem val_check_any {w : World} {B : Nat} {v : Val} {cs : Array Value} (h : VReads w B v cs) (w1 : World) (hb1 : Below B w w1) (hB1 : B ≤ w1.heap.size) :
    Calls Tryz.prog 17 #[.agg cs] w1 (Says w1 (.int .i64 (checkV v : Int))) := by
  have hst := fun w2 (hb : Below w1.heap.size w1 w2) => val_strange h w2 (hb1.trans (hb.mono hB1)) (Nat.le_trans hB1 hb.size)
  have hgr := fun w2 (hb : Below w1.heap.size w1 w2) => val_great h 8 w2 (by omega) (by omega) (hb1.trans (hb.mono hB1)) (Nat.le_trans hB1 hb.size)
  have hsi := fun w2 (hb : Below w1.heap.size w1 w2) => val_size_any h w2 (hb1.trans (hb.mono hB1)) (Nat.le_trans hB1 hb.size)
  have hc := checkV_cases v
  have hw := @great_w64 v
  obtain ⟨k, i, f, s, A, n, c, hform⟩ := h.form
  rw [hform] at hst hgr hsi ⊢
  generalize strangeV v = b1 at *
  generalize greatV v 8 = b2 at *
  generalize checkV v = r at *
  generalize sizeV v = z at *
  obtain ⟨y, hy⟩ : ∃ y, IntKind.i64.wrap (z : Int) = y := ⟨_, rfl⟩
  rw [hy] at hsi hw
  replace hst := Lib.hid hst
  replace hgr := Lib.hid hgr
  replace hsi := Lib.hid hsi
  clear hform h hb1 hB1 hy
  have hS := SV.alloc w1 (Below.refl _ _) k i f s A n c
  go_enter Tryz.func17, Tryz.ntmps17
  go_wp2_with fail
  generalize w1.alloc (.cells #[.int .i64 k, .int .i64 i, .float .f64 f, .string s, .slice A n c] 25) = w2 at hS ⊢
  generalize hb : w1.heap.size = b at hS ⊢
  replace hb := Lib.hid hb
  refine (hst.out w2 hS.2.2.2.2.2.1).mono ?_
  rintro e w3 ⟨rfl, hb3⟩
  dsimp only
  have hS3 : SV b k i f s A n c w1 w3 := hS.below hb3
  obtain ⟨e0, e1, e2, e3, e4, e5, e6⟩ := id hS3
  rcases hc with ⟨rfl, rfl⟩ | ⟨rfl, rfl, rfl⟩ | ⟨rfl, rfl, hz, rfl⟩ | ⟨rfl, rfl, hz, rfl⟩
  · go_wp2_with fail
    go_ret
    exact ⟨rfl, e5⟩
  · go_wp2_with fail
    refine (hgr.out w3 e5).mono ?_
    rintro e w4 ⟨rfl, hb4⟩
    dsimp only
    have hb4' := below_then hb4 e5
    clear e0 e1 e2 e3 e4 e5 e6
    go_wp2_with fail
    go_ret
    exact ⟨rfl, hb4'⟩
  all_goals
    have hy := hw rfl
    subst hy
    go_wp2_with fail
    refine (hgr.out w3 e5).mono ?_
    rintro e w4 ⟨rfl, hb4⟩
    dsimp only
    have hS4 : SV b k i f s A n c w1 w4 := hS3.below hb4
    clear e0 e1 e2 e3 e4 e5 e6
    obtain ⟨e0, e1, e2, e3, e4, e5, e6⟩ := id hS4
    go_wp2_with fail
    refine (hsi.out w4 e5).mono ?_
    rintro e w5 ⟨rfl, hb5⟩
    dsimp only
    have hb5' := below_then hb5 e5
  · have hzi : (4096 : Int) < (z : Int) := by omega
    go_wp2_with fail
    go_ret
    exact ⟨rfl, hb5'⟩
  · have hzi : (z : Int) ≤ 4096 := by omega
    go_wp2_with fail
    go_ret
    exact ⟨rfl, hb5'⟩
theorem light_any {w : World} {B : Nat} {v : Val} {cs : Array Value} (h : VReads w B v cs) (w1 : World) (hb1 : Below B w w1) (hB1 : B ≤ w1.heap.size) :
    Calls Tryz.prog 10 #[.agg cs] w1 (fun e w' => ∃ q, e = .returned (.bool q) ∧ Below w1.heap.size w1 w') := by
  have hst := fun w2 (hb : Below w1.heap.size w1 w2) => ref_deep h 20 w2 (by omega) (hb1.trans (hb.mono hB1)) (Nat.le_trans hB1 hb.size)
  have hsi := fun w2 (hb : Below w1.heap.size w1 w2) => ref_size h w2 (hb1.trans (hb.mono hB1)) (Nat.le_trans hB1 hb.size)
  obtain ⟨k, i, f, s, A, n, c, hform⟩ := h.form
  rw [hform] at hst hsi ⊢
  obtain ⟨y, hy⟩ : ∃ y, IntKind.i64.wrap (sizeV v : Int) = y := ⟨_, rfl⟩
  rw [hy] at hsi
  replace hst := Lib.hid hst
  replace hsi := Lib.hid hsi
  clear hform h hb1 hB1 hy
  have hS := SV.alloc w1 (Below.refl _ _) k i f s A n c
  go_enter Tryz.func10, Tryz.ntmps10
  go_wp2_with fail
  generalize w1.alloc (.cells #[.int .i64 k, .int .i64 i, .float .f64 f, .string s, .slice A n c] 25) = w2 at hS ⊢
  generalize hb : w1.heap.size = b at hS ⊢
  replace hb := Lib.hid hb
  refine (hst.out w2 hS.2.2.2.2.2.1).mono ?_
  rintro e w3 ⟨q, rfl, hb3⟩
  dsimp only
  have hS3 : SV b k i f s A n c w1 w3 := hS.below hb3
  obtain ⟨e0, e1, e2, e3, e4, e5, e6⟩ := id hS3
  cases q
  · go_wp2_with fail
    refine (hsi.out w3 e5).mono ?_
    rintro e w4 ⟨rfl, hb4⟩
    dsimp only
    have hb4' := below_then hb4 e5
    go_wp2_with fail
    go_ret
    exact ⟨_, rfl, hb4'⟩
  · go_wp2_with fail
    go_ret
    exact ⟨_, rfl, e5⟩
end Go.Proofs.YtdbmffagibnibaaGreatDoor
namespace Go.Proofs.YtdbmffagibnibaaGreatDoor
set_option maxRecDepth 100000
open Go.RowKit
def SaysTrue (w : World) (e : Ending) (w' : World) : Prop := e = .returned (.bool true) ∧ Below w.heap.size w w'
theorem int_ref (n : Int) (w : World) : Calls Tryz.prog 23 #[.int .i64 n] w (Says w (.agg #[.int .i64 1, .int .i64 n, .float .f64 0, .string ⟨#[]⟩, .slice none 0 0])) := by
  have hsf := fun a k x m w => run_store_float (P := Tryz.prog) a k x m w
  go_enter Tryz.func23, Tryz.ntmps23
  go_wp2_with fail
  have hb := Blk.new w 25 #[.int .i64 1, .int .i64 n, .float .f64 0, .string ⟨#[]⟩, .slice none 0 0]
  refine bodyPost_ret ?hr rfl ⟨rfl, (Below.refl _ w).alloc (Nat.le_refl _) _⟩
  case hr => exact results_cell_row rfl _ _ w.heap.size 25 _ (0, 0) _ rfl hb Tryz.underlying25 rfl (by kernel_rfl)
end Go.Proofs.YtdbmffagibnibaaGreatDoor
namespace Go.Proofs.YtdbmffagibnibaaGreatDoor
set_option maxRecDepth 100000
open Go.RowKit
mutual
def cleanV : Val → Val
  | .mk k i f s l => if k = 1 then .mk 1 i 0 [] [] else if k = 2 then .mk 2 0 (cb f) [] [] else if k = 3 then .mk 3 0 0 s [] else if k = 4 then .mk 4 0 0 [] (cleanL l) else .mk 0 0 0 [] []
def cleanL : List Val → List Val
  | [] => []
  | v :: l => cleanV v :: cleanL l
end
theorem cleanL_map (l : List Val) : cleanL l = l.map cleanV := by
  induction l with
  | nil => rfl
  | cons v l ih => simp [cleanL, ih]
theorem ref_canon (x : Nat) (w : World) : Calls Tryz.prog 28 #[.float .f64 x] w fun e w' => e = .returned (.float .f64 (cb x)) ∧ w = w' := by
  have ho := order_self x
  have hcan : ∀ w, (callFunc 51 #[.int .u64 9221120237041090561]).run Tryz.prog w = .ok (.value (.float .f64 9221120237041090561)) w := fun w => run_frombits 9221120237041090561 w
  by_cases h : nanB x = true
  · rw [h] at ho
    have hc : cb x = 9221120237041090561 := by unfold cb; rw [if_pos h]
    rw [hc]
    clear h hc
    go_enter Tryz.func28, Tryz.ntmps28
    go_wp2
    go_ret
    exact ⟨rfl, rfl⟩
  · rw [Bool.not_eq_true] at h
    rw [h] at ho
    have hc : cb x = x := by unfold cb; rw [h]; rfl
    rw [hc]
    clear h hc
    go_enter Tryz.func28, Tryz.ntmps28
    go_wp2
    go_ret
    exact ⟨rfl, rfl⟩
theorem ref_bits (x : Nat) (w : World) : Calls Tryz.prog 14 #[.float .f64 x] w fun e w' => e = .returned (.int .u64 (cb x : Int)) ∧ w = w' := by
  obtain ⟨y, hy⟩ : ∃ y, cb x = y := ⟨_, rfl⟩
  have hc := ref_canon x w
  have hb := fun w => run_bits y w
  rw [hy] at hc ⊢
  clear hy
  go_enter Tryz.func14, Tryz.ntmps14
  go_wp2_with fail
  refine hc.mono ?_
  rintro e w2 ⟨rfl, rfl⟩
  dsimp only
  go_wp2_with fail
  go_ret
  exact ⟨rfl, rfl⟩
theorem text_ref (s : ByteArray) (w : World) : Calls Tryz.prog 15 #[.string s] w (Says w (.agg #[.int .i64 3, .int .i64 0, .float .f64 0, .string s, .slice none 0 0])) := by
  have hsf := fun a k x m w => run_store_float (P := Tryz.prog) a k x m w
  go_enter Tryz.func15, Tryz.ntmps15
  go_wp2_with fail
  have hb := Blk.new w 25 #[.int .i64 3, .int .i64 0, .float .f64 0, .string s, .slice none 0 0]
  refine bodyPost_ret ?hr rfl ⟨rfl, (Below.refl _ w).alloc (Nat.le_refl _) _⟩
  case hr => exact results_cell_row rfl _ _ w.heap.size 25 _ (0, 0) _ rfl hb Tryz.underlying25 rfl (by kernel_rfl)
theorem float_ref (x : Nat) (w : World) : Calls Tryz.prog 12 #[.float .f64 x] w (Says w (.agg #[.int .i64 2, .int .i64 0, .float .f64 (cb x), .string ⟨#[]⟩, .slice none 0 0])) := by
  have hsf := fun a k x m w => run_store_float (P := Tryz.prog) a k x m w
  obtain ⟨y, hy⟩ : ∃ y, cb x = y := ⟨_, rfl⟩
  have hc := fun w => ref_canon x w
  rw [hy] at hc ⊢
  clear hy
  go_enter Tryz.func12, Tryz.ntmps12
  go_wp2_with fail
  refine (hc _).mono ?_
  rintro e w2 ⟨rfl, rfl⟩
  dsimp only
  go_wp2_with fail
  have hb := Blk.new w 25 #[.int .i64 2, .int .i64 0, .float .f64 y, .string ⟨#[]⟩, .slice none 0 0]
  refine bodyPost_ret ?hr rfl ⟨rfl, (Below.refl _ w).alloc (Nat.le_refl _) _⟩
  case hr => exact results_cell_row rfl _ _ w.heap.size 25 _ (0, 0) _ rfl hb Tryz.underlying25 rfl (by kernel_rfl)
/-- A row of values that a walk fills, one behind another. -/
structure VRow (w : World) (b : Nat) (l : List Val) (A : Option Addr) (c : Nat) (xs : List Value) (css : Nat → Array Value) : Prop where
  ho : Own w 25 5 A l.length c xs
  hA : ∀ g, bOf A = some g → b ≤ g
  hx : ∀ k v, l[k]? = some v → VOwn w (fun g => b ≤ g ∧ some g ≠ bOf A) v (css k)
  hxs : ∀ k, k < l.length → (xs.drop (k * 5)).take 5 = (css k).toList
theorem VRow.nil (w : World) (b : Nat) : VRow w b [] none 0 [] (fun _ => #[]) := ⟨Own.none_, by simp [bOf], by simp, by simp⟩
/-- A value that a call made, appended. -/
theorem VRow.push {w w6 w7 w8 : World} {b c c8 : Nat} {l : List Val} {A A8 : Option Addr} {xs : List Value} {css : Nat → Array Value} {v : Val} {cs : Array Value} {T : Nat → Prop} (R : VRow w b l A c xs css) (hb : b ≤ w.heap.size)
    (hu6 : Upd T w w6) (hT : ∀ g, T g → g < b) (hv : VOwn w6 (fun g => w.heap.size ≤ g) v cs) (h7 : ∃ o, w7 = w6.alloc o) (ho8 : Own w8 25 5 A8 (l.length + 1) c8 (xs ++ cs.toList)) (hg8 : w7.grownBy w8 (bOf A)) (hat8 : bOf A8 = bOf A ∨ bOf A8 = some w7.heap.size) :
    VRow w8 b (l ++ [v]) A8 c8 (xs ++ cs.toList) (fun k => if k = l.length then cs else css k) := by
  obtain ⟨o, rfl⟩ := h7
  have hAl : ∀ g, bOf A = some g → g < w.heap.size := fun g hg => R.ho.lt hg
  have hw6 : w.heap.size ≤ w6.heap.size := hu6.size
  have hw7 : (w6.alloc o).heap.size = w6.heap.size + 1 := by simp
  have hA8 : ∀ g, bOf A8 = some g → b ≤ g := by
    rcases hat8 with e | e
    · rw [e]; exact R.hA
    · intro g hg
      rw [e, hw7] at hg
      cases hg
      omega
  have hfresh : ∀ g, g < w6.heap.size → some g ≠ bOf A → some g ≠ bOf A8 := by
    intro g hg hne
    rcases hat8 with e | e
    · rw [e]; exact hne
    · rw [e, hw7]
      intro e2
      cases e2
      omega
  have hu8 : Upd (fun x => T x ∨ some x = bOf A) w w8 := (((hu6.mono (T := fun x => T x ∨ some x = bOf A) (fun _ _ h => .inl h))).alloc o).grown hg8 (fun k e _ => .inr e.symm)
  have hu68 : Upd (fun x => some x = bOf A) w6 w8 := ((Upd.refl _ w6).alloc o).grown hg8 (fun k e _ => e.symm)
  have hxl : xs.length = l.length * 5 := R.ho.1
  refine ⟨by simpa using ho8, hA8, ?_, ?_⟩
  · intro k u hku
    by_cases hk : k < l.length
    · rw [List.getElem?_append_left hk] at hku
      show VOwn _ _ u (if k = l.length then _ else css k)
      rw [if_neg (by omega)]
      refine ((((R.hx k u hku).mono (Q := fun g => (b ≤ g ∧ some g ≠ bOf A) ∧ g < w.heap.size) (fun g h1 h2 => ⟨h2, h1⟩))).upd hu8 (fun g hg e => ?_)).mono (fun g _ hg => ⟨hg.1.1, hfresh g (by omega) hg.1.2⟩)
      rcases e with e | e
      · have := hT g e; omega
      · exact hg.1.2 e
    · rw [List.getElem?_append_right (by omega)] at hku
      have hk0 : k = l.length := by
        have := (List.getElem?_eq_some_iff.1 hku).1
        simp at this; omega
      subst hk0
      simp at hku
      subst hku
      show VOwn _ _ v (if l.length = l.length then _ else _)
      rw [if_pos rfl]
      refine ((hv.mono (Q := fun g => w.heap.size ≤ g ∧ g < w6.heap.size) (fun g h1 h2 => ⟨h2, h1⟩)).upd hu68 (fun g hg e => ?_)).mono (fun g _ hg => ⟨by omega, hfresh g hg.2 (fun e => by have := hAl g e.symm; omega)⟩)
      have := hAl g e.symm; omega
  · intro k hk
    show _ = (if k = l.length then _ else css k).toList
    by_cases hk2 : k < l.length
    · rw [if_neg (by omega), ← R.hxs k hk2, List.drop_append_of_le_length (by omega), List.take_append_of_le_length (by rw [List.length_drop, hxl]; omega)]
    · have hk0 : k = l.length := by simp at hk; omega
      subst hk0
      rw [if_pos rfl, ← hxl, List.drop_left]
      have := hv.size
      rw [List.take_of_length_le (by simp [this])]
theorem VRow.own {w : World} {b : Nat} {l : List Val} {A : Option Addr} {c : Nat} {xs : List Value} {css : Nat → Array Value} (R : VRow w b l A c xs css) (hn : l.length ≤ 2199023255488) (k i : Int) (f : Nat) (s : List UInt8) : VOwn w (fun g => b ≤ g) (.mk k i f s l) #[.int .i64 k, .int .i64 i, .float .f64 f, .string (bstr s), .slice A l.length c] :=
  .mk css hn R.ho R.hA (fun j v hv => (R.hx j v hv).mono (fun g _ hg => hg.1)) R.hxs
theorem VRow.upd {w w' : World} {b : Nat} {l : List Val} {A : Option Addr} {c : Nat} {xs : List Value} {css : Nat → Array Value} {S : Nat → Prop} (R : VRow w b l A c xs css) (hu : Upd S w w') (hS : ∀ g, b ≤ g → ¬ S g) : VRow w' b l A c xs css :=
  ⟨R.ho.upd hu (fun g hg => hS g (R.hA g hg)), R.hA, fun k v hv => (R.hx k v hv).upd hu (fun g hg => hS g hg.1), R.hxs⟩
/-- What Clean tells of a value. -/
def CleanRes (w : World) (v : Val) (e : Ending) (w' : World) : Prop := ∃ cs, e = .returned (.agg cs) ∧ VOwn w' (fun g => w.heap.size ≤ g) (cleanV v) cs ∧ Below w.heap.size w w'
def CleansRes (w : World) (l : List Val) (e : Ending) (w' : World) : Prop := ∃ A' c' xs' css', e = .returned (.slice A' l.length c') ∧ VRow w' w.heap.size (l.map cleanV) A' c' xs' css' ∧ Below w.heap.size w w'
set_option maxHeartbeats 1600000 in
theorem ref_cleans {A : Option Addr} {c B : Nat} {l : List Val} {xs : List Value} {css : Nat → Array Value} {w : World} (hr : Reads w B 5 A l.length xs) (hB : B ≤ w.heap.size) (hxs : ∀ j, j < l.length → (xs.drop (j * 5)).take 5 = (css j).toList) (hx : ∀ j v, l[j]? = some v → VReads w B v (css j)) (hlen : l.length ≤ 2199023255488)
    (hcall : ∀ j v, l[j]? = some v → ∀ w1, Below w.heap.size w w1 → Calls Tryz.prog 25 #[.agg (css j)] w1 (CleanRes w1 v)) :
    Calls Tryz.prog 49 #[.slice A l.length c] w (CleansRes w l) := by
  obtain ⟨i1, gi, gz0, gz1, gz2⟩ := info_parts info_val
  replace hcall := Lib.hid hcall
  go_enter Tryz.func49, Tryz.ntmps49
  go_wp2_with fail
  go_loopw [3, 4] (fun acc i wr => ∃ (j : Nat) (A1 : Option Addr) (c1 : Nat) (xs1 : List Value) (css1 : Nat → Array Value), j ≤ l.length ∧ i = .int .i64 (j : Int) ∧ acc = .slice A1 j c1 ∧ VRow wr w.heap.size ((l.take j).map cleanV) A1 c1 xs1 css1 ∧ Below w.heap.size w wr) (fun _ i _ => l.length - (intOf i).toNat)
  case atStart => exact ⟨0, none, 0, [], _, Nat.zero_le _, rfl, rfl, VRow.nil _ _, Below.refl _ _⟩
  case round =>
    rename_i hrel
    obtain ⟨j, A1, c1, xs1, css1, hj, rfl, rfl, R, hb⟩ := hrel
    have hjl : ((l.take j).map cleanV).length = j := by simp; omega
    have hbs := hb.size
    by_cases hlt : j < l.length
    · obtain ⟨ad, k', i', f', s', A', n', c', rfl, hform, hgk, g0, g1, g2, g3, g4⟩ := kid hr hx hxs (hb.mono hB) hlt
      have hcl := hcall.out j l[j] hgk wr hb
      have htk : (l.take (j + 1)).map cleanV = (l.take j).map cleanV ++ [cleanV l[j]] := by rw [List.take_succ_eq_append_getElem hlt, List.map_append]; rfl
      rw [hform] at hcl
      have hcl' : Calls Tryz.prog 25 #[.agg #[.int .i64 k', .int .i64 i', .float .f64 f', .string s', .slice A' n' c']] wr (CleanRes wr l[j]) := hcl
      replace htk := Lib.hid htk
      clear hform hgk hcl
      go_wp2_with fail
      refine hcl'.mono ?_
      clear hcl'
      rintro e w6 ⟨cs, rfl, hv, hb6⟩
      dsimp only
      have hcs5 := hv.size
      have hone := hv.one
      obtain ⟨a0, a1, a2, a3, a4, rfl⟩ : ∃ a0 a1 a2 a3 a4, cs = #[a0, a1, a2, a3, a4] := by
        match cs, hcs5 with
        | ⟨[a0, a1, a2, a3, a4]⟩, _ => exact ⟨a0, a1, a2, a3, a4, rfl⟩
      have hu6 := Upd.of_below_size (S := fun _ => False) hb6
      have ho7 := (R.ho.upd hu6 (fun g _ h => h)).alloc (.cells #[a0, a1, a2, a3, a4] 25)
      rw [hjl] at ho7
      have hsrc := Reads.lit (size := 5) w6 #[a0, a1, a2, a3, a4] 25 (0, 0) 1 [a0, a1, a2, a3, a4] rfl rfl
      have hb7 := below_then hb6 hb
      go_wp2_with (at_builtin; go_must (refine wpList_append_mine rfl _ _ 23 23 rfl 25 i1 _ 5 64 Tryz.underlying23 gi gz0 gz1 gz2 rfl rfl ho7 rfl (Src.ofReads Tryz.underlying23 _ hsrc (by intro u hu; exact hone u (by simpa using hu))) ?b1 ?b2 ?grow))
      case b1 => unfold maxLen; omega
      case b2 => omega
      case grow =>
        intro A8 c8 w8 ho8 hg8 hat8
        have R8 := R.push hbs hu6 (fun _ h => h.elim) hv ⟨_, rfl⟩ (by rw [hjl]; exact ho8) hg8 (by rw [World.size_alloc]; exact hat8)
        have hb8 : Below w.heap.size w w8 := ((hb7.alloc hb7.size (.cells #[a0, a1, a2, a3, a4] 25))).grown hg8 (Nat.le_trans hb7.size (by simp)) (fun k hk => R.hA k hk)
        rw [← htk.out, hjl] at R8
        replace R8 := Lib.hid R8
        clear R ho7 hsrc ho8 hg8 hat8 hv hb6 hb7 hone hcs5 hu6
        go_wp2_with fail
        go_roundw
        case rel => exact ⟨j + 1, A8, c8, _, _, by omega, by simp, by simp, R8.out, hb8⟩
        case measure => simp [intOf]; omega
    · have hj' : j = l.length := by omega
      subst hj'
      rw [List.take_length] at R
      go_wp2_with fail
      go_ret
      exact ⟨_, _, _, _, rfl, R, hb⟩
/-- No list of it is longer than memory may hold. -/
inductive ShortV : Val → Prop
  | mk {k i : Int} {f : Nat} {s : List UInt8} {l : List Val} (h1 : k = 4 → l.length ≤ 2199023255488) (h2 : k = 4 → ∀ v, v ∈ l → ShortV v) : ShortV (.mk k i f s l)
theorem short_of_great {w : World} {B : Nat} {v : Val} {cs : Array Value} (h : VReads w B v cs) : ∀ d : Int, greatV v d = false → ShortV v := by
  induction h with
  | @mk k i f s l A c xs css hn hr hx hxs ih =>
    intro d hg
    unfold greatV at hg
    refine .mk (fun h4 => ?_) (fun h4 v hv => ?_)
    · rw [if_neg (by omega), if_pos h4] at hg
      simp only [Bool.or_eq_false_iff, decide_eq_false_iff_not] at hg
      omega
    · rw [if_neg (by omega), if_pos h4] at hg
      simp only [Bool.or_eq_false_iff, decide_eq_false_iff_not] at hg
      obtain ⟨-, hgl⟩ := hg
      rw [greatL_any] at hgl
      obtain ⟨j, hj⟩ := List.getElem?_of_mem hv
      have := List.any_eq_false.1 hgl v hv
      exact ih j v hj (d - 1) (by simpa using this)
set_option maxHeartbeats 1600000 in
theorem ref_clean_s {w : World} {B : Nat} {v : Val} {cs : Array Value} (h : VReads w B v cs) : ∀ (w1 : World), ShortV v → Below B w w1 → B ≤ w1.heap.size → Calls Tryz.prog 25 #[.agg cs] w1 (CleanRes w1 v) := by
  have hsf := fun a k x m w => run_store_float (P := Tryz.prog) a k x m w
  induction h with
  | @mk k i f s l A c xs css hn hr hx hxs ih =>
    intro w1 hg hb1 hB1
    obtain ⟨hg1, hg2⟩ := hg
    have hS := (Below.refl w1.heap.size w1).alloc (Nat.le_refl _) (.cells #[.int .i64 k, .int .i64 i, .float .f64 f, .string (bstr s), .slice A l.length c] 25)
    have hS2 := hS.alloc hS.size (.cells #[.int .i64 0, .int .i64 0, .float .f64 0, .string ⟨#[]⟩, .slice none 0 0] 25)
    have hz := Blk.new (w1.alloc (.cells #[.int .i64 k, .int .i64 i, .float .f64 f, .string (bstr s), .slice A l.length c] 25)) 25 #[.int .i64 0, .int .i64 0, .float .f64 0, .string ⟨#[]⟩, .slice none 0 0]
    have hsz : (w1.alloc (.cells #[.int .i64 k, .int .i64 i, .float .f64 f, .string (bstr s), .slice A l.length c] 25)).heap.size = w1.heap.size + 1 := by simp
    rw [hsz] at hz
    unfold CleanRes cleanV
    by_cases h1 : k = 1
    · rw [if_pos h1]
      subst h1
      clear hg1 hg2 ih hx hxs hr
      go_enter Tryz.func25, Tryz.ntmps25
      go_wp2_with fail
      refine (int_ref _ _).mono ?_
      rintro e w3 ⟨rfl, hb3⟩
      dsimp only
      have hz3 := hz.below hb3 hz.lt
      have hb4 := below_then hb3 hS2
      clear hS hS2 hb3
      have hz4 := hz3.row #[.int .i64 1, .int .i64 i, .float .f64 0, .string ⟨#[]⟩, .slice none 0 0]
      have hb5 := below_row hb4 (g := w1.heap.size + 1) (by omega) #[.int .i64 1, .int .i64 i, .float .f64 0, .string ⟨#[]⟩, .slice none 0 0]
      go_wp2_with (refine store_row_gen rfl 25 (Operand.tmp 2) _ rfl (w1.heap.size + 1) #[.int .i64 1, .int .i64 i, .float .f64 0, .string ⟨#[]⟩, .slice none 0 0] rfl rfl 25 _ hz3 (by kernel_rfl) rfl (by simp [Value.oneCell']) (fun w6 hw6 => ?_); rw [← hw6] at hz4 hb5)
      refine bodyPost_ret (v := .agg #[.int .i64 1, .int .i64 i, .float .f64 0, .string ⟨#[]⟩, .slice none 0 0]) ?hr rfl ?_
      case hr => exact results_cell_row rfl _ _ (w1.heap.size + 1) 25 _ (0, 0) _ rfl hz4 Tryz.underlying25 rfl (by kernel_rfl)
      exact ⟨_, rfl, VOwn.flat _ _ 1 i 0 [], hb5⟩
    by_cases h2 : k = 2
    · rw [if_neg h1]
      rw [if_pos h2]
      subst h2
      clear hg1 hg2 ih hx hxs hr
      go_enter Tryz.func25, Tryz.ntmps25
      go_wp2_with fail
      refine (float_ref _ _).mono ?_
      rintro e w3 ⟨rfl, hb3⟩
      dsimp only
      have hz3 := hz.below hb3 hz.lt
      have hb4 := below_then hb3 hS2
      clear hS hS2 hb3
      have hz4 := hz3.row #[.int .i64 2, .int .i64 0, .float .f64 (cb f), .string ⟨#[]⟩, .slice none 0 0]
      have hb5 := below_row hb4 (g := w1.heap.size + 1) (by omega) #[.int .i64 2, .int .i64 0, .float .f64 (cb f), .string ⟨#[]⟩, .slice none 0 0]
      go_wp2_with (refine store_row_gen rfl 25 (Operand.tmp 2) _ rfl (w1.heap.size + 1) #[.int .i64 2, .int .i64 0, .float .f64 (cb f), .string ⟨#[]⟩, .slice none 0 0] rfl rfl 25 _ hz3 (by kernel_rfl) rfl (by simp [Value.oneCell']) (fun w6 hw6 => ?_); rw [← hw6] at hz4 hb5)
      refine bodyPost_ret (v := .agg #[.int .i64 2, .int .i64 0, .float .f64 (cb f), .string ⟨#[]⟩, .slice none 0 0]) ?hr rfl ?_
      case hr => exact results_cell_row rfl _ _ (w1.heap.size + 1) 25 _ (0, 0) _ rfl hz4 Tryz.underlying25 rfl (by kernel_rfl)
      exact ⟨_, rfl, VOwn.flat _ _ 2 0 (cb f) [], hb5⟩
    by_cases h3 : k = 3
    · rw [if_neg h1]
      rw [if_neg h2]
      rw [if_pos h3]
      subst h3
      clear hg1 hg2 ih hx hxs hr
      go_enter Tryz.func25, Tryz.ntmps25
      go_wp2_with fail
      refine (text_ref _ _).mono ?_
      rintro e w3 ⟨rfl, hb3⟩
      dsimp only
      have hz3 := hz.below hb3 hz.lt
      have hb4 := below_then hb3 hS2
      clear hS hS2 hb3
      have hz4 := hz3.row #[.int .i64 3, .int .i64 0, .float .f64 0, .string (bstr s), .slice none 0 0]
      have hb5 := below_row hb4 (g := w1.heap.size + 1) (by omega) #[.int .i64 3, .int .i64 0, .float .f64 0, .string (bstr s), .slice none 0 0]
      go_wp2_with (refine store_row_gen rfl 25 (Operand.tmp 2) _ rfl (w1.heap.size + 1) #[.int .i64 3, .int .i64 0, .float .f64 0, .string (bstr s), .slice none 0 0] rfl rfl 25 _ hz3 (by kernel_rfl) rfl (by simp [Value.oneCell']) (fun w6 hw6 => ?_); rw [← hw6] at hz4 hb5)
      refine bodyPost_ret (v := .agg #[.int .i64 3, .int .i64 0, .float .f64 0, .string (bstr s), .slice none 0 0]) ?hr rfl ?_
      case hr => exact results_cell_row rfl _ _ (w1.heap.size + 1) 25 _ (0, 0) _ rfl hz4 Tryz.underlying25 rfl (by kernel_rfl)
      exact ⟨_, rfl, VOwn.flat _ _ 3 0 0 s, hb5⟩
    by_cases h4 : k = 4
    · rw [if_neg h1, if_neg h2, if_neg h3, if_pos h4, cleanL_map]
      have h64 := hg1 h4
      have hgl := hg2 h4
      have hgi : ∀ (j : Nat) (v : Val), l[j]? = some v → ShortV v := fun j v hv => hgl v (List.mem_of_getElem? hv)
      have hcl : ∀ w2, Below w1.heap.size w1 w2 → Calls Tryz.prog 49 #[.slice A l.length c] w2 (CleansRes w2 l) := by
        intro w2 hb2
        have hb12 : Below B w w2 := hb1.trans (hb2.mono hB1)
        have hB2 : B ≤ w2.heap.size := Nat.le_trans hB1 hb2.size
        exact ref_cleans (hr.below hb12) hB2 hxs (fun j v hv => (hx j v hv).under hb12) (by omega) (fun j v hv w3 hb3 => ih j v hv w3 (hgi j v hv) (hb12.trans (hb3.mono hB2)) (Nat.le_trans hB2 hb3.size))
      subst h4
      have hln : l.length ≤ 2199023255488 := by omega
      clear hg1 hg2 hgl hgi ih hx hxs hr h64 h1 h2 h3
      replace hcl := Lib.hid hcl
      go_enter Tryz.func25, Tryz.ntmps25
      go_wp2_with fail
      refine (hcl.out _ hS2).mono ?_
      rintro e w3 ⟨A3, c3, xs3, css3, rfl, R, hb3⟩
      dsimp only
      have hz3 := hz.below hb3 hz.lt
      have hb4 := below_then hb3 hS2
      have hw2 : (Go.World.alloc (w1.alloc (.cells #[.int .i64 4, .int .i64 i, .float .f64 f, .string (bstr s), .slice A l.length c] 25)) (.cells #[.int .i64 0, .int .i64 0, .float .f64 0, .string ⟨#[]⟩, .slice none 0 0] 25)).heap.size = w1.heap.size + 1 + 1 := by simp
      rw [hw2] at R
      have R4 := R.upd ((Upd.refl (fun x => x = w1.heap.size + 1) w3).setRow (g := w1.heap.size + 1) (fun _ => rfl) #[.int .i64 4, .int .i64 0, .float .f64 0, .string ⟨#[]⟩, .slice A3 l.length c3]) (fun g hg e => by omega)
      have hml : (l.map cleanV).length = l.length := by simp
      have V4 := R4.own (by omega) 4 0 0 []
      rw [hml] at V4
      clear hS hS2 hb3 R R4 hw2
      have hz4 := hz3.row #[.int .i64 4, .int .i64 0, .float .f64 0, .string ⟨#[]⟩, .slice A3 l.length c3]
      have hb5 := below_row hb4 (g := w1.heap.size + 1) (by omega) #[.int .i64 4, .int .i64 0, .float .f64 0, .string ⟨#[]⟩, .slice A3 l.length c3]
      go_wp2_with (refine store_row_gen rfl 25 (Operand.tmp 2) _ rfl (w1.heap.size + 1) #[.int .i64 4, .int .i64 0, .float .f64 0, .string ⟨#[]⟩, .slice A3 l.length c3] rfl rfl 25 _ hz3 (by kernel_rfl) rfl (by simp [Value.oneCell']) (fun w6 hw6 => ?_); rw [← hw6] at hz4 hb5 V4)
      refine bodyPost_ret (v := .agg #[.int .i64 4, .int .i64 0, .float .f64 0, .string ⟨#[]⟩, .slice A3 l.length c3]) ?hr rfl ?_
      case hr => exact results_cell_row rfl _ _ (w1.heap.size + 1) 25 _ (0, 0) _ rfl hz4 Tryz.underlying25 rfl (by kernel_rfl)
      exact ⟨_, rfl, V4.mono (fun g _ hg => by omega), hb5⟩
    · rw [if_neg h1, if_neg h2, if_neg h3, if_neg h4]
      have k1 : (k == 1) = false := by rw [beq_eq_false_iff_ne]; exact h1
      have k2 : (k == 2) = false := by rw [beq_eq_false_iff_ne]; exact h2
      have k3 : (k == 3) = false := by rw [beq_eq_false_iff_ne]; exact h3
      have k4 : (k == 4) = false := by rw [beq_eq_false_iff_ne]; exact h4
      clear hg1 hg2 ih hx hxs hr h1 h2 h3 h4
      have hz3 := hz
      have hb4 := hS2
      have hz4 := hz3.row #[.int .i64 0, .int .i64 0, .float .f64 0, .string ⟨#[]⟩, .slice none 0 0]
      have hb5 := below_row hb4 (g := w1.heap.size + 1) (by omega) #[.int .i64 0, .int .i64 0, .float .f64 0, .string ⟨#[]⟩, .slice none 0 0]
      clear hS hS2 hz
      go_enter Tryz.func25, Tryz.ntmps25
      go_wp2_with (refine store_row_gen rfl 25 (Operand.tmp 2) _ rfl (w1.heap.size + 1) #[.int .i64 0, .int .i64 0, .float .f64 0, .string ⟨#[]⟩, .slice none 0 0] (by simp [go_sem]) rfl 25 _ hz3 (by kernel_rfl) rfl (by simp [Value.oneCell']) (fun w6 hw6 => ?_); rw [← hw6] at hz4 hb5)
      refine bodyPost_ret (v := .agg #[.int .i64 0, .int .i64 0, .float .f64 0, .string ⟨#[]⟩, .slice none 0 0]) ?hr rfl ?_
      case hr => exact results_cell_row rfl _ _ (w1.heap.size + 1) 25 _ (0, 0) _ rfl hz4 Tryz.underlying25 rfl (by kernel_rfl)
      exact ⟨_, rfl, VOwn.flat _ _ 0 0 0 [], hb5⟩
theorem ref_clean {w : World} {B : Nat} {v : Val} {cs : Array Value} (h : VReads w B v cs) (d : Int) (w1 : World) (hg : greatV v d = false) (hb1 : Below B w w1) (hB1 : B ≤ w1.heap.size) : Calls Tryz.prog 25 #[.agg cs] w1 (CleanRes w1 v) :=
  ref_clean_s h w1 (short_of_great h d hg) hb1 hB1
end Go.Proofs.YtdbmffagibnibaaGreatDoor
namespace Go.Proofs.YtdbmffagibnibaaGreatDoor
set_option maxRecDepth 100000
open Go.RowKit
theorem ref_bits' (x : Nat) (w : World) : Calls Tryz.prog 14 #[.float .f64 x] w fun e w' => e = .returned (.int .u64 (cb x : Int)) ∧ w' = w :=
  (ref_bits x w).mono fun _ _ ⟨h1, h2⟩ => ⟨h1, h2.symm⟩
theorem cell_keep {w w' : World} {p : Addr} {u : Value} (hb : Below w.heap.size w w') (h : w.cell? p = some u) : w'.cell? p = some u := (hb.cell (World.block_lt_of_cell? w p h)).trans h
set_option maxHeartbeats 3200000 in
theorem same_true {w : World} {B : Nat} {v : Val} {cs : Array Value} (h : VReads w B v cs) : ∀ (cs' : Array Value) (w1 : World), VReads w B v cs' → Below B w w1 → B ≤ w1.heap.size → Calls Tryz.prog 27 #[.agg cs, .agg cs'] w1 (Says w1 (.bool true)) := by
  induction h with
  | @mk k i f s l A c xs css hn hr hx hxs ih =>
    intro cs' w1 h' hb1 hB1
    obtain ⟨css', hn', hr', hx', hxs'⟩ := h'
    rename_i A' c' xs'
    have hS := SV.alloc w1 (Below.refl _ _) k i f (bstr s) A l.length c
    have hfin := (Below.refl w1.heap.size w1).alloc (Nat.le_refl _) (.cells #[.int .i64 k, .int .i64 i, .float .f64 f, .string (bstr s), .slice A l.length c] 25)
    have hS' := SV.alloc (w0 := w1) (w1.alloc (.cells #[.int .i64 k, .int .i64 i, .float .f64 f, .string (bstr s), .slice A l.length c] 25)) hfin k i f (bstr s) A' l.length c'
    have hfin2 := hfin.alloc hfin.size (.cells #[.int .i64 k, .int .i64 i, .float .f64 f, .string (bstr s), .slice A' l.length c'] 25)
    have hsz : (w1.alloc (.cells #[.int .i64 k, .int .i64 i, .float .f64 f, .string (bstr s), .slice A l.length c] 25)).heap.size = w1.heap.size + 1 := by simp
    rw [hsz] at hS'
    have hS2 := hS.below ((Below.refl _ _).alloc (Nat.le_refl _) (.cells #[.int .i64 k, .int .i64 i, .float .f64 f, .string (bstr s), .slice A' l.length c'] 25))
    have hb2 := hb1.trans (hfin2.mono hB1)
    have hB2 := Nat.le_trans hB1 hfin2.size
    replace ih := Lib.hid ih
    have k0 : (k != k) = false := by simp
    have i0 : (i != i) = false := by simp
    have s0 : decide (bstr s = bstr s) = true := decide_eq_true rfl
    obtain ⟨y, hy⟩ : ∃ y, cb f = y := ⟨_, rfl⟩
    have hbit := fun w => ref_bits' f w
    rw [hy] at hbit
    have y0 : ((y : Int) != (y : Int)) = false := by simp
    have l0 : ((l.length : Int) != (l.length : Int)) = false := by simp
    generalize bstr s = sb at *
    clear hS hfin hy
    go_enter Tryz.func27, Tryz.ntmps27
    go_wp2_with fail
    generalize (w1.alloc (.cells #[.int .i64 k, .int .i64 i, .float .f64 f, .string sb, .slice A l.length c] 25)).alloc (.cells #[.int .i64 k, .int .i64 i, .float .f64 f, .string sb, .slice A' l.length c'] 25) = w2 at *
    have hSS := Lib.hid hS2
    have hSS' := Lib.hid hS'
    obtain ⟨e0, e1, e2, e3, e4, -, -⟩ := hS2
    obtain ⟨f0, f1, f2, f3, f4, -, -⟩ := hS'
    go_quiet (refine (hbit _).mono (fun e w'' hh => ⟨hh.1, _, hh.2⟩))
    clear e0 e1 e2 e3 e4 f0 f1 f2 f3 f4 hbit k0 i0 s0 y0 l0
    go_wp2_with fail
    have hbq : ∀ n, Below w2.heap.size w2 (w2.drewN n) := fun n => below_drewN (Below.refl _ _) n
    go_loopw [5] (fun i wr => ∃ j : Nat, j ≤ l.length ∧ i = .int .i64 (j : Int) ∧ Below w2.heap.size w2 wr) (fun i _ => l.length - (intOf i).toNat)
    case atStart => exact ⟨0, Nat.zero_le _, rfl, hbq _⟩
    case round =>
      rename_i hrel
      obtain ⟨j, hj, rfl, hb⟩ := hrel
      obtain ⟨-, -, -, -, e4, -, -⟩ := hSS.out.below hb
      obtain ⟨-, -, -, -, f4, -, -⟩ := hSS'.out.below hb
      by_cases hlt : j < l.length
      · have hbb : Below B w wr := hb2.trans (hb.mono hB2)
        obtain ⟨ad, k1, i1, f1, s1, A1, n1, c1, rfl, hform, hgk, g0, g1, g2, g3, g4⟩ := kid hr hx hxs hbb hlt
        obtain ⟨ad', k2, i2, f2, s2, A2, n2, c2, rfl, hform', -, d0, d1, d2, d3, d4⟩ := kid hr' hx' hxs' hbb hlt
        have hcl := fun w4 (hb4 : Below w2.heap.size w2 w4) => ih.out j l[j] hgk (css' j) w4 (hx' j l[j] hgk) (hb2.trans (hb4.mono hB2)) (Nat.le_trans hB2 hb4.size)
        rw [hform, hform'] at hcl
        replace hcl := Lib.hid hcl
        clear hform hform' hgk hbb
        have hS3 : (wr.drew.cell? ⟨w1.heap.size, 4, none⟩ = some (.slice (some ad) l.length c) ∧ wr.drew.cell? ⟨w1.heap.size + 1, 4, none⟩ = some (.slice (some ad') l.length c')) ∧ (wr.drew.cell? (ad.add (j * 5)) = some (.int .i64 k1) ∧ wr.drew.cell? ⟨(ad.add (j * 5)).block, (ad.add (j * 5)).off + 1, none⟩ = some (.int .i64 i1) ∧ wr.drew.cell? ⟨(ad.add (j * 5)).block, (ad.add (j * 5)).off + 2, none⟩ = some (.float .f64 f1) ∧ wr.drew.cell? ⟨(ad.add (j * 5)).block, (ad.add (j * 5)).off + 3, none⟩ = some (.string s1) ∧ wr.drew.cell? ⟨(ad.add (j * 5)).block, (ad.add (j * 5)).off + 4, none⟩ = some (.slice A1 n1 c1)) ∧ (wr.drew.cell? (ad'.add (j * 5)) = some (.int .i64 k2) ∧ wr.drew.cell? ⟨(ad'.add (j * 5)).block, (ad'.add (j * 5)).off + 1, none⟩ = some (.int .i64 i2) ∧ wr.drew.cell? ⟨(ad'.add (j * 5)).block, (ad'.add (j * 5)).off + 2, none⟩ = some (.float .f64 f2) ∧ wr.drew.cell? ⟨(ad'.add (j * 5)).block, (ad'.add (j * 5)).off + 3, none⟩ = some (.string s2) ∧ wr.drew.cell? ⟨(ad'.add (j * 5)).block, (ad'.add (j * 5)).off + 4, none⟩ = some (.slice A2 n2 c2)) ∧ Below w2.heap.size w2 wr.drew := ⟨⟨e4, f4⟩, ⟨g0, g1, g2, g3, g4⟩, ⟨d0, d1, d2, d3, d4⟩, hb.drew⟩
        go_wp2_with fail
        clear e4 f4 g0 g1 g2 g3 g4 d0 d1 d2 d3 d4
        refine wp_region_lex (fun W => (W.cell? ⟨w1.heap.size, 4, none⟩ = some (.slice (some ad) l.length c) ∧ W.cell? ⟨w1.heap.size + 1, 4, none⟩ = some (.slice (some ad') l.length c')) ∧ (W.cell? (ad.add (j * 5)) = some (.int .i64 k1) ∧ W.cell? ⟨(ad.add (j * 5)).block, (ad.add (j * 5)).off + 1, none⟩ = some (.int .i64 i1) ∧ W.cell? ⟨(ad.add (j * 5)).block, (ad.add (j * 5)).off + 2, none⟩ = some (.float .f64 f1) ∧ W.cell? ⟨(ad.add (j * 5)).block, (ad.add (j * 5)).off + 3, none⟩ = some (.string s1) ∧ W.cell? ⟨(ad.add (j * 5)).block, (ad.add (j * 5)).off + 4, none⟩ = some (.slice A1 n1 c1)) ∧ (W.cell? (ad'.add (j * 5)) = some (.int .i64 k2) ∧ W.cell? ⟨(ad'.add (j * 5)).block, (ad'.add (j * 5)).off + 1, none⟩ = some (.int .i64 i2) ∧ W.cell? ⟨(ad'.add (j * 5)).block, (ad'.add (j * 5)).off + 2, none⟩ = some (.float .f64 f2) ∧ W.cell? ⟨(ad'.add (j * 5)).block, (ad'.add (j * 5)).off + 3, none⟩ = some (.string s2) ∧ W.cell? ⟨(ad'.add (j * 5)).block, (ad'.add (j * 5)).off + 4, none⟩ = some (.slice A2 n2 c2)) ∧ Below w2.heap.size w2 W) [1, 4, 6, 9] [10] [0, 1, 2, 3, 4, 5, 6, 7, 8, 9, 10, 11] (by kernel_rfl) rfl (by kernel_rfl) (by kernel_rfl) (fun _ _ d _ _ h => by cases d <;> exact h) ?_
        repeat (first | (refine lexG_take _ ?_ rfl rfl rfl rfl (fun _ => ?_) ?_; rotate_left; (focus (go_simp; with_reducible rfl)); try simp only [Act.put, List.setIfInBounds_toArray, List.set_cons_zero, List.set_cons_succ]) | (refine lexG_held _ ?_ rfl rfl rfl rfl (by assumption) (fun _ hSw => ?_) ?_; rotate_left; (focus ((try dsimp only at hSw); go_simp; with_reducible rfl)); try simp only [Act.put, List.setIfInBounds_toArray, List.set_cons_zero, List.set_cons_succ]) | (refine lexG_skip _ rfl rfl (by assumption) ?_; try simp only [Act.put, List.setIfInBounds_toArray, List.set_cons_zero, List.set_cons_succ]))
        refine lexG_now _ rfl rfl rfl (fun K hK => ?_)
        go_wp2_with fail
        refine (hcl.out wr.drew hS3.2.2.2).mono ?_
        rintro e w4 ⟨rfl, hb4⟩
        dsimp only
        have hb4' := below_then hb4 hS3.2.2.2
        obtain ⟨⟨e4, f4⟩, ⟨g0, g1, g2, g3, g4⟩, ⟨d0, d1, d2, d3, d4⟩, -⟩ := hS3
        refine hK _ _ _ (fun _ h => h) ⟨⟨cell_keep hb4 e4, cell_keep hb4 f4⟩, ⟨cell_keep hb4 g0, cell_keep hb4 g1, cell_keep hb4 g2, cell_keep hb4 g3, cell_keep hb4 g4⟩, ⟨cell_keep hb4 d0, cell_keep hb4 d1, cell_keep hb4 d2, cell_keep hb4 d3, cell_keep hb4 d4⟩, hb4'⟩ ?_
        clear hK K e4 f4 g0 g1 g2 g3 g4 d0 d1 d2 d3 d4 hb4
        try simp only [Act.put, List.setIfInBounds_toArray, List.set_cons_zero, List.set_cons_succ]
        repeat (first | (refine lexG_take _ ?_ rfl rfl rfl rfl (fun _ => ?_) ?_; rotate_left; (focus (go_simp; with_reducible rfl)); try simp only [Act.put, List.setIfInBounds_toArray, List.set_cons_zero, List.set_cons_succ]) | (refine lexG_held _ ?_ rfl rfl rfl rfl (by assumption) (fun _ hSw => ?_) ?_; rotate_left; (focus ((try dsimp only at hSw); go_simp; with_reducible rfl)); try simp only [Act.put, List.setIfInBounds_toArray, List.set_cons_zero, List.set_cons_succ]) | (refine lexG_skip _ rfl rfl (by assumption) ?_; try simp only [Act.put, List.setIfInBounds_toArray, List.set_cons_zero, List.set_cons_succ]))
        refine lexG_nil ?_
        go_wp2_with fail
        go_roundw
        case rel => exact ⟨j + 1, by omega, by simp, by assumption⟩
        case measure => simp [intOf]; omega
      · have hj' : j = l.length := by omega
        subst hj'
        go_wp2_with fail
        go_ret
        exact ⟨rfl, below_then hb hfin2⟩
end Go.Proofs.YtdbmffagibnibaaGreatDoor
namespace Go.Proofs.YtdbmffagibnibaaGreatDoor
set_option maxRecDepth 100000
open Go.RowKit
/-- The value's bytes and numbers are such as the machine's are. -/
inductive OkV : Val → Prop
  | mk {k i : Int} {f : Nat} {s : List UInt8} {l : List Val} (hf : f < 18446744073709551616) (hi : -9223372036854775808 ≤ i ∧ i ≤ 9223372036854775807) (hl : ∀ v, v ∈ l → OkV v) (hs : l.length ≤ 2199023255488) : OkV (.mk k i f s l)
theorem short_of_ok {v : Val} (h : OkV v) : ShortV v := by
  induction h with
  | mk hf hi hl hs ih => exact .mk (fun _ => hs) (fun _ v hv => ih v hv)
theorem cb_lt {f : Nat} (hf : f < 18446744073709551616) : cb f < 18446744073709551616 := by
  unfold cb
  split <;> omega
end Go.Proofs.YtdbmffagibnibaaGreatDoor
