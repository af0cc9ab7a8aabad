/- value.Size whatever the size; choirref1.Check, value.Check at any value; choirhelp.Light, Lights. -/
import Derived.Test.YtafogjonicdbmaaKinds
namespace Go.Proofs.Ytafogjonicdbmaa
open Go.RowKit

mutual
theorem great_size : ∀ (v : Val) (d : Nat), greatV v (d : Int) = false → sizeV v ≤ 300 * 65 ^ d
  | .mk k i f s l, d, h => by
    have hp : 1 ≤ 65 ^ d := Nat.pow_pos (by omega)
    unfold greatV at h
    unfold sizeV
    by_cases h12 : k = 1 ∨ k = 2
    · rw [if_pos h12]; omega
    rw [if_neg h12]
    by_cases h3 : k = 3
    · rw [if_pos h3] at h ⊢
      have : ¬ 256 < s.length := by simpa using h
      omega
    rw [if_neg h3] at h ⊢
    by_cases h4 : k = 4
    · rw [if_pos h4] at h ⊢
      simp only [Bool.or_eq_false_iff, decide_eq_false_iff_not] at h
      obtain ⟨⟨h64, hd⟩, hl⟩ := h
      obtain ⟨e, rfl⟩ : ∃ e, d = e + 1 := ⟨d - 1, by omega⟩
      have hl' : greatL l (e : Int) = false := by rw [← hl]; congr 1; omega
      have := great_sizeL l e hl'
      have hq : 1 ≤ 65 ^ e := Nat.pow_pos (by omega)
      have hm : l.length * (300 * 65 ^ e) ≤ 64 * (300 * 65 ^ e) := Nat.mul_le_mul_right _ (by omega)
      rw [Nat.pow_succ]
      omega
    · rw [if_neg h4]; omega
theorem great_sizeL : ∀ (l : List Val) (d : Nat), greatL l (d : Int) = false → sizeL l ≤ l.length * (300 * 65 ^ d)
  | [], d, _ => Nat.zero_le _
  | v :: l, d, h => by
    have h := Bool.or_eq_false_iff.1 (show (greatV v (d : Int) || greatL l (d : Int)) = false from h)
    have h1 := great_size v d h.1
    have h2 := great_sizeL l d h.2
    show sizeV v + sizeL l ≤ (l.length + 1) * (300 * 65 ^ d)
    rw [Nat.succ_mul]
    omega
end
theorem great_w64 {v : Val} (h : greatV v 8 = false) : IntKind.i64.wrap (sizeV v : Int) = (sizeV v : Int) := by
  have := great_size v 8 h
  have e : (65 : Nat) ^ 8 = 318644812890625 := by decide
  rw [e] at this
  exact w64_id _ (by omega) (by omega)

theorem nat_hid_lt (a : Nat) : (0 : Int) ≤ a := Int.natCast_nonneg a

set_option maxHeartbeats 1600000 in
theorem val_size_any {w : World} {B : Nat} {v : Val} {cs : Array Value} (h : VReads w B v cs) : ∀ w1, Below B w w1 → B ≤ w1.heap.size → Calls Try.prog 44 #[.agg cs] w1 (Says w1 (.int .i64 (IntKind.i64.wrap (sizeV v : Int)))) := by
  induction h with
  | @mk k i f s l A c xs css hn hr hx hxs ih =>
    intro w1 hb1 hB1
    have hfin := (Below.refl w1.heap.size w1).alloc (Nat.le_refl _) (.cells #[.int .i64 k, .int .i64 i, .float .f64 f, .string (bstr s), .slice A l.length c] 26)
    have hbs : (bstr s).size = s.length := bstr_size s
    by_cases hk4 : k = 4
    · have hsv : sizeV (.mk k i f s l) = 2 + sizeL l := by rw [hk4]; rfl
      rw [hsv]
      subst hk4
      have hb2 := hb1.trans (hfin.mono hB1)
      have hB2 := Nat.le_trans hB1 hfin.size
      replace ih := Lib.hid ih
      go_enter Try.func44, Try.ntmps44
      go_wp2_with fail
      generalize w1.alloc (.cells #[.int .i64 4, .int .i64 i, .float .f64 f, .string (bstr s), .slice A l.length c] 26) = w2 at *
      go_loopw [3, 28] (fun n i wr => ∃ j : Nat, ∃ z : Int, j ≤ l.length ∧ i = .int .i64 (j : Int) ∧ n = .int .i64 z ∧ z = IntKind.i64.wrap ((2 + sizeL (l.take j) : Nat) : Int) ∧ Below w2.heap.size w2 wr) (fun _ i _ => l.length - (intOf i).toNat)
      case atStart => exact ⟨0, 2, Nat.zero_le _, rfl, rfl, rfl, Below.refl _ _⟩
      case round =>
        rename_i hrel
        obtain ⟨j, z, hj, rfl, rfl, hz, hb⟩ := hrel
        replace hz := Lib.hid hz
        by_cases hlt : j < l.length
        · have hbb : Below B w wr := hb2.trans (hb.mono hB2)
          obtain ⟨ad, k', i', f', s', A', n', c', rfl, hform, hgk, g0, g1, g2, g3, g4⟩ := kid hr hx hxs hbb hlt
          have hss := sizeL_sum l j hlt
          have hfin3 := (Below.refl wr.heap.size wr).alloc (Nat.le_refl _) (.cells #[.int .i64 k', .int .i64 i', .float .f64 f', .string s', .slice A' n' c'] 26)
          have hcl := ih.out j l[j] hgk _ (hbb.trans (hfin3.mono (Nat.le_trans hB2 hb.size))) (Nat.le_trans (Nat.le_trans hB2 hb.size) hfin3.size)
          obtain ⟨u, hu⟩ : ∃ u, IntKind.i64.wrap (sizeV l[j] : Int) = u := ⟨_, rfl⟩
          rw [hform, hu] at hcl
          obtain ⟨y, hy⟩ : ∃ y, IntKind.i64.wrap (z + u) = y := ⟨_, rfl⟩
          have hnext : y = IntKind.i64.wrap ((2 + sizeL (l.take (j + 1)) : Nat) : Int) := by
            rw [← hy, hz.out, ← hu, w64_add, hss]
            congr 1
            omega
          have hb3 := hb.trans (hfin3.mono hb.size)
          replace hnext := Lib.hid hnext
          replace hfin3 := Lib.hid hfin3
          clear hss hform hgk hu hz
          have hsf := fun a k x m w => run_store_float (P := Try.prog) a k x m w
          go_wp2_with fail
          refine hcl.mono ?_
          clear hcl
          rintro e w4 ⟨rfl, hb4⟩
          dsimp only
          have hb4' := below_then hb4 hb3
          go_wp2_with fail
          go_roundw
          case rel => exact ⟨j + 1, y, by omega, by simp, rfl, hnext.out, by assumption⟩
          case measure => simp [intOf]; omega
        · have hj' : j = l.length := by omega
          subst hj'
          rw [List.take_length] at hz
          go_wp2_with fail
          go_ret
          exact ⟨by show Ending.returned (.int .i64 z) = _; rw [hz.out], below_then hb hfin⟩
    · by_cases h12 : k = 1 ∨ k = 2
      · have : sizeV (.mk k i f s l) = 9 := by unfold sizeV; rw [if_pos h12]
        rw [this]
        exact val_size_num k i f (bstr s) A l.length c w1 h12
      by_cases h3 : k = 3
      · have hs3 : sizeV (.mk k i f s l) = 3 + s.length := by rw [h3]; rfl
        rw [hs3]
        subst h3
        obtain ⟨x, hx2⟩ : ∃ x, IntKind.i64.wrap (2 + (s.length : Int)) = x := ⟨_, rfl⟩
        obtain ⟨y, hy⟩ : ∃ y, IntKind.i64.wrap (1 + x) = y := ⟨_, rfl⟩
        have e3 : IntKind.i64.wrap ((3 + s.length : Nat) : Int) = y := by
          rw [← hy, ← hx2]
          have := w64_add 1 (2 + (s.length : Int))
          rw [show IntKind.i64.wrap 1 = 1 from by decide] at this
          rw [this]
          congr 1
          omega
        rw [e3]
        clear h12 hk4 hs3 e3
        go_enter Try.func44, Try.ntmps44
        go_wp2_with fail
        go_ret
        exact ⟨rfl, hfin⟩
      · have hs1 : sizeV (.mk k i f s l) = 1 := by unfold sizeV; rw [if_neg h12, if_neg h3, if_neg hk4]
        rw [hs1]
        have k1 : (k == 1) = false := by rw [beq_eq_false_iff_ne]; omega
        have k2 : (k == 2) = false := by rw [beq_eq_false_iff_ne]; omega
        have k3 : (k == 3) = false := by rw [beq_eq_false_iff_ne]; omega
        have k4 : (k == 4) = false := by rw [beq_eq_false_iff_ne]; omega
        clear h12 hk4 hs1
        go_enter Try.func44, Try.ntmps44
        go_wp2
        go_ret
        exact ⟨rfl, hfin⟩

/-- What a Check says of what kinds, great and Size say. -/
theorem checkV_cases (v : Val) : (strangeV v = true ∧ checkV v = 31) ∨ (strangeV v = false ∧ greatV v 8 = true ∧ checkV v = 22) ∨ (strangeV v = false ∧ greatV v 8 = false ∧ 4096 < sizeV v ∧ checkV v = 22) ∨ (strangeV v = false ∧ greatV v 8 = false ∧ sizeV v ≤ 4096 ∧ checkV v = 0) := by
  unfold checkV
  cases strangeV v
  · cases greatV v 8
    · by_cases h : 4096 < sizeV v
      · exact .inr (.inr (.inl ⟨rfl, rfl, h, by simp [h]⟩))
      · exact .inr (.inr (.inr ⟨rfl, rfl, by omega, by simp [h]⟩))
    · exact .inr (.inl ⟨rfl, rfl, rfl⟩)
  · exact .inl ⟨rfl, rfl⟩

set_option maxHeartbeats 800000 in
theorem ref_check {w : World} {B : Nat} {v : Val} {cs : Array Value} (h : VReads w B v cs) (w1 : World) (hb1 : Below B w w1) (hB1 : B ≤ w1.heap.size) :
    Calls Try.prog 32 #[.agg cs] w1 (Says w1 (.int .i64 (checkV v : Int))) := by
  have hst := fun w2 (hb : Below w1.heap.size w1 w2) => ref_kinds h w2 (hb1.trans (hb.mono hB1)) (Nat.le_trans hB1 hb.size)
  have hgr := fun w2 (hb : Below w1.heap.size w1 w2) => ref_great h 0 w2 (by omega) (hb1.trans (hb.mono hB1)) (Nat.le_trans hB1 hb.size)
  have hsi := fun w2 (hb : Below w1.heap.size w1 w2) => ref_size h w2 (hb1.trans (hb.mono hB1)) (Nat.le_trans hB1 hb.size)
  have hc := checkV_cases v
  have hw := @great_w64 v
  obtain ⟨k, i, f, s, A, n, c, hform⟩ := h.form
  rw [hform] at hst hgr hsi ⊢
  simp only [show (8 : Int) - ((0 : Nat) : Int) = 8 from rfl] at hgr
  generalize strangeV v = b1 at *
  generalize greatV v 8 = b2 at *
  generalize checkV v = r at *
  generalize sizeV v = z at *
  obtain ⟨y, hy⟩ : ∃ y, IntKind.i64.wrap (z : Int) = y := ⟨_, rfl⟩
  rw [hy] at hsi hw
  replace hst := Lib.hid hst
  replace hgr := Lib.hid hgr
  replace hsi := Lib.hid hsi
  clear hform h hb1 hB1 hy
  have hS := SV.alloc w1 (Below.refl _ _) k i f s A n c
  go_enter Try.func32, Try.ntmps32
  go_wp2_with fail
  generalize w1.alloc (.cells #[.int .i64 k, .int .i64 i, .float .f64 f, .string s, .slice A n c] 26) = w2 at hS ⊢
  generalize hb : w1.heap.size = b at hS ⊢
  replace hb := Lib.hid hb
  refine (hst.out w2 hS.2.2.2.2.2.1).mono ?_
  rintro e w3 ⟨rfl, hb3⟩
  dsimp only
  have hS3 : SV b k i f s A n c w1 w3 := hS.below hb3
  obtain ⟨e0, e1, e2, e3, e4, e5, e6⟩ := id hS3
  rcases hc with ⟨rfl, rfl⟩ | ⟨rfl, rfl, rfl⟩ | ⟨rfl, rfl, hz, rfl⟩ | ⟨rfl, rfl, hz, rfl⟩
  · go_wp2_with fail
    go_ret
    exact ⟨rfl, e5⟩
  · go_wp2_with fail
    refine (hgr.out w3 e5).mono ?_
    rintro e w4 ⟨rfl, hb4⟩
    dsimp only
    have hb4' := below_then hb4 e5
    clear e0 e1 e2 e3 e4 e5 e6
    go_wp2_with fail
    go_ret
    exact ⟨rfl, hb4'⟩
  all_goals
    have hy := hw rfl
    subst hy
    go_wp2_with fail
    refine (hgr.out w3 e5).mono ?_
    rintro e w4 ⟨rfl, hb4⟩
    dsimp only
    have hS4 : SV b k i f s A n c w1 w4 := hS3.below hb4
    clear e0 e1 e2 e3 e4 e5 e6
    obtain ⟨e0, e1, e2, e3, e4, e5, e6⟩ := id hS4
    go_wp2_with fail
    refine (hsi.out w4 e5).mono ?_
    rintro e w5 ⟨rfl, hb5⟩
    dsimp only
    have hb5' := below_then hb5 e5
  · have hzi : (4096 : Int) < (z : Int) := by omega
    go_wp2_with fail
    go_ret
    exact ⟨rfl, hb5'⟩
  · have hzi : (z : Int) ≤ 4096 := by omega
    go_wp2_with fail
    go_ret
    exact ⟨rfl, hb5'⟩

set_option maxHeartbeats 800000 in
theorem val_check_any {w : World} {B : Nat} {v : Val} {cs : Array Value} (h : VReads w B v cs) (w1 : World) (hb1 : Below B w w1) (hB1 : B ≤ w1.heap.size) :
    Calls Try.prog 29 #[.agg cs] w1 (Says w1 (.int .i64 (checkV v : Int))) := by
  have hst := fun w2 (hb : Below w1.heap.size w1 w2) => val_strange h w2 (hb1.trans (hb.mono hB1)) (Nat.le_trans hB1 hb.size)
  have hgr := fun w2 (hb : Below w1.heap.size w1 w2) => val_great h 8 w2 (by omega) (by omega) (hb1.trans (hb.mono hB1)) (Nat.le_trans hB1 hb.size)
  have hsi := fun w2 (hb : Below w1.heap.size w1 w2) => val_size_any h w2 (hb1.trans (hb.mono hB1)) (Nat.le_trans hB1 hb.size)
  have hc := checkV_cases v
  have hw := @great_w64 v
  obtain ⟨k, i, f, s, A, n, c, hform⟩ := h.form
  rw [hform] at hst hgr hsi ⊢
  generalize strangeV v = b1 at *
  generalize greatV v 8 = b2 at *
  generalize checkV v = r at *
  generalize sizeV v = z at *
  obtain ⟨y, hy⟩ : ∃ y, IntKind.i64.wrap (z : Int) = y := ⟨_, rfl⟩
  rw [hy] at hsi hw
  replace hst := Lib.hid hst
  replace hgr := Lib.hid hgr
  replace hsi := Lib.hid hsi
  clear hform h hb1 hB1 hy
  have hS := SV.alloc w1 (Below.refl _ _) k i f s A n c
  go_enter Try.func29, Try.ntmps29
  go_wp2_with fail
  generalize w1.alloc (.cells #[.int .i64 k, .int .i64 i, .float .f64 f, .string s, .slice A n c] 26) = w2 at hS ⊢
  generalize hb : w1.heap.size = b at hS ⊢
  replace hb := Lib.hid hb
  refine (hst.out w2 hS.2.2.2.2.2.1).mono ?_
  rintro e w3 ⟨rfl, hb3⟩
  dsimp only
  have hS3 : SV b k i f s A n c w1 w3 := hS.below hb3
  obtain ⟨e0, e1, e2, e3, e4, e5, e6⟩ := id hS3
  rcases hc with ⟨rfl, rfl⟩ | ⟨rfl, rfl, rfl⟩ | ⟨rfl, rfl, hz, rfl⟩ | ⟨rfl, rfl, hz, rfl⟩
  · go_wp2_with fail
    go_ret
    exact ⟨rfl, e5⟩
  · go_wp2_with fail
    refine (hgr.out w3 e5).mono ?_
    rintro e w4 ⟨rfl, hb4⟩
    dsimp only
    have hb4' := below_then hb4 e5
    clear e0 e1 e2 e3 e4 e5 e6
    go_wp2_with fail
    go_ret
    exact ⟨rfl, hb4'⟩
  all_goals
    have hy := hw rfl
    subst hy
    go_wp2_with fail
    refine (hgr.out w3 e5).mono ?_
    rintro e w4 ⟨rfl, hb4⟩
    dsimp only
    have hS4 : SV b k i f s A n c w1 w4 := hS3.below hb4
    clear e0 e1 e2 e3 e4 e5 e6
    obtain ⟨e0, e1, e2, e3, e4, e5, e6⟩ := id hS4
    go_wp2_with fail
    refine (hsi.out w4 e5).mono ?_
    rintro e w5 ⟨rfl, hb5⟩
    dsimp only
    have hb5' := below_then hb5 e5
  · have hzi : (4096 : Int) < (z : Int) := by omega
    go_wp2_with fail
    go_ret
    exact ⟨rfl, hb5'⟩
  · have hzi : (z : Int) ≤ 4096 := by omega
    go_wp2_with fail
    go_ret
    exact ⟨rfl, hb5'⟩

theorem light_any {w : World} {B : Nat} {v : Val} {cs : Array Value} (h : VReads w B v cs) (w1 : World) (hb1 : Below B w w1) (hB1 : B ≤ w1.heap.size) :
    Calls Try.prog 10 #[.agg cs] w1 (fun e w' => ∃ q, e = .returned (.bool q) ∧ Below w1.heap.size w1 w') := by
  have hst := fun w2 (hb : Below w1.heap.size w1 w2) => ref_deep h 20 w2 (by omega) (hb1.trans (hb.mono hB1)) (Nat.le_trans hB1 hb.size)
  have hsi := fun w2 (hb : Below w1.heap.size w1 w2) => ref_size h w2 (hb1.trans (hb.mono hB1)) (Nat.le_trans hB1 hb.size)
  obtain ⟨k, i, f, s, A, n, c, hform⟩ := h.form
  rw [hform] at hst hsi ⊢
  obtain ⟨y, hy⟩ : ∃ y, IntKind.i64.wrap (sizeV v : Int) = y := ⟨_, rfl⟩
  rw [hy] at hsi
  replace hst := Lib.hid hst
  replace hsi := Lib.hid hsi
  clear hform h hb1 hB1 hy
  have hS := SV.alloc w1 (Below.refl _ _) k i f s A n c
  go_enter Try.func10, Try.ntmps10
  go_wp2_with fail
  generalize w1.alloc (.cells #[.int .i64 k, .int .i64 i, .float .f64 f, .string s, .slice A n c] 26) = w2 at hS ⊢
  generalize hb : w1.heap.size = b at hS ⊢
  replace hb := Lib.hid hb
  refine (hst.out w2 hS.2.2.2.2.2.1).mono ?_
  rintro e w3 ⟨q, rfl, hb3⟩
  dsimp only
  have hS3 : SV b k i f s A n c w1 w3 := hS.below hb3
  obtain ⟨e0, e1, e2, e3, e4, e5, e6⟩ := id hS3
  cases q
  · go_wp2_with fail
    refine (hsi.out w3 e5).mono ?_
    rintro e w4 ⟨rfl, hb4⟩
    dsimp only
    have hb4' := below_then hb4 e5
    go_wp2_with fail
    go_ret
    exact ⟨_, rfl, hb4'⟩
  · go_wp2_with fail
    go_ret
    exact ⟨_, rfl, e5⟩
end Go.Proofs.Ytafogjonicdbmaa
