/- GuardEach: functions are run in order up to the first that tells an error or panics. -/
import Derived.Test.YtffpkencgbiafaaDoorGe2
set_option linter.unusedSimpArgs false
set_option linter.unusedVariables false
namespace Go.Proofs.YtffpkencgbiafaaDoor
open Go.RowKit
set_option maxRecDepth 100000

theorem info_f : (Tryd.prog.info? 35).map (fun i => (i.zero, i.size, i.bytes)) = some (some .nilFunc, 1, 8) := by kernel_rfl
/-- What the law counts on: the first number of 220 or more ahead of K, if there is one. -/
def Firsts (ks : List Nat) (K : Nat) (wv cv : Int) : Prop :=
  (wv = 0 ∧ cv = (K : Int) ∧ Light ks K) ∨ ∃ m k, m < K ∧ ks[m]? = some k ∧ 220 ≤ k ∧ Light ks m ∧ wv = resE k ∧ cv = (m : Int) + 1
theorem Light.succ {ks : List Nat} {K k : Nat} (h : Light ks K) (hk : ks[K]? = some k) (hl : k < 220) : Light ks (K + 1) := by
  intro j k' hj hjk
  rcases Nat.lt_or_ge j K with h' | h'
  · exact h j k' h' hjk
  · have : j = K := by omega
    subst this
    rw [hk] at hjk
    cases hjk
    exact hl
theorem light_first {ks : List Nat} {m m' k k' : Nat} (h : Light ks m) (h' : Light ks m') (hk : ks[m]? = some k) (hk' : ks[m']? = some k') (h2 : 220 ≤ k) (h2' : 220 ≤ k') : m = m' := by
  rcases Nat.lt_trichotomy m m' with e | e | e
  · have := h' m k e hk; omega
  · exact e
  · have := h m' k' e hk'; omega
theorem resE_pos {k : Nat} (h : 220 ≤ k) : resE k ≠ 0 := by unfold resE; split <;> (try split) <;> omega
theorem Fns.push {w : World} {g K k p q r : Nat} {fs : List Value} {ks : List Nat} (h : Fns w g fs (ks.take K)) (hk : ks[K]? = some k) (hO : Ob w g p q r k (K : Int)) (hf : fs.length = K) : Fns w g (fs ++ [oneF p q r]) (ks.take (K + 1)) := by
  have hK : K < ks.length := (List.getElem?_eq_some_iff.1 hk).1
  refine ⟨by rw [List.length_append, hf, List.length_take]; simp; omega, fun j k' hj => ?_⟩
  rw [List.getElem?_take] at hj
  split at hj
  · rename_i hlt
    rcases Nat.lt_or_ge j K with h' | h'
    · obtain ⟨p', q', r', h1, h2⟩ := h.2 j k' (by rw [List.getElem?_take, if_pos h']; exact hj)
      exact ⟨p', q', r', by rw [List.getElem?_append_left (by omega)]; exact h1, h2⟩
    · have : j = K := by omega
      subst this
      rw [hk] at hj
      cases hj
      exact ⟨p, q, r, by rw [List.getElem?_append_right (by omega), hf, Nat.sub_self]; rfl, hO⟩
  · cases hj
set_option maxHeartbeats 6400000 in
theorem guardEach_walk (A : Option Addr) (c : Nat) (bs : List UInt8) (w : World) (hr : Reads w w.heap.size 1 A bs.length (bys bs)) (hl : bs.length ≤ 140737488351232) : Calls Tryd.prog 6 #[.slice A bs.length c] w (fun e w' => e = .returned (.bool true) ∧ Below w.heap.size w w') := by
  obtain ⟨i0, hi, hz0, hz1, hz2⟩ := info_parts info_f
  have hkn := known_true w
  replace hkn := Lib.hid hkn
  obtain ⟨N, hN⟩ : ∃ q, bs.length = q := ⟨_, rfl⟩
  rw [hN] at hr hl ⊢
  replace hr := Lib.hid hr
  replace hN := Lib.hid hN
  go_enter Tryd.func6, Tryd.ntmps6
  go_wp2_with fail
  refine hkn.out.mono ?_
  clear hkn
  rintro e w1 ⟨rfl, hb1⟩
  try dsimp only
  by_cases h30 : 30 < N
  · have d30 : decide ((30 : Int) < (N : Int)) = true := decide_eq_true (by omega)
    have d30' : decide (30 < N) = true := decide_eq_true h30
    go_wp2_with fail
    go_ret
    exact ⟨rfl, hb1⟩
  · have d30 : decide ((30 : Int) < (N : Int)) = false := decide_eq_false (by omega)
    have d30' : decide (30 < N) = false := decide_eq_false h30
    obtain ⟨g, hg⟩ : ∃ y, w1.heap.size = y := ⟨_, rfl⟩
    have hz5 := Blk.new w1 3 #[.int .i64 0]
    have hb5 := (Below.refl w1.heap.size w1).alloc (Nat.le_refl _) (.cells #[.int .i64 0] 3)
    have hb5' := below_then hb5 hb1
    have hwg : w.heap.size ≤ g := by rw [← hg]; exact hb1.size
    rw [hg] at hz5
    go_upto_region 6 with (fail)
    generalize w1.alloc (.cells #[.int .i64 0] 3) = w5 at *
    clear hb5 hb1 hg d30 d30'
    go_upto_region 9 with (fail)
    obtain ⟨ks, hks⟩ : ∃ q, bs.map (fun b => b.toNat) = q := ⟨_, rfl⟩
    have hksl : ks.length = N := by rw [← hks, List.length_map]; exact hN.out
    have hk255 : ∀ k ∈ ks, k ≤ 255 := by
      intro k hk
      rw [← hks, List.mem_map] at hk
      obtain ⟨b, -, rfl⟩ := hk
      have := b.toNat_lt
      omega
    replace hk255 := Lib.hid hk255
    go_loopw [4, 5, 6, 7] (fun f want count i wr => ∃ (K : Nat) (wv cv : Int) (A' : Option Addr) (c' : Nat) (fs : List Value), K ≤ N ∧ f = .slice A' K c' ∧ want = .int .i64 wv ∧ count = .int .i64 cv ∧ i = .int .i64 (K : Int) ∧ Firsts ks K wv cv ∧ Own wr 35 1 A' K c' fs ∧ Fns wr g fs (ks.take K) ∧ Blk wr g 3 #[.int .i64 0] ∧ Below w.heap.size w wr ∧ ∀ y, bOf A' = some y → w.heap.size ≤ y) (fun _ _ _ i _ => N - (intOf i).toNat)
    case atStart => exact ⟨0, 0, 0, none, 0, [], Nat.zero_le _, rfl, rfl, rfl, rfl, .inl ⟨rfl, rfl, fun j k h => absurd h (by omega)⟩, Own.none_, ⟨by simp, fun j k h => by simp at h⟩, hz5, hb5', fun y h => by cases h⟩
    case round =>
      obtain ⟨K, wv, cv, A', c', fs, hK, rfl, rfl, rfl, rfl, hFi, ho, hF, h9, hb, hA'⟩ := hrel
      by_cases hlt : K < N
      · obtain ⟨b, hbK⟩ : ∃ b, bs[K]? = some b := ⟨_, List.getElem?_eq_getElem (by rw [hN.out]; exact hlt)⟩
        obtain ⟨k, hkb⟩ : ∃ k, b.toNat = k := ⟨_, rfl⟩
        have hkk : ks[K]? = some k := by rw [← hks, List.getElem?_map, hbK, ← hkb]; rfl
        have hk2 := hk255.out k (List.mem_of_getElem? hkk)
        obtain ⟨ad, u, rfl, hadB, hu, hcell⟩ := (hr.out.below hb).at_ hlt
        have hu' : u = .int .u8 (k : Int) := by
          have h' : (bys bs)[K]? = some (byv b) := by simp [bys, hbK]
          rw [h'] at hu
          cases hu
          rw [← hkb]
          rfl
        subst hu'
        have hmk := one_walk g k (K : Int) wr h9.lt
        have hd : decide ((K : Int) < (N : Int)) = true := decide_eq_true (by omega)
        have hkw : IntKind.i64.wrap ((K : Int) + 1) = (K : Int) + 1 := by rw [IntKind.wrap_i64]; omega
        replace hmk := Lib.hid hmk
        replace hFi := Lib.hid hFi
        replace ho := Lib.hid ho
        replace hF := Lib.hid hF
        replace h9 := Lib.hid h9
        replace hb := Lib.hid hb
        replace hA' := Lib.hid hA'
        replace hb5' := Lib.hid hb5'
        replace hz5 := Lib.hid hz5
        unfold ptr at hmk
        clear hu hbK hkb hks hksl
        go_upto_region 11 with (fail)
        have hcell0 := hcell
        go_wp2_with fail
        refine hmk.out.mono ?_
        clear hmk
        rintro e w6 ⟨p, q, r, rfl, hO, hb6, -, -, -⟩
        try dsimp only
        have h96 := h9.out.below hb6 h9.out.lt
        have ho6 := ho.out.below hb6 (Nat.le_refl _)
        have hF6 := (hF.out.next hb6).push hkk hO (by have := ho.out.len; omega)
        have hbw6 := below_then hb6 hb.out
        have hb7 := (Below.refl w6.heap.size w6).alloc (Nat.le_refl _) (.cells #[oneF p q r] 35)
        have hsrc := Reads.lit (size := 1) w6 #[oneF p q r] 35 (0, 0) 1 [oneF p q r] rfl rfl
        have ho7 := ho6.alloc (.cells #[oneF p q r] 35)
        have hF7 := hF6.next hb7
        have h97 := h96.below hb7 h96.lt
        have hbw7 := below_then hb7 hbw6
        have hcell7 : (w6.alloc (.cells #[oneF p q r] 35)).cell? (ad.add K) = some (.int .u8 (k : Int)) := ((below_then hb7 hb6).cell (by rw [block_of_add]; have := hb.out.size; omega)).trans hcell0
        obtain ⟨fs', hfs'⟩ : ∃ q', q' = fs ++ [oneF p q r] := ⟨_, rfl⟩
        rw [← hfs'] at hF7
        replace hF7 := Lib.hid hF7
        replace h97 := Lib.hid h97
        replace hbw7 := Lib.hid hbw7
        replace hcell7 := Lib.hid hcell7
        replace hfs' := Lib.hid hfs'
        unfold oneF fv ptr at hsrc ho7 hF7 h97 hbw7 hcell7
        unfold oneF fv ptr
        clear hO hb6 h96 ho6 hF6 hbw6 hb7 hcell
        go_upto_region 12 with (at_builtin; go_must (refine wpList_append_mine rfl _ _ 46 46 rfl 35 i0 _ 1 8 Tryd.underlying46 hi hz0 hz1 hz2 rfl rfl ho7 rfl (Src.ofReads Tryd.underlying46 _ hsrc (by intro u hu; simp only [List.mem_cons, List.not_mem_nil, or_false] at hu; subst hu; rfl)) (by unfold maxLen; omega) (by omega) (fun A10 c10 w10 ho10 hg10 hat10 => ?_)))
        have hF10 := hF7.out.grown ho7 (by decide) (by decide) (by decide) hg10
        have h910 := h97.out.grown hg10 (fun e => ho7.ne_blk h97.out (by decide) e.symm)
        have hb10 : Below w.heap.size w w10 := hbw7.out.grown hg10 hbw7.out.size (fun y hy => hA'.out y hy)
        have hA10 : ∀ y, bOf A10 = some y → w.heap.size ≤ y := fun y hy => by
          rcases hat10 with e | e <;> rw [e] at hy
          · exact hA'.out y hy
          · cases hy; exact hbw7.out.size
        have hcell10 : w10.cell? (ad.add K) = some (.int .u8 (k : Int)) := (World.cell?_of_block (hg10.block _ (by rw [block_of_add]; have := hbw7.out.size; omega) (fun e => by rw [block_of_add] at e; have := hA'.out _ e.symm; omega))).trans hcell7.out
        replace ho10 : Own w10 35 1 A10 (K + 1) c10 fs' := by rw [hfs'.out]; exact ho10
        clear ho7 hg10 hat10 hsrc hF7 h97 hbw7 hcell7 hfs' ho hF h9 hb hA' hcell0
        replace hF10 := Lib.hid hF10
        replace h910 := Lib.hid h910
        replace hb10 := Lib.hid hb10
        replace hA10 := Lib.hid hA10
        replace ho10 := Lib.hid ho10
        rcases hFi.out with ⟨rfl, rfl, hLi⟩ | ⟨m, km, hm, hkm, h220m, hLm, hwv, rfl⟩
        · replace hLi := Lib.hid hLi
          by_cases h240 : 240 ≤ k
          · have d1 : decide ((k : Int) ≥ 240) = true := by simp; omega
            clear hFi
            go_wp2_with fail
            go_roundw
            case rel => exact ⟨K + 1, 34, (K : Int) + 1, A10, c10, _, by omega, by rfl, by simp, by simp, by simp, .inr ⟨K, k, by omega, hkk, by omega, hLi.out, by unfold resE; rw [if_pos h240], rfl⟩, ho10.out, hF10.out, h910.out, hb10.out, hA10.out⟩
            case measure => simp [intOf]; omega
          · have d1 : decide ((k : Int) ≥ 240) = false := by simp; omega
            by_cases h220 : 220 ≤ k
            · have d2 : decide ((k : Int) ≥ 220) = true := by simp; omega
              have hcv : IntKind.i64.wrap (k : Int) = (k : Int) := by rw [IntKind.wrap_i64]; omega
              clear hFi
              go_wp2_with fail
              go_roundw
              case rel => exact ⟨K + 1, (k : Int), (K : Int) + 1, A10, c10, _, by omega, by rfl, by simp, by simp, by simp, .inr ⟨K, k, by omega, hkk, h220, hLi.out, by unfold resE; rw [if_neg h240, if_pos h220], rfl⟩, ho10.out, hF10.out, h910.out, hb10.out, hA10.out⟩
              case measure => simp [intOf]; omega
            · have d2 : decide ((k : Int) ≥ 220) = false := by simp; omega
              clear hFi
              go_wp2_with fail
              go_roundw
              case rel => exact ⟨K + 1, 0, (K : Int) + 1, A10, c10, _, by omega, by rfl, by simp, by simp, by simp, .inl ⟨rfl, by simp, hLi.out.succ hkk (by omega)⟩, ho10.out, hF10.out, h910.out, hb10.out, hA10.out⟩
              case measure => simp [intOf]; omega
        · have hne : wv ≠ 0 := by rw [hwv]; exact resE_pos h220m
          have hne1 : (wv == 0) = false := by rw [beq_eq_false_iff_ne]; exact hne
          have hne2 : decide (wv = 0) = false := decide_eq_false hne
          replace hLm := Lib.hid hLm
          replace hwv := Lib.hid hwv
          clear hFi
          go_wp2_with fail
          go_roundw
          case rel => exact ⟨K + 1, wv, (m : Int) + 1, A10, c10, _, by omega, by rfl, by simp, by simp, by simp, .inr ⟨m, km, by omega, hkm, h220m, hLm.out, hwv.out, rfl⟩, ho10.out, hF10.out, h910.out, hb10.out, hA10.out⟩
          case measure => simp [intOf]; omega
      · have hk' : K = N := by omega
        subst K
        have hd : decide ((N : Int) < (N : Int)) = false := decide_eq_false (by omega)
        rw [List.take_of_length_le (by omega)] at hF
        have hea := each_walk ho hF hksl (by omega) hk255.out h9
        replace hea := Lib.hid hea
        replace hFi := Lib.hid hFi
        clear ho hF h9 hA' hks
        go_wp2_with fail
        refine hea.out.mono ?_
        clear hea
        rintro e w8 ⟨hu8, hcase⟩
        have hb8 : Below w.heap.size w w8 := hb.trans (hu8.below hb.size (fun k hk e => by omega))
        clear hu8 hb
        replace hb8 := Lib.hid hb8
        rcases hcase with ⟨m, k, hm, hkm, h220, hLm, rfl, h98⟩ | ⟨hL, A2, c2, rfl, hv, h98⟩
        · have hfirst : wv = resE k ∧ cv = (m : Int) + 1 := by
            rcases hFi.out with ⟨-, -, hLi⟩ | ⟨m', k', hm', hkm', h220', hLm', hwv, hcv⟩
            · exact absurd (hLi m k hm hkm) (by omega)
            · have hmm := light_first hLm hLm' hkm hkm' h220 h220'
              subst hmm
              rw [hkm] at hkm'
              cases hkm'
              exact ⟨hwv, hcv⟩
          obtain ⟨her, rfl⟩ := hfirst
          have hne : wv ≠ 0 := by rw [her]; exact resE_pos h220
          have hne1 : decide (wv ≠ 0) = true := decide_eq_true hne
          rw [← her]
          try dsimp only
          replace hFi := Lib.hid her
          have c9 := h98.cell 0
          clear her h98 hLm
          go_wp2_with fail
          go_ret
          exact ⟨rfl, hb8.out⟩
        · have hfirst : wv = 0 ∧ cv = (N : Int) := by
            rcases hFi.out with ⟨h1, h2, -⟩ | ⟨m', k', hm', hkm', h220', -, -, -⟩
            · exact ⟨h1, h2⟩
            · exact absurd (hL m' k' hm' hkm') (by omega)
          obtain ⟨rfl, rfl⟩ := hfirst
          try dsimp only
          have c9 := h98.cell 0
          replace hv := Lib.hid hv
          clear hL h98
          go_upto_region 26 with (fail)
          clear c9
          go_loopw [10] (fun z wr => ∃ J : Nat, J ≤ N ∧ z = .int .i64 (J : Int) ∧ wr = w8) (fun z _ => N - (intOf z).toNat)
          case atStart => exact ⟨0, Nat.zero_le _, by first | rfl | trivial, by first | rfl | trivial⟩
          case round =>
            obtain ⟨J, hJ, rfl, rfl⟩ := hrel
            by_cases hJl : J < N
            · have hd2 : decide ((J : Int) < (N : Int)) = true := decide_eq_true (by omega)
              have hkw : IntKind.i64.wrap ((J : Int) + 1) = (J : Int) + 1 := by rw [IntKind.wrap_i64]; omega
              rcases hv.out.2 with ⟨-, h0, -⟩ | ⟨g2, cur, rfl, hb2, -, -, -, htake⟩
              · exact absurd hJl (by omega)
              · have hat := vrow_at N J hJl
                rw [← htake, List.getElem?_take, if_pos (by omega)] at hat
                have hc2 : wr.cell? ⟨g2, J * 5 + 1, none⟩ = some (.int .i64 (J : Int)) := by rw [hb2.cell]; simpa using hat
                clear hat htake hb2
                go_wp2_with fail
                go_roundw
                case rel => exact ⟨J + 1, by omega, by simp, by first | rfl | trivial⟩
                case measure => simp [intOf]; omega
            · have hJN : J = N := by omega
              subst J
              have hd2 : decide ((N : Int) < (N : Int)) = false := decide_eq_false (by omega)
              go_wp2_with fail
              go_ret
              exact ⟨rfl, hb8.out⟩
end Go.Proofs.YtffpkencgbiafaaDoor
