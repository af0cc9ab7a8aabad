/- ValueTexts: the walk. -/
import Derived.Test.YtdbmffagibnibaaGreatDoorFg6
import Derived.Test.YtdbmffagibnibaaGreatDoorFord
set_option linter.unusedSimpArgs false
set_option linter.unusedVariables false
namespace Go.Proofs.YtdbmffagibnibaaGreatDoor
open Go.RowKit Go.Sort Go.Lib
set_option maxRecDepth 100000

def pointB (c : UInt8) : Bool := decide (c.toNat = 46) || decide (c.toNat = 101) || decide (c.toNat = 78) || decide (c.toNat = 73)
theorem any_take (l : List UInt8) (j : Nat) (c : UInt8) (h : l[j]? = some c) : (l.take (j + 1)).any pointB = ((l.take j).any pointB || pointB c) := by
  rw [List.take_add_one, h]
  simp
theorem text_point (f : Nat) (S : List UInt8) (hS : Shape f S) : (textF f S).any pointB = true := by
  unfold textF
  rcases Nat.lt_trichotomy (f % 9223372036854775808) 9218868437227405312 with a | a | a
  · rw [decide_eq_true a, Bool.true_and]
    by_cases h1 : 46 ∈ S
    · have : S.contains 46 = true := by simpa using h1
      rw [this, if_neg (by simp), List.any_eq_true]
      exact ⟨46, h1, by decide⟩
    · by_cases h2 : 101 ∈ S
      · have : S.contains 101 = true := by simpa using h2
        rw [this, if_neg (by simp), List.any_eq_true]
        exact ⟨101, h2, by decide⟩
      · have e1 : S.contains 46 = false := by simpa using h1
        have e2 : S.contains 101 = false := by simpa using h2
        rw [e1, e2, if_pos (show (!false && !false) = true from rfl), List.any_append]
        simp [pointB]
  · rw [decide_eq_false (by omega)]
    rcases hS.inf a with e | e <;> subst e <;> decide
  · rw [decide_eq_false (by omega)]
    have e := hS.nan a
    subst e; decide
theorem cb_cb (f : Nat) : cb (cb f) = cb f := by
  unfold cb
  cases h : nanB f
  · simp [h]
  · simp only [if_true]
    rw [if_pos (by decide)]
theorem text_zero (f : Nat) (S : List UInt8) (hS : Shape (cb f) S) (h : keyF f = 0) : textF (cb f) S = [48, 46, 48] ∨ textF (cb f) S = [45, 48, 46, 48] := by
  have hm : f % 9223372036854775808 = 0 := by
    unfold keyF at h
    have hz : magF (f % 9223372036854775808) = magF 0 := by rw [magF_zero]; split at h <;> omega
    exact magF_inj hz
  have hn : nanB f = false := by unfold nanB; rw [hm]; rfl
  have hcb : cb f = f := by unfold cb; rw [hn]; rfl
  rw [hcb] at hS ⊢
  unfold textF
  rw [hm]
  rcases hS.zero hm with e | e <;> subst e
  · exact .inl rfl
  · exact .inr rfl
theorem text_nan (f : Nat) (S : List UInt8) (hS : Shape (cb f) S) (h : nanB f = true) : textF (cb f) S = [78, 97, 78] := by
  have hcb : cb f = 9221120237041090561 := by unfold cb; rw [h]; rfl
  rw [hcb] at hS ⊢
  have e := hS.nan (by decide)
  subst e
  rfl

set_option maxHeartbeats 12800000 in
theorem valueTexts_walk (n : Int) (f : Nat) (h0 : -9223372036854775808 ≤ n) (h1 : n ≤ 9223372036854775807) (hf : f < 18446744073709551616) (w : World) (hL : TabA w) (hkn : Calls Tryz.prog 9 #[] w (Says w (.bool true))) :
    Calls Tryz.prog 7 #[.int .i64 n, .float .f64 f] w (Says w (.bool true)) := by
  have hFl := cb_lt hf
  obtain ⟨S, hS, H⟩ := format_any (cb f) hFl
  have hP1 := text_point _ _ hS
  have hP2 := text_zero f S hS
  have hP3 := text_nan f S hS
  have hit := fun W (hW : RowKit.Below w.heap.size w W) => text_int n h0 h1 W (hL.next hW)
  have his := fun W (hW : RowKit.Below w.heap.size w W) => show_int n h0 h1 W (hL.next hW)
  have hft := fun W (hW : RowKit.Below w.heap.size w W) => text_flt (cb f) S hS hFl H W (hL.next hW)
  have hfs := fun W (hW : RowKit.Below w.heap.size w W) => show_flt (cb f) S hS (cb_cb f) H W (hL.next hW)
  have hir := fun W => int_ref n W
  have hfr := fun W => float_ref f W
  have hz := ord_zero f
  have he := ord_eq f f
  have hln : (textF (cb f) S).length ≤ 102 := by
    have := hS.len
    unfold textF
    split
    · simp; omega
    · omega
  obtain ⟨F, hF⟩ : ∃ F, cb f = F := ⟨_, rfl⟩
  rw [hF] at hft hfs hfr hP1 hP2 hP3 hln
  obtain ⟨l, hl⟩ : ∃ l, textF F S = l := ⟨_, rfl⟩
  rw [hl] at hft hfs hP1 hP2 hP3 hln
  obtain ⟨L, hLn⟩ : ∃ L, l.length = L := ⟨_, rfl⟩
  have hsz : (bstr l).size = L := by rw [bstr_size, hLn]
  have hidx0 : ∀ (j : Nat) (c : UInt8), l[j]? = some c → (∀ W, (Instr.index 9 (.string (bstr l)) (.int .i64 (j : Int))).run Tryz.prog W = .ok (.int .u8 (c.toNat : Int)) W) ∧ ∀ h : j < (bstr l).size, ((bstr l)[j]'h).toNat = c.toNat := fun j c h => by
    have hj : j < l.length := (List.getElem?_eq_some_iff.1 h).1
    have he := (List.getElem?_eq_some_iff.1 h).2
    have hjs : j < (bstr l).size := by rw [bstr_size]; exact hj
    refine ⟨fun W => ?_, fun h' => ?_⟩
    · rw [run_index_string (h := Tryz.underlying9), dif_pos ⟨by omega, by omega⟩]
      have hg : (bstr l)[(j : Int).toNat]'(by simpa using hjs) = c := by
        show (bstr l).data[(j : Int).toNat]'_ = c
        simp [bstr, he]
      rw [hg]
    · show ((bstr l).data[j]'_).toNat = _
      simp [bstr, he]
  have htl : (bstr l).toList = l := bstr_toList l
  obtain ⟨s, hs⟩ : ∃ s, bstr l = s := ⟨_, rfl⟩
  rw [hs] at hft hfs hsz hidx0 htl
  obtain ⟨t, ht⟩ : ∃ t, (⟨(Lib.itoa n).toArray⟩ : ByteArray) = t := ⟨_, rfl⟩
  rw [ht] at hit his
  replace hs := Lib.hid hs
  replace ht := Lib.hid ht
  replace hl := Lib.hid hl
  replace hLn := Lib.hid hLn
  replace hF := Lib.hid hF
  replace hit := Lib.hid hit
  replace his := Lib.hid his
  replace hft := Lib.hid hft
  replace hfs := Lib.hid hfs
  replace hir := Lib.hid hir
  replace hfr := Lib.hid hfr
  replace hidx0 := Lib.hid hidx0
  replace hP1 := Lib.hid hP1
  replace hP2 := Lib.hid hP2
  replace hP3 := Lib.hid hP3
  replace hz := Lib.hid hz
  replace he := Lib.hid he
  replace hkn := Lib.hid hkn
  replace htl := Lib.hid htl
  have hL100 : L ≤ 102 := by rw [← hLn.out]; exact hln
  clear hS H h0 h1 hf hFl hln hL
  go_enter Tryz.func7, Tryz.ntmps7
  go_wp2_with fail
  refine hkn.out.mono ?_
  clear hkn
  rintro e w1 ⟨rfl, l1⟩
  dsimp only
  go_wp2_with fail
  refine (hir.out _).mono ?_
  rintro e w2 ⟨rfl, hb2⟩
  dsimp only
  have l2 := below_then hb2 l1
  go_wp2_with fail
  refine (hit.out _ l2).mono ?_
  rintro e w3 ⟨rfl, hb3⟩
  dsimp only
  have l3 := below_then hb3 l2
  go_wp2_with fail
  refine (hfr.out _).mono ?_
  rintro e w4 ⟨rfl, hb4⟩
  dsimp only
  have l4 := below_then hb4 l3
  go_wp2_with fail
  refine (hft.out _ l4).mono ?_
  rintro e w5 ⟨rfl, hb5⟩
  dsimp only
  have l5 := below_then hb5 l4
  clear l1 l2 l3 l4 hb2 hb3 hb4 hb5 hit hft
  go_wp2_with fail
  go_loopw [7, 8] (fun a b wr => ∃ (i : Nat) (p : Bool), a = .bool p ∧ b = .int .i64 (i : Int) ∧ i ≤ L ∧ (l.take i).any pointB = p ∧ wr = w5) (fun _ b _ => L - (RowKit.intOf b).toNat)
  case atStart => exact ⟨0, false, rfl, rfl, Nat.zero_le _, by simp, by first | rfl | trivial⟩
  case round =>
    rename_i hrel
    obtain ⟨i, p, rfl, rfl, hi, hp, rfl⟩ := hrel
    by_cases hlt : i < L
    · have hd : decide ((i : Int) < (L : Int)) = true := decide_eq_true (by omega)
      obtain ⟨c, hc⟩ : ∃ c, l[i]? = some c := ⟨_, List.getElem?_eq_getElem (by rw [hLn.out]; exact hlt)⟩
      obtain ⟨hix, hgs⟩ := hidx0.out i c hc
      have hnx := any_take l i c hc
      rw [hp] at hnx
      unfold pointB at hnx
      obtain ⟨v, hv⟩ : ∃ v, c.toNat = v := ⟨_, rfl⟩
      rw [hv] at hix hnx
      simp only [hv] at hgs
      replace hnx := Lib.hid hnx
      have hp' := Lib.hid hp
      clear hp hc
      have ROUND := True.intro
      cases p
      · by_cases a1 : v = 46
        · have d1 : ((v : Int) == 46) = true := by subst a1; rfl
          have e1 : decide (v = 46) = true := decide_eq_true a1
          replace a1 := Lib.hid a1
          go_wp2_with fail
          go_roundw
          case rel => exact ⟨i + 1, true, rfl, by go_num, by omega, by have := hnx.out; unfold pointB; rw [this, e1]; simp, trivial⟩
          case measure => simp [RowKit.intOf]; omega
        · have d1 : ((v : Int) == 46) = false := by rw [beq_eq_false_iff_ne]; omega
          have e1 : decide (v = 46) = false := decide_eq_false a1
          replace a1 := Lib.hid a1
          by_cases a2 : v = 101
          · have d2 : ((v : Int) == 101) = true := by subst a2; rfl
            have e2 : decide (v = 101) = true := decide_eq_true a2
            replace a2 := Lib.hid a2
            go_wp2_with fail
            go_roundw
            case rel => exact ⟨i + 1, true, rfl, by go_num, by omega, by have := hnx.out; unfold pointB; rw [this, e2]; simp, trivial⟩
            case measure => simp [RowKit.intOf]; omega
          · have d2 : ((v : Int) == 101) = false := by rw [beq_eq_false_iff_ne]; omega
            have e2 : decide (v = 101) = false := decide_eq_false a2
            replace a2 := Lib.hid a2
            by_cases a3 : v = 78
            · have d3 : ((v : Int) == 78) = true := by subst a3; rfl
              have e3 : decide (v = 78) = true := decide_eq_true a3
              replace a3 := Lib.hid a3
              go_wp2_with fail
              go_roundw
              case rel => exact ⟨i + 1, true, rfl, by go_num, by omega, by have := hnx.out; unfold pointB; rw [this, e3]; simp, trivial⟩
              case measure => simp [RowKit.intOf]; omega
            · have d3 : ((v : Int) == 78) = false := by rw [beq_eq_false_iff_ne]; omega
              have e3 : decide (v = 78) = false := decide_eq_false a3
              replace a3 := Lib.hid a3
              by_cases a4 : v = 73
              · have d4 : ((v : Int) == 73) = true := by subst a4; rfl
                have e4 : decide (v = 73) = true := decide_eq_true a4
                replace a4 := Lib.hid a4
                go_wp2_with fail
                go_roundw
                case rel => exact ⟨i + 1, true, rfl, by go_num, by omega, by have := hnx.out; unfold pointB; rw [this, e4]; simp, trivial⟩
                case measure => simp [RowKit.intOf]; omega
              · have d4 : ((v : Int) == 73) = false := by rw [beq_eq_false_iff_ne]; omega
                have e4 : decide (v = 73) = false := decide_eq_false a4
                replace a4 := Lib.hid a4
                go_wp2_with fail
                go_roundw
                case rel => exact ⟨i + 1, false, rfl, by go_num, by omega, by have := hnx.out; unfold pointB; rw [this, e1, e2, e3, e4]; rfl, trivial⟩
                case measure => simp [RowKit.intOf]; omega
      · go_wp2_with fail
        go_roundw
        case rel => exact ⟨i + 1, true, rfl, by go_num, by omega, by have := hnx.out; unfold pointB; rw [this]; simp, trivial⟩
        case measure => simp [RowKit.intOf]; omega
    · obtain rfl : i = L := by omega
      have hd : decide ((i : Int) < (i : Int)) = false := decide_eq_false (by omega)
      have hall : p = true := by rw [← hp, ← hLn.out, List.take_length]; exact hP1.out
      subst hall
      clear hp
      go_wp2_with fail
      refine (hir.out _).mono ?_
      rintro e w6 ⟨rfl, hb6⟩
      dsimp only
      have l6 := below_then hb6 l5
      go_wp2_with fail
      refine (his.out _ l6).mono ?_
      rintro e w7 ⟨rfl, hb7⟩
      dsimp only
      have l7 := below_then hb7 l6
      go_wp2_with fail
      refine (hfr.out _).mono ?_
      rintro e w8 ⟨rfl, hb8⟩
      dsimp only
      have l8 := below_then hb8 l7
      go_wp2_with fail
      refine (hfs.out _ l8).mono ?_
      rintro e w9 ⟨rfl, hb9⟩
      dsimp only
      have l9 := below_then hb9 l8
      clear l5 l6 l7 l8 hb6 hb7 hb8 hb9
      have hz' := hz.out
      have he' := he.out
      by_cases k0 : keyF f = 0
      · rw [decide_eq_true k0] at hz'
        have hn : nanB f = false := by
          cases hq : nanB f
          · rfl
          · have a := hP3.out hq
            rcases hP2.out k0 with b | b <;> rw [a] at b <;> cases b
        rw [hn] at he'
        have hzn : (FloatKind.f64.format.order f 0 != some Ordering.eq) = false := by unfold bne; rw [hz']; rfl
        have hee : (FloatKind.f64.format.order f f == some Ordering.eq) = true := by rw [he']; simp
        rcases hP2.out k0 with a | a
        · obtain rfl : s = ⟨#[48, 46, 48]⟩ := by rw [← hs.out, a]; rfl
          clear hz' he' k0 hn
          go_wp2_with fail
          go_ret
          exact ⟨rfl, l9⟩
        · obtain rfl : s = ⟨#[45, 48, 46, 48]⟩ := by rw [← hs.out, a]; rfl
          clear hz' he' k0 hn
          go_wp2_with fail
          go_ret
          exact ⟨rfl, l9⟩
      · rw [decide_eq_false k0] at hz'
        have hzn : (FloatKind.f64.format.order f 0 != some Ordering.eq) = true := by unfold bne; rw [hz']; rfl
        cases hn : nanB f
        · rw [hn] at he'
          have hee : (FloatKind.f64.format.order f f == some Ordering.eq) = true := by rw [he']; simp
          clear hz' he' hn
          replace k0 := Lib.hid k0
          go_wp2_with fail
          go_ret
          exact ⟨rfl, l9⟩
        · rw [hn] at he'
          have hee : (FloatKind.f64.format.order f f == some Ordering.eq) = false := by rw [he']; simp
          have a := hP3.out hn
          obtain rfl : s = ⟨#[78, 97, 78]⟩ := by rw [← hs.out, a]; rfl
          clear hz' he' hn a
          replace k0 := Lib.hid k0
          go_wp2_with fail
          go_ret
          exact ⟨rfl, l9⟩
end Go.Proofs.YtdbmffagibnibaaGreatDoor
