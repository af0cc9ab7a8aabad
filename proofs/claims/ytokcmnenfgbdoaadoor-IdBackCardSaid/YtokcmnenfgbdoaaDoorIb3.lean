/- IdBack: opid.Parse at any text. -/
import Derived.Test.YtokcmnenfgbdoaaDoorIb2
import Derived.Deep.CutRange
set_option linter.unusedSimpArgs false
set_option linter.unusedVariables false
namespace Go.Proofs.YtokcmnenfgbdoaaDoor
open Go.RowKit Go.Sort Go.Lib
set_option maxRecDepth 100000

theorem cut_len (l s : List UInt8) : (Lib.cut l s).1.length ≤ l.length ∧ (Lib.cut l s).2.1.length ≤ l.length := by
  unfold Lib.cut
  split
  · exact ⟨by simp; omega, by simp⟩
  · exact ⟨Nat.le_refl _, by simp⟩
/-- The three texts that Parse reads as numbers. -/
def p1 (l : List UInt8) : List UInt8 := (Lib.cut l [45]).1
def p2 (l : List UInt8) : List UInt8 := (Lib.cut (Lib.cut l [45]).2.1 [46]).1
def p3 (l : List UInt8) : List UInt8 := if (Lib.cut (Lib.cut l [45]).2.1 [46]).2.2 then (Lib.cut (Lib.cut l [45]).2.1 [46]).2.1 else [48]
def ParseRes (l : List UInt8) (w : World) (e : Ending) (w' : World) : Prop :=
  ∃ (c q n : Nat) (b : Bool), e = .returned (.tuple #[.agg #[.int .u32 (c : Int), .int .u32 (q : Int), .int .u16 (n : Int)], .bool b]) ∧ c < 4294967296 ∧ q < 4294967296 ∧ n < 65536 ∧ (b = true → textL c q n = l) ∧
    (b = false → (c = 0 ∧ q = 0 ∧ n = 0) ∧ ∀ c q n, Lib.parseUintB 32 (p1 l) = .ok c → Lib.parseUintB 32 (p2 l) = .ok q → Lib.parseUintB 16 (p3 l) = .ok n → textL c q n ≠ l) ∧ Below w.heap.size w w'
set_option maxHeartbeats 6400000 in
theorem parse_any (s : ByteArray) (hs : s.size ≤ 140737488351232) (w : World) (hL : LaidW w) : Calls Tryd.prog 6 #[.string s] w (ParseRes s.data.toList w) := by
  obtain ⟨x1, e1⟩ : ∃ x : ByteArray, ⟨(Lib.cut s.data.toList [45]).1.toArray⟩ = x := ⟨_, rfl⟩
  obtain ⟨y1, e2⟩ : ∃ x : ByteArray, ⟨(Lib.cut s.data.toList [45]).2.1.toArray⟩ = x := ⟨_, rfl⟩
  obtain ⟨b1, e3⟩ : ∃ x : Bool, (Lib.cut s.data.toList [45]).2.2 = x := ⟨_, rfl⟩
  obtain ⟨x2, e4⟩ : ∃ x : ByteArray, ⟨(Lib.cut y1.data.toList [46]).1.toArray⟩ = x := ⟨_, rfl⟩
  obtain ⟨y2, e5⟩ : ∃ x : ByteArray, ⟨(Lib.cut y1.data.toList [46]).2.1.toArray⟩ = x := ⟨_, rfl⟩
  obtain ⟨b2, e6⟩ : ∃ x : Bool, (Lib.cut y1.data.toList [46]).2.2 = x := ⟨_, rfl⟩
  have hsl : s.data.toList.length ≤ 140737488351232 := by rw [Array.length_toList]; exact hs
  have hx1 : x1.size ≤ 140737488351232 := by rw [← e1]; show (List.toArray _).size ≤ _; rw [List.size_toArray]; exact Nat.le_trans (cut_len _ _).1 hsl
  have hy1 : y1.size ≤ 140737488351232 := by rw [← e2]; show (List.toArray _).size ≤ _; rw [List.size_toArray]; exact Nat.le_trans (cut_len _ _).2 hsl
  have hyl : y1.data.toList.length ≤ 140737488351232 := by rw [Array.length_toList]; exact hy1
  have hx2 : x2.size ≤ 140737488351232 := by rw [← e4]; show (List.toArray _).size ≤ _; rw [List.size_toArray]; exact Nat.le_trans (cut_len _ _).1 hyl
  have hy2 : y2.size ≤ 140737488351232 := by rw [← e5]; show (List.toArray _).size ≤ _; rw [List.size_toArray]; exact Nat.le_trans (cut_len _ _).2 hyl
  have q1 : p1 s.data.toList = x1.data.toList := by rw [← e1]; rfl
  have q2 : p2 s.data.toList = x2.data.toList := by rw [← e4, ← e2]; rfl
  have q3 : p3 s.data.toList = if b2 then y2.data.toList else [48] := by rw [← e5, ← e6, ← e2]; rfl
  have hc1 := fun W => cut_one s 45 W hs e1 e2 e3
  have hc2 := fun W => cut_one y1 46 W hy1 e4 e5 e6
  obtain ⟨z2, hz2⟩ : ∃ z : ByteArray, (if b2 then y2 else ⟨#[48]⟩) = z := ⟨_, rfl⟩
  have hz2l : z2.size ≤ 140737488351232 := by rw [← hz2]; split; exact hy2; decide
  have q3' : p3 s.data.toList = z2.data.toList := by rw [q3, ← hz2]; split <;> rfl
  clear e1 e2 e3 e4 e5 e6 q3 hsl hyl hy1
  have hz := Blk.new w 25 #[.int .u32 0, .int .u32 0, .int .u16 0]
  have hb0 := (Below.refl w.heap.size w).alloc (Nat.le_refl _) (.cells #[.int .u32 0, .int .u32 0, .int .u16 0] 25)
  obtain ⟨g, hg⟩ : ∃ y, w.heap.size = y := ⟨_, rfl⟩
  replace q1 := Lib.hid q1
  replace q2 := Lib.hid q2
  replace q3' := Lib.hid q3'
  replace hc1 := Lib.hid hc1
  replace hc2 := Lib.hid hc2
  rw [hg] at hz
  replace hg := Lib.hid hg
  go_enter Tryd.func6, Tryd.ntmps6
  go_upto_region 1 with (fail)
  try rw [hg.out]
  generalize w.alloc (.cells #[.int .u32 0, .int .u32 0, .int .u16 0] 25) = w1 at *
  go_wp2_with fail
  refine (hc1.out _).mono ?_
  clear hc1
  rintro e w2 ⟨rfl, hb2⟩
  dsimp only
  go_wp2_with fail
  refine (hc2.out _).mono ?_
  clear hc2
  rintro e w3 ⟨rfl, hb3⟩
  dsimp only
  have hz3 := (hz.below hb2 hz.lt).below hb3 (Nat.lt_of_lt_of_le hz.lt hb2.size)
  have hb03 := below_then hb3 (below_then hb2 hb0)
  clear hz hb2 hb3 hb0
  have hn1 := number_any32 x1 hx1 w3 (hL.next hb03)
  replace hn1 := Lib.hid hn1
  replace hL := Lib.hid hL
  cases b2
  all_goals simp only [Bool.false_eq_true, if_false, if_true] at hz2
  all_goals go_upto_region 5 with (fail)
  all_goals rw [hz2]
  all_goals clear hz2
  all_goals go_wp2_with fail
  all_goals refine hn1.out.mono ?_
  all_goals clear hn1
  all_goals rintro e w4 ⟨u1, c1, rfl, hu1, ht1, hf1, hb4⟩
  all_goals dsimp only
  all_goals have hb04 := below_then hb4 hb03
  all_goals have hz4 := hz3.below hb4 hz3.lt
  all_goals have hn2 := number_any32 x2 hx2 w4 (hL.out.next hb04)
  all_goals replace hn2 := Lib.hid hn2
  all_goals clear hz3 hb03 hb4
  all_goals go_wp2_with fail
  all_goals refine hn2.out.mono ?_
  all_goals clear hn2
  all_goals rintro e w5 ⟨u2, c2, rfl, hu2, ht2, hf2, hb5⟩
  all_goals dsimp only
  all_goals have hb05 := below_then hb5 hb04
  all_goals have hz5 := hz4.below hb5 hz4.lt
  all_goals have hn3 := number_any16 z2 hz2l w5 (hL.out.next hb05)
  all_goals replace hn3 := Lib.hid hn3
  all_goals clear hz4 hb04 hb5
  all_goals go_wp2_with fail
  all_goals refine hn3.out.mono ?_
  all_goals clear hn3
  all_goals rintro e w6 ⟨u3, c3, rfl, hu3, ht3, hf3, hb6⟩
  all_goals dsimp only
  all_goals have hb06 := below_then hb6 hb05
  all_goals have hz6 := hz5.below hb6 hz5.lt
  all_goals clear hz5 hb05 hb6
  all_goals have hw1 : IntKind.u32.wrap (u1 : Int) = (u1 : Int) := by unfold IntKind.wrap; simp [IntKind.bits, IntKind.signed]; omega
  all_goals have hw2 : IntKind.u32.wrap (u2 : Int) = (u2 : Int) := by unfold IntKind.wrap; simp [IntKind.bits, IntKind.signed]; omega
  all_goals have hw3 : IntKind.u16.wrap (u3 : Int) = (u3 : Int) := by unfold IntKind.wrap; simp [IntKind.bits, IntKind.signed]; omega
  all_goals have hx7 := Blk.new w6 25 #[.int .u32 (u1 : Int), .int .u32 (u2 : Int), .int .u16 (u3 : Int)]
  all_goals have hb7 := (Below.refl w6.heap.size w6).alloc (Nat.le_refl _) (.cells #[.int .u32 (u1 : Int), .int .u32 (u2 : Int), .int .u16 (u3 : Int)] 25)
  all_goals have hz7 := hz6.below hb7 hz6.lt
  all_goals have hb07 := below_then hb7 hb06
  all_goals obtain ⟨y, hy⟩ : ∃ y, w6.heap.size = y := ⟨_, rfl⟩
  all_goals have hgy : g < y := by rw [← hy]; exact hz6.lt
  all_goals rw [hy] at hx7
  all_goals replace hy := Lib.hid hy
  all_goals clear hz6 hb06 hb7
  all_goals go_upto_region 9 with (fail)
  all_goals try rw [hy.out]
  all_goals generalize w6.alloc (.cells #[.int .u32 (u1 : Int), .int .u32 (u2 : Int), .int .u16 (u3 : Int)] 25) = w7 at *
  all_goals by_cases hall : c1 = true ∧ c2 = true ∧ c3 = true
  · obtain ⟨rfl, rfl, rfl⟩ := hall
    have hT1 := Lib.hid (ht1 rfl)
    have hT2 := Lib.hid (ht2 rfl)
    have hT3 := Lib.hid (ht3 rfl)
    clear ht1 ht2 ht3 hf1 hf2 hf3
    have hte := text_any u1 u2 u3 (by omega) (by omega) (by omega) w7 (hL.out.next hb07)
    have m0 := hx7.cell 0
    have m1 := hx7.cell 1
    have m2 := hx7.cell 2
    obtain ⟨X, hX⟩ : ∃ X, bstr (textL u1 u2 u3) = X := ⟨_, rfl⟩
    rw [hX] at hte
    replace hte := Lib.hid hte
    by_cases heq : X = s
    · have heq' : textL u1 u2 u3 = s.data.toList := by rw [← heq, ← hX]; rfl
      replace heq' := Lib.hid heq'
      subst heq
      clear hX
      go_wp2_with fail
      refine hte.out.mono ?_
      clear hte m0 m1 m2
      rintro e w8 ⟨rfl, hb8⟩
      dsimp only
      have hz8 := hz7.below hb8 hz7.lt
      have hx8 := hx7.below hb8 hx7.lt
      have hb08 := below_then hb8 hb07
      have m0 := hx8.cell 0
      have m1 := hx8.cell 1
      have m2 := hx8.cell 2
      have f0 := hz8.frozen 0
      have f1 := hz8.frozen 1
      have f2 := hz8.frozen 2
      have k0 := hz8.cell 0
      have k1 := hz8.cell 1
      have k2 := hz8.cell 2
      clear hb8 hb07 hz7 hx7
      go_wp2_with fail
      refine bodyPost_ret (v := .tuple #[.agg #[.int .u32 u1, .int .u32 u2, .int .u16 u3], .bool true]) ?hr1 rfl ?_
      case hr1 => exact results_ct rfl _ _ g 25 _ (0, 0) _ _ rfl rfl (((hz8.set_ 0 (.int .u32 u1)).set_ 1 (.int .u32 u2)).set_ 2 (.int .u16 u3)) Tryd.underlying25 rfl (by kernel_rfl)
      exact ⟨u1, u2, u3, true, rfl, by omega, by omega, by omega, fun _ => heq'.out, fun h => (by cases h), ((hb08.setCell (p := ⟨g, 0, none⟩) (by rw [hg.out]; exact Nat.le_refl _) (.int .u32 u1)).setCell (p := ⟨g, 1, none⟩) (by rw [hg.out]; exact Nat.le_refl _) (.int .u32 u2)).setCell (p := ⟨g, 2, none⟩) (by rw [hg.out]; exact Nat.le_refl _) (.int .u16 u3)⟩
    · have heq' : textL u1 u2 u3 ≠ s.data.toList := fun h => heq (by rw [← hX, h]; rfl)
      have hne1 : (X.toList == s.toList) = false := by
        have e1 : s.toList = s.data.toList := bstr_toList s.data.toList
        rw [e1, ← hX, bstr_toList, beq_eq_false_iff_ne]
        exact heq'
      have hne2 : decide (X ≠ s) = true := decide_eq_true heq
      replace heq' := Lib.hid heq'
      clear hX
      go_wp2_with fail
      refine hte.out.mono ?_
      clear hte m0 m1 m2
      rintro e w8 ⟨rfl, hb8⟩
      dsimp only
      have hz8 := hz7.below hb8 hz7.lt
      have hb08 := below_then hb8 hb07
      have f0 := hz8.frozen 0
      have f1 := hz8.frozen 1
      have f2 := hz8.frozen 2
      have k0 := hz8.cell 0
      have k1 := hz8.cell 1
      have k2 := hz8.cell 2
      clear hb8 hb07 hz7 hx7
      go_wp2_with fail
      refine bodyPost_ret (v := .tuple #[.agg #[.int .u32 0, .int .u32 0, .int .u16 0], .bool false]) ?hr2 rfl ?_
      case hr2 => exact results_ct rfl _ _ g 25 _ (0, 0) _ _ rfl rfl (((hz8.set_ 0 (.int .u32 0)).set_ 1 (.int .u32 0)).set_ 2 (.int .u16 0)) Tryd.underlying25 rfl (by kernel_rfl)
      exact ⟨0, 0, 0, false, rfl, by omega, by omega, by omega, fun h => (by cases h), fun _ => ⟨⟨rfl, rfl, rfl⟩, fun c q n hc hq hn => (by rw [q1.out, hT1.out] at hc; rw [q2.out, hT2.out] at hq; rw [q3'.out, hT3.out] at hn; cases hc; cases hq; cases hn; exact heq'.out)⟩, ((hb08.setCell (p := ⟨g, 0, none⟩) (by rw [hg.out]; exact Nat.le_refl _) (.int .u32 0)).setCell (p := ⟨g, 1, none⟩) (by rw [hg.out]; exact Nat.le_refl _) (.int .u32 0)).setCell (p := ⟨g, 2, none⟩) (by rw [hg.out]; exact Nat.le_refl _) (.int .u16 0)⟩
  · have hfin : ∀ c q n, Lib.parseUintB 32 (p1 s.data.toList) = .ok c → Lib.parseUintB 32 (p2 s.data.toList) = .ok q → Lib.parseUintB 16 (p3 s.data.toList) = .ok n → textL c q n ≠ s.data.toList := by
      intro c q n hc hq hn
      rw [q1.out] at hc
      rw [q2.out] at hq
      rw [q3'.out] at hn
      cases c1
      · exact absurd hc (hf1 rfl c)
      · cases c2
        · exact absurd hq (hf2 rfl q)
        · cases c3
          · exact absurd hn (hf3 rfl n)
          · exact absurd ⟨rfl, rfl, rfl⟩ hall
    replace hfin := Lib.hid hfin
    clear ht1 ht2 ht3 hf1 hf2 hf3
    have f0 := hz7.frozen 0
    have f1 := hz7.frozen 1
    have f2 := hz7.frozen 2
    have k0 := hz7.cell 0
    have k1 := hz7.cell 1
    have k2 := hz7.cell 2
    cases c1 <;> cases c2 <;> cases c3 <;> first | exact absurd ⟨rfl, rfl, rfl⟩ hall | skip
    all_goals go_wp2_with fail
    all_goals refine bodyPost_ret (v := .tuple #[.agg #[.int .u32 0, .int .u32 0, .int .u16 0], .bool false]) ?_ rfl ?_
    all_goals first | exact results_ct rfl _ _ g 25 _ (0, 0) _ _ rfl rfl (((hz7.set_ 0 (.int .u32 0)).set_ 1 (.int .u32 0)).set_ 2 (.int .u16 0)) Tryd.underlying25 rfl (by kernel_rfl) | exact ⟨0, 0, 0, false, rfl, by omega, by omega, by omega, fun h => (by cases h), fun _ => ⟨⟨rfl, rfl, rfl⟩, hfin.out⟩, ((hb07.setCell (p := ⟨g, 0, none⟩) (by rw [hg.out]; exact Nat.le_refl _) (.int .u32 0)).setCell (p := ⟨g, 1, none⟩) (by rw [hg.out]; exact Nat.le_refl _) (.int .u32 0)).setCell (p := ⟨g, 2, none⟩) (by rw [hg.out]; exact Nat.le_refl _) (.int .u16 0)⟩
  · obtain ⟨rfl, rfl, rfl⟩ := hall
    have hT1 := Lib.hid (ht1 rfl)
    have hT2 := Lib.hid (ht2 rfl)
    have hT3 := Lib.hid (ht3 rfl)
    clear ht1 ht2 ht3 hf1 hf2 hf3
    have hte := text_any u1 u2 u3 (by omega) (by omega) (by omega) w7 (hL.out.next hb07)
    have m0 := hx7.cell 0
    have m1 := hx7.cell 1
    have m2 := hx7.cell 2
    obtain ⟨X, hX⟩ : ∃ X, bstr (textL u1 u2 u3) = X := ⟨_, rfl⟩
    rw [hX] at hte
    replace hte := Lib.hid hte
    by_cases heq : X = s
    · have heq' : textL u1 u2 u3 = s.data.toList := by rw [← heq, ← hX]; rfl
      replace heq' := Lib.hid heq'
      subst heq
      clear hX
      go_wp2_with fail
      refine hte.out.mono ?_
      clear hte m0 m1 m2
      rintro e w8 ⟨rfl, hb8⟩
      dsimp only
      have hz8 := hz7.below hb8 hz7.lt
      have hx8 := hx7.below hb8 hx7.lt
      have hb08 := below_then hb8 hb07
      have m0 := hx8.cell 0
      have m1 := hx8.cell 1
      have m2 := hx8.cell 2
      have f0 := hz8.frozen 0
      have f1 := hz8.frozen 1
      have f2 := hz8.frozen 2
      have k0 := hz8.cell 0
      have k1 := hz8.cell 1
      have k2 := hz8.cell 2
      clear hb8 hb07 hz7 hx7
      go_wp2_with fail
      refine bodyPost_ret (v := .tuple #[.agg #[.int .u32 u1, .int .u32 u2, .int .u16 u3], .bool true]) ?hr3 rfl ?_
      case hr3 => exact results_ct rfl _ _ g 25 _ (0, 0) _ _ rfl rfl (((hz8.set_ 0 (.int .u32 u1)).set_ 1 (.int .u32 u2)).set_ 2 (.int .u16 u3)) Tryd.underlying25 rfl (by kernel_rfl)
      exact ⟨u1, u2, u3, true, rfl, by omega, by omega, by omega, fun _ => heq'.out, fun h => (by cases h), ((hb08.setCell (p := ⟨g, 0, none⟩) (by rw [hg.out]; exact Nat.le_refl _) (.int .u32 u1)).setCell (p := ⟨g, 1, none⟩) (by rw [hg.out]; exact Nat.le_refl _) (.int .u32 u2)).setCell (p := ⟨g, 2, none⟩) (by rw [hg.out]; exact Nat.le_refl _) (.int .u16 u3)⟩
    · have heq' : textL u1 u2 u3 ≠ s.data.toList := fun h => heq (by rw [← hX, h]; rfl)
      have hne1 : (X.toList == s.toList) = false := by
        have e1 : s.toList = s.data.toList := bstr_toList s.data.toList
        rw [e1, ← hX, bstr_toList, beq_eq_false_iff_ne]
        exact heq'
      have hne2 : decide (X ≠ s) = true := decide_eq_true heq
      replace heq' := Lib.hid heq'
      clear hX
      go_wp2_with fail
      refine hte.out.mono ?_
      clear hte m0 m1 m2
      rintro e w8 ⟨rfl, hb8⟩
      dsimp only
      have hz8 := hz7.below hb8 hz7.lt
      have hb08 := below_then hb8 hb07
      have f0 := hz8.frozen 0
      have f1 := hz8.frozen 1
      have f2 := hz8.frozen 2
      have k0 := hz8.cell 0
      have k1 := hz8.cell 1
      have k2 := hz8.cell 2
      clear hb8 hb07 hz7 hx7
      go_wp2_with fail
      refine bodyPost_ret (v := .tuple #[.agg #[.int .u32 0, .int .u32 0, .int .u16 0], .bool false]) ?hr4 rfl ?_
      case hr4 => exact results_ct rfl _ _ g 25 _ (0, 0) _ _ rfl rfl (((hz8.set_ 0 (.int .u32 0)).set_ 1 (.int .u32 0)).set_ 2 (.int .u16 0)) Tryd.underlying25 rfl (by kernel_rfl)
      exact ⟨0, 0, 0, false, rfl, by omega, by omega, by omega, fun h => (by cases h), fun _ => ⟨⟨rfl, rfl, rfl⟩, fun c q n hc hq hn => (by rw [q1.out, hT1.out] at hc; rw [q2.out, hT2.out] at hq; rw [q3'.out, hT3.out] at hn; cases hc; cases hq; cases hn; exact heq'.out)⟩, ((hb08.setCell (p := ⟨g, 0, none⟩) (by rw [hg.out]; exact Nat.le_refl _) (.int .u32 0)).setCell (p := ⟨g, 1, none⟩) (by rw [hg.out]; exact Nat.le_refl _) (.int .u32 0)).setCell (p := ⟨g, 2, none⟩) (by rw [hg.out]; exact Nat.le_refl _) (.int .u16 0)⟩
  · have hfin : ∀ c q n, Lib.parseUintB 32 (p1 s.data.toList) = .ok c → Lib.parseUintB 32 (p2 s.data.toList) = .ok q → Lib.parseUintB 16 (p3 s.data.toList) = .ok n → textL c q n ≠ s.data.toList := by
      intro c q n hc hq hn
      rw [q1.out] at hc
      rw [q2.out] at hq
      rw [q3'.out] at hn
      cases c1
      · exact absurd hc (hf1 rfl c)
      · cases c2
        · exact absurd hq (hf2 rfl q)
        · cases c3
          · exact absurd hn (hf3 rfl n)
          · exact absurd ⟨rfl, rfl, rfl⟩ hall
    replace hfin := Lib.hid hfin
    clear ht1 ht2 ht3 hf1 hf2 hf3
    have f0 := hz7.frozen 0
    have f1 := hz7.frozen 1
    have f2 := hz7.frozen 2
    have k0 := hz7.cell 0
    have k1 := hz7.cell 1
    have k2 := hz7.cell 2
    cases c1 <;> cases c2 <;> cases c3 <;> first | exact absurd ⟨rfl, rfl, rfl⟩ hall | skip
    all_goals go_wp2_with fail
    all_goals refine bodyPost_ret (v := .tuple #[.agg #[.int .u32 0, .int .u32 0, .int .u16 0], .bool false]) ?_ rfl ?_
    all_goals first | exact results_ct rfl _ _ g 25 _ (0, 0) _ _ rfl rfl (((hz7.set_ 0 (.int .u32 0)).set_ 1 (.int .u32 0)).set_ 2 (.int .u16 0)) Tryd.underlying25 rfl (by kernel_rfl) | exact ⟨0, 0, 0, false, rfl, by omega, by omega, by omega, fun h => (by cases h), fun _ => ⟨⟨rfl, rfl, rfl⟩, hfin.out⟩, ((hb07.setCell (p := ⟨g, 0, none⟩) (by rw [hg.out]; exact Nat.le_refl _) (.int .u32 0)).setCell (p := ⟨g, 1, none⟩) (by rw [hg.out]; exact Nat.le_refl _) (.int .u32 0)).setCell (p := ⟨g, 2, none⟩) (by rw [hg.out]; exact Nat.le_refl _) (.int .u16 0)⟩
end Go.Proofs.YtokcmnenfgbdoaaDoor
