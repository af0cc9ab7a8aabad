/- IdBack: the document's num. -/
import Derived.Test.YtokcmnenfgbdoaaDoorIb5
import Derived.Deep.CutRange
import Derived.BigQuiet
set_option linter.unusedSimpArgs false
set_option linter.unusedVariables false
namespace Go.Proofs.YtokcmnenfgbdoaaDoor
open Go.RowKit Go.Sort Go.Lib
set_option maxRecDepth 100000

def numV (l : List UInt8) : Option (Nat × List UInt8) → Value
  | none => .tuple #[.int .u64 0, .string ⟨#[]⟩, .bool false]
  | some (n, r) => .tuple #[.int .u64 (n : Int), .string (bstr r), .bool true]
theorem drop_cons {l : List UInt8} {i : Nat} {c : UInt8} (h : l[i]? = some c) : l.drop i = c :: l.drop (i + 1) := by
  have hi := (List.getElem?_eq_some_iff.1 h).1
  rw [List.drop_eq_getElem_cons hi]
  have := (List.getElem?_eq_some_iff.1 h).2
  rw [this]
set_option maxHeartbeats 6400000 in
theorem num_walk (l : List UInt8) (most : Nat) (hm : most ≤ 4294967295) (hl : l.length ≤ 140737488351232) (w : World) : Calls Tryd.prog 16 #[.string (bstr l), .int .u64 (most : Int)] w (fun e w' => e = .returned (numV l (numD most l)) ∧ Below w.heap.size w w') := by
  obtain ⟨L, hL⟩ : ∃ L, l.length = L := ⟨_, rfl⟩
  obtain ⟨R, hR⟩ : ∃ R, numRun most l 0 0 = R := ⟨_, rfl⟩
  have hsz : (bstr l).size = L := by rw [bstr_size, hL]
  have hdat : ∀ (i : Nat) (c : UInt8), l[i]? = some c → (bstr l).data[i]? = some c := fun i c h => by
    show l.toArray[i]? = some c
    simpa using h
  have hsl : ∀ i : Nat, i ≤ L → (bstr l).extract i L = bstr (l.drop i) := fun i hi => by
    rw [bstr_extract, ← hL, List.take_length]
  obtain ⟨S, hS⟩ : ∃ S, bstr l = S := ⟨_, rfl⟩
  rw [hS] at hsz hdat hsl ⊢
  rw [hL] at hl
  go_enter Tryd.func16, Tryd.ntmps16
  go_wp2_with fail
  go_loopw [7, 8] (fun a b wr => ∃ (n i : Nat), a = .int .u64 (n : Int) ∧ b = .int .i64 (i : Int) ∧ i ≤ L ∧ n ≤ 10 * most + 9 ∧ numRun most (l.drop i) n i = R ∧ wr = w) (fun _ b _ => L - (RowKit.intOf b).toNat)
  case atStart => exact ⟨0, 0, rfl, rfl, Nat.zero_le _, by omega, hR, by first | rfl | trivial⟩
  case round =>
    obtain ⟨n, i, rfl, rfl, hi, hn, hrun, rfl⟩ := hrel
    have hidx : ∀ (j : Nat) (c : UInt8), l[j]? = some c → ∀ W, (Instr.index 9 (.string S) (.int .i64 (j : Int))).run Tryd.prog W = .ok (.int .u8 (c.toNat : Int)) W := fun j c h W => by
      have hj : j < l.length := (List.getElem?_eq_some_iff.1 h).1
      have hjs : j < S.size := by rw [hsz, ← hL]; exact hj
      rw [run_index_string (h := Tryd.underlying9), dif_pos ⟨by omega, by omega⟩]
      have hg : S[(j : Int).toNat]'(by simpa using hjs) = c := by
        have := (List.getElem?_eq_some_iff.1 h).2
        subst hS
        show (bstr l).data[(j : Int).toNat]'_ = c
        simp [bstr, this]
      rw [hg]
    by_cases hlt : i < L
    · have hd : decide ((i : Int) < (L : Int)) = true := decide_eq_true (by omega)
      obtain ⟨c, hc⟩ : ∃ c, l[i]? = some c := ⟨_, List.getElem?_eq_getElem (by omega)⟩
      have hix := hidx i c hc
      rw [drop_cons hc] at hrun
      obtain ⟨v, hv⟩ : ∃ v, c.toNat = v := ⟨_, rfl⟩
      have hv255 : v < 256 := by rw [← hv]; exact c.toNat_lt
      rw [numRun, hv] at hrun
      rw [hv] at hix
      have hgl : ∀ h : i < l.length, (l[i]'h).toNat = v := fun h => by rw [← hv, (List.getElem?_eq_some_iff.1 hc).2]
      have hgs : ∀ h : i < S.size, (S[i]'h).toNat = v := fun h => by
        subst hS
        show ((bstr l).data[i]'_).toNat = v
        simp [bstr, hgl]
      by_cases h1 : 48 ≤ v
      · have d1 : decide ((48 : Int) ≤ (v : Int)) = true := decide_eq_true (by omega)
        have d1' : decide (48 ≤ v) = true := decide_eq_true h1
        by_cases h2 : v ≤ 57
        · have d2 : decide ((v : Int) ≤ 57) = true := decide_eq_true (by omega)
          have d2' : decide (v ≤ 57) = true := decide_eq_true h2
          by_cases h3 : n ≤ most
          · have d3 : decide ((n : Int) ≤ (most : Int)) = true := decide_eq_true (by omega)
            have d3' : decide (n ≤ most) = true := decide_eq_true h3
            rw [if_pos ⟨h1, h2, h3⟩] at hrun
            have w1 : IntKind.u64.wrap (10 * (n : Int)) = 10 * (n : Int) := by rw [IntKind.wrap_u64]; omega
            have w2 : IntKind.u8.wrap ((v : Int) - 48) = ((v - 48 : Nat) : Int) := by unfold IntKind.wrap; simp [IntKind.bits, IntKind.signed]; omega
            have w3 : IntKind.u64.wrap ((v - 48 : Nat) : Int) = ((v - 48 : Nat) : Int) := by rw [IntKind.wrap_u64]; omega
            have w4 : IntKind.u64.wrap (10 * (n : Int) + ((v - 48 : Nat) : Int)) = ((10 * n + (v - 48) : Nat) : Int) := by rw [IntKind.wrap_u64]; omega
            have w5 : IntKind.i64.wrap ((i : Int) + 1) = ((i + 1 : Nat) : Int) := by rw [IntKind.wrap_i64]; omega
            clear hR hidx hsl hdat
            go_wp2_with fail
            go_roundw
            case rel => exact ⟨10 * n + (v - 48), i + 1, by first | rfl | trivial | simp, by first | rfl | trivial | simp, by omega, by omega, hrun, by first | rfl | trivial⟩
            case measure => simp [RowKit.intOf]; omega
          · have hR' : numRun most l 0 0 = (n, i) := by rw [hR, ← hrun]; exact if_neg (fun h => h3 h.2.2)
            replace hR' := Lib.hid hR'
            clear hR hrun
            have d3 : decide ((n : Int) ≤ (most : Int)) = false := decide_eq_false (by omega)
            have d3' : decide (n ≤ most) = false := decide_eq_false h3
            by_cases hi0 : i = 0
            · have e0 : ((i : Int) == 0) = true := by rw [hi0]; rfl
              have e0' : decide ((i : Int) = 0) = true := decide_eq_true (by omega)
              have hno : numD most l = none := by unfold numD; rw [hR'.out]; exact if_pos (.inl hi0)
              replace hi0 := Lib.hid hi0
              go_wp2_with fail
              go_ret3
              exact ⟨by first | rfl | (rw [hno]; rfl), Below.refl _ _⟩
            · have e0 : ((i : Int) == 0) = false := by rw [beq_eq_false_iff_ne]; omega
              have e0' : decide ((i : Int) = 0) = false := decide_eq_false (by omega)
              by_cases hnm : most < n
              · have hno : numD most l = none := by unfold numD; rw [hR'.out]; exact if_pos (.inr (.inl hnm))
                have e1 : decide ((most : Int) < (n : Int)) = true := decide_eq_true (by omega)
                have e1' : decide (most < n) = true := decide_eq_true hnm
                go_wp2_with fail
                go_ret3
                exact ⟨by first | rfl | (rw [hno]; rfl), Below.refl _ _⟩
              · have e1 : decide ((most : Int) < (n : Int)) = false := decide_eq_false (by omega)
                have e1' : decide (most < n) = false := decide_eq_false hnm
                by_cases hi1 : 1 < i
                · have e2 : decide ((1 : Int) < (i : Int)) = true := decide_eq_true (by omega)
                  have e2' : decide (1 < i) = true := decide_eq_true hi1
                  obtain ⟨c0, hc0⟩ : ∃ c, l[0]? = some c := ⟨_, List.getElem?_eq_getElem (by omega)⟩
                  have hix0 := hidx 0 c0 hc0
                  have hL0 : (0 : Int) < (L : Int) := by omega
                  have hg0 : ∀ h : 0 < l.length, (l[0]'h) = c0 := fun h => (List.getElem?_eq_some_iff.1 hc0).2
                  have hg0s : ∀ h : 0 < S.size, (S[0]'h) = c0 := fun h => by
                    subst hS
                    show (bstr l).data[0]'_ = c0
                    simp [bstr, hg0]
                  have hh0 : l.head? = some c0 := by rw [List.head?_eq_getElem?]; exact hc0
                  by_cases h48 : c0 = 48
                  · have hno : numD most l = none := by unfold numD; rw [hR'.out]; exact if_pos (.inr (.inr ⟨hi1, by rw [hh0, h48]⟩))
                    subst h48
                    have e48 : (48 : UInt8).toNat = 48 := rfl
                    rw [e48] at hix0
                    go_wp2_with fail
                    go_ret3
                    exact ⟨by first | rfl | (rw [hno]; rfl), Below.refl _ _⟩
                  · have hyes : numD most l = some (n, l.drop i) := by
                      unfold numD
                      rw [hR'.out]
                      refine if_neg ?_
                      rintro (h1 | h1 | ⟨h1, h2⟩)
                      · exact hi0 h1
                      · exact hnm h1
                      · rw [hh0] at h2; cases h2; exact h48 rfl
                    obtain ⟨v0, hv0⟩ : ∃ v, c0.toNat = v := ⟨_, rfl⟩
                    have hv48 : v0 ≠ 48 := fun e => h48 (by rw [← UInt8.ofNat_toNat (x := c0), hv0, e]; rfl)
                    rw [hv0] at hix0
                    have e3 : ((v0 : Int) == 48) = false := by rw [beq_eq_false_iff_ne]; omega
                    have e3' : decide ((v0 : Int) = 48) = false := decide_eq_false (by omega)
                    have hi2 : (i : Int) ≤ (L : Int) := by omega
                    go_wp2_with fail
                    go_quiet (fail)
                    go_wp2_with fail
                    go_ret3
                    exact ⟨by (try rw [hyes]); first | rfl | (rw [hsl i hi]; rfl) | (rw [← hsl i hi]; rfl), below_drewN (Below.refl _ _) _⟩
                · have e2 : decide ((1 : Int) < (i : Int)) = false := decide_eq_false (by omega)
                  have e2' : decide (1 < i) = false := decide_eq_false hi1
                  have hyes : numD most l = some (n, l.drop i) := by
                    unfold numD
                    rw [hR'.out]
                    refine if_neg ?_
                    rintro (h1 | h1 | ⟨h1, h2⟩)
                    · exact hi0 h1
                    · exact hnm h1
                    · exact hi1 h1
                  have hi2 : (i : Int) ≤ (L : Int) := by omega
                  go_wp2_with fail
                  go_quiet (fail)
                  go_wp2_with fail
                  go_ret3
                  exact ⟨by (try rw [hyes]); first | rfl | (rw [hsl i hi]; rfl) | (rw [← hsl i hi]; rfl), below_drewN (Below.refl _ _) _⟩
        · have hR' : numRun most l 0 0 = (n, i) := by rw [hR, ← hrun]; exact if_neg (fun h => h2 h.2.1)
          replace hR' := Lib.hid hR'
          clear hR hrun
          have d2 : decide ((v : Int) ≤ 57) = false := decide_eq_false (by omega)
          have d2' : decide (v ≤ 57) = false := decide_eq_false h2
          by_cases hi0 : i = 0
          · have e0 : ((i : Int) == 0) = true := by rw [hi0]; rfl
            have e0' : decide ((i : Int) = 0) = true := decide_eq_true (by omega)
            have hno : numD most l = none := by unfold numD; rw [hR'.out]; exact if_pos (.inl hi0)
            replace hi0 := Lib.hid hi0
            go_wp2_with fail
            go_ret3
            exact ⟨by first | rfl | (rw [hno]; rfl), Below.refl _ _⟩
          · have e0 : ((i : Int) == 0) = false := by rw [beq_eq_false_iff_ne]; omega
            have e0' : decide ((i : Int) = 0) = false := decide_eq_false (by omega)
            by_cases hnm : most < n
            · have hno : numD most l = none := by unfold numD; rw [hR'.out]; exact if_pos (.inr (.inl hnm))
              have e1 : decide ((most : Int) < (n : Int)) = true := decide_eq_true (by omega)
              have e1' : decide (most < n) = true := decide_eq_true hnm
              go_wp2_with fail
              go_ret3
              exact ⟨by first | rfl | (rw [hno]; rfl), Below.refl _ _⟩
            · have e1 : decide ((most : Int) < (n : Int)) = false := decide_eq_false (by omega)
              have e1' : decide (most < n) = false := decide_eq_false hnm
              by_cases hi1 : 1 < i
              · have e2 : decide ((1 : Int) < (i : Int)) = true := decide_eq_true (by omega)
                have e2' : decide (1 < i) = true := decide_eq_true hi1
                obtain ⟨c0, hc0⟩ : ∃ c, l[0]? = some c := ⟨_, List.getElem?_eq_getElem (by omega)⟩
                have hix0 := hidx 0 c0 hc0
                have hL0 : (0 : Int) < (L : Int) := by omega
                have hg0 : ∀ h : 0 < l.length, (l[0]'h) = c0 := fun h => (List.getElem?_eq_some_iff.1 hc0).2
                have hg0s : ∀ h : 0 < S.size, (S[0]'h) = c0 := fun h => by
                  subst hS
                  show (bstr l).data[0]'_ = c0
                  simp [bstr, hg0]
                have hh0 : l.head? = some c0 := by rw [List.head?_eq_getElem?]; exact hc0
                by_cases h48 : c0 = 48
                · have hno : numD most l = none := by unfold numD; rw [hR'.out]; exact if_pos (.inr (.inr ⟨hi1, by rw [hh0, h48]⟩))
                  subst h48
                  have e48 : (48 : UInt8).toNat = 48 := rfl
                  rw [e48] at hix0
                  go_wp2_with fail
                  go_ret3
                  exact ⟨by first | rfl | (rw [hno]; rfl), Below.refl _ _⟩
                · have hyes : numD most l = some (n, l.drop i) := by
                    unfold numD
                    rw [hR'.out]
                    refine if_neg ?_
                    rintro (h1 | h1 | ⟨h1, h2⟩)
                    · exact hi0 h1
                    · exact hnm h1
                    · rw [hh0] at h2; cases h2; exact h48 rfl
                  obtain ⟨v0, hv0⟩ : ∃ v, c0.toNat = v := ⟨_, rfl⟩
                  have hv48 : v0 ≠ 48 := fun e => h48 (by rw [← UInt8.ofNat_toNat (x := c0), hv0, e]; rfl)
                  rw [hv0] at hix0
                  have e3 : ((v0 : Int) == 48) = false := by rw [beq_eq_false_iff_ne]; omega
                  have e3' : decide ((v0 : Int) = 48) = false := decide_eq_false (by omega)
                  have hi2 : (i : Int) ≤ (L : Int) := by omega
                  go_wp2_with fail
                  go_quiet (fail)
                  go_wp2_with fail
                  go_ret3
                  exact ⟨by (try rw [hyes]); first | rfl | (rw [hsl i hi]; rfl) | (rw [← hsl i hi]; rfl), below_drewN (Below.refl _ _) _⟩
              · have e2 : decide ((1 : Int) < (i : Int)) = false := decide_eq_false (by omega)
                have e2' : decide (1 < i) = false := decide_eq_false hi1
                have hyes : numD most l = some (n, l.drop i) := by
                  unfold numD
                  rw [hR'.out]
                  refine if_neg ?_
                  rintro (h1 | h1 | ⟨h1, h2⟩)
                  · exact hi0 h1
                  · exact hnm h1
                  · exact hi1 h1
                have hi2 : (i : Int) ≤ (L : Int) := by omega
                go_wp2_with fail
                go_quiet (fail)
                go_wp2_with fail
                go_ret3
                exact ⟨by (try rw [hyes]); first | rfl | (rw [hsl i hi]; rfl) | (rw [← hsl i hi]; rfl), below_drewN (Below.refl _ _) _⟩
      · have hR' : numRun most l 0 0 = (n, i) := by rw [hR, ← hrun]; exact if_neg (fun h => h1 h.1)
        replace hR' := Lib.hid hR'
        clear hR hrun
        have d1 : decide ((48 : Int) ≤ (v : Int)) = false := decide_eq_false (by omega)
        have d1' : decide (48 ≤ v) = false := decide_eq_false h1
        by_cases hi0 : i = 0
        · have e0 : ((i : Int) == 0) = true := by rw [hi0]; rfl
          have e0' : decide ((i : Int) = 0) = true := decide_eq_true (by omega)
          have hno : numD most l = none := by unfold numD; rw [hR'.out]; exact if_pos (.inl hi0)
          replace hi0 := Lib.hid hi0
          go_wp2_with fail
          go_ret3
          exact ⟨by first | rfl | (rw [hno]; rfl), Below.refl _ _⟩
        · have e0 : ((i : Int) == 0) = false := by rw [beq_eq_false_iff_ne]; omega
          have e0' : decide ((i : Int) = 0) = false := decide_eq_false (by omega)
          by_cases hnm : most < n
          · have hno : numD most l = none := by unfold numD; rw [hR'.out]; exact if_pos (.inr (.inl hnm))
            have e1 : decide ((most : Int) < (n : Int)) = true := decide_eq_true (by omega)
            have e1' : decide (most < n) = true := decide_eq_true hnm
            go_wp2_with fail
            go_ret3
            exact ⟨by first | rfl | (rw [hno]; rfl), Below.refl _ _⟩
          · have e1 : decide ((most : Int) < (n : Int)) = false := decide_eq_false (by omega)
            have e1' : decide (most < n) = false := decide_eq_false hnm
            by_cases hi1 : 1 < i
            · have e2 : decide ((1 : Int) < (i : Int)) = true := decide_eq_true (by omega)
              have e2' : decide (1 < i) = true := decide_eq_true hi1
              obtain ⟨c0, hc0⟩ : ∃ c, l[0]? = some c := ⟨_, List.getElem?_eq_getElem (by omega)⟩
              have hix0 := hidx 0 c0 hc0
              have hL0 : (0 : Int) < (L : Int) := by omega
              have hg0 : ∀ h : 0 < l.length, (l[0]'h) = c0 := fun h => (List.getElem?_eq_some_iff.1 hc0).2
              have hg0s : ∀ h : 0 < S.size, (S[0]'h) = c0 := fun h => by
                subst hS
                show (bstr l).data[0]'_ = c0
                simp [bstr, hg0]
              have hh0 : l.head? = some c0 := by rw [List.head?_eq_getElem?]; exact hc0
              by_cases h48 : c0 = 48
              · have hno : numD most l = none := by unfold numD; rw [hR'.out]; exact if_pos (.inr (.inr ⟨hi1, by rw [hh0, h48]⟩))
                subst h48
                have e48 : (48 : UInt8).toNat = 48 := rfl
                rw [e48] at hix0
                go_wp2_with fail
                go_ret3
                exact ⟨by first | rfl | (rw [hno]; rfl), Below.refl _ _⟩
              · have hyes : numD most l = some (n, l.drop i) := by
                  unfold numD
                  rw [hR'.out]
                  refine if_neg ?_
                  rintro (h1 | h1 | ⟨h1, h2⟩)
                  · exact hi0 h1
                  · exact hnm h1
                  · rw [hh0] at h2; cases h2; exact h48 rfl
                obtain ⟨v0, hv0⟩ : ∃ v, c0.toNat = v := ⟨_, rfl⟩
                have hv48 : v0 ≠ 48 := fun e => h48 (by rw [← UInt8.ofNat_toNat (x := c0), hv0, e]; rfl)
                rw [hv0] at hix0
                have e3 : ((v0 : Int) == 48) = false := by rw [beq_eq_false_iff_ne]; omega
                have e3' : decide ((v0 : Int) = 48) = false := decide_eq_false (by omega)
                have hi2 : (i : Int) ≤ (L : Int) := by omega
                go_wp2_with fail
                go_quiet (fail)
                go_wp2_with fail
                go_ret3
                exact ⟨by (try rw [hyes]); first | rfl | (rw [hsl i hi]; rfl) | (rw [← hsl i hi]; rfl), below_drewN (Below.refl _ _) _⟩
            · have e2 : decide ((1 : Int) < (i : Int)) = false := decide_eq_false (by omega)
              have e2' : decide (1 < i) = false := decide_eq_false hi1
              have hyes : numD most l = some (n, l.drop i) := by
                unfold numD
                rw [hR'.out]
                refine if_neg ?_
                rintro (h1 | h1 | ⟨h1, h2⟩)
                · exact hi0 h1
                · exact hnm h1
                · exact hi1 h1
              have hi2 : (i : Int) ≤ (L : Int) := by omega
              go_wp2_with fail
              go_quiet (fail)
              go_wp2_with fail
              go_ret3
              exact ⟨by (try rw [hyes]); first | rfl | (rw [hsl i hi]; rfl) | (rw [← hsl i hi]; rfl), below_drewN (Below.refl _ _) _⟩
    · have hR' : numRun most l 0 0 = (n, i) := by rw [hR, ← hrun]; rw [List.drop_of_length_le (by omega)]; rfl
      replace hR' := Lib.hid hR'
      clear hR hrun
      have hd : decide ((i : Int) < (L : Int)) = false := decide_eq_false (by omega)
      by_cases hi0 : i = 0
      · have e0 : ((i : Int) == 0) = true := by rw [hi0]; rfl
        have e0' : decide ((i : Int) = 0) = true := decide_eq_true (by omega)
        have hno : numD most l = none := by unfold numD; rw [hR'.out]; exact if_pos (.inl hi0)
        replace hi0 := Lib.hid hi0
        go_wp2_with fail
        go_ret3
        exact ⟨by first | rfl | (rw [hno]; rfl), Below.refl _ _⟩
      · have e0 : ((i : Int) == 0) = false := by rw [beq_eq_false_iff_ne]; omega
        have e0' : decide ((i : Int) = 0) = false := decide_eq_false (by omega)
        by_cases hnm : most < n
        · have hno : numD most l = none := by unfold numD; rw [hR'.out]; exact if_pos (.inr (.inl hnm))
          have e1 : decide ((most : Int) < (n : Int)) = true := decide_eq_true (by omega)
          have e1' : decide (most < n) = true := decide_eq_true hnm
          go_wp2_with fail
          go_ret3
          exact ⟨by first | rfl | (rw [hno]; rfl), Below.refl _ _⟩
        · have e1 : decide ((most : Int) < (n : Int)) = false := decide_eq_false (by omega)
          have e1' : decide (most < n) = false := decide_eq_false hnm
          by_cases hi1 : 1 < i
          · have e2 : decide ((1 : Int) < (i : Int)) = true := decide_eq_true (by omega)
            have e2' : decide (1 < i) = true := decide_eq_true hi1
            obtain ⟨c0, hc0⟩ : ∃ c, l[0]? = some c := ⟨_, List.getElem?_eq_getElem (by omega)⟩
            have hix0 := hidx 0 c0 hc0
            have hL0 : (0 : Int) < (L : Int) := by omega
            have hg0 : ∀ h : 0 < l.length, (l[0]'h) = c0 := fun h => (List.getElem?_eq_some_iff.1 hc0).2
            have hg0s : ∀ h : 0 < S.size, (S[0]'h) = c0 := fun h => by
              subst hS
              show (bstr l).data[0]'_ = c0
              simp [bstr, hg0]
            have hh0 : l.head? = some c0 := by rw [List.head?_eq_getElem?]; exact hc0
            by_cases h48 : c0 = 48
            · have hno : numD most l = none := by unfold numD; rw [hR'.out]; exact if_pos (.inr (.inr ⟨hi1, by rw [hh0, h48]⟩))
              subst h48
              have e48 : (48 : UInt8).toNat = 48 := rfl
              rw [e48] at hix0
              go_wp2_with fail
              go_ret3
              exact ⟨by first | rfl | (rw [hno]; rfl), Below.refl _ _⟩
            · have hyes : numD most l = some (n, l.drop i) := by
                unfold numD
                rw [hR'.out]
                refine if_neg ?_
                rintro (h1 | h1 | ⟨h1, h2⟩)
                · exact hi0 h1
                · exact hnm h1
                · rw [hh0] at h2; cases h2; exact h48 rfl
              obtain ⟨v0, hv0⟩ : ∃ v, c0.toNat = v := ⟨_, rfl⟩
              have hv48 : v0 ≠ 48 := fun e => h48 (by rw [← UInt8.ofNat_toNat (x := c0), hv0, e]; rfl)
              rw [hv0] at hix0
              have e3 : ((v0 : Int) == 48) = false := by rw [beq_eq_false_iff_ne]; omega
              have e3' : decide ((v0 : Int) = 48) = false := decide_eq_false (by omega)
              have hi2 : (i : Int) ≤ (L : Int) := by omega
              go_wp2_with fail
              go_quiet (fail)
              go_wp2_with fail
              go_ret3
              exact ⟨by (try rw [hyes]); first | rfl | (rw [hsl i hi]; rfl) | (rw [← hsl i hi]; rfl), below_drewN (Below.refl _ _) _⟩
          · have e2 : decide ((1 : Int) < (i : Int)) = false := decide_eq_false (by omega)
            have e2' : decide (1 < i) = false := decide_eq_false hi1
            have hyes : numD most l = some (n, l.drop i) := by
              unfold numD
              rw [hR'.out]
              refine if_neg ?_
              rintro (h1 | h1 | ⟨h1, h2⟩)
              · exact hi0 h1
              · exact hnm h1
              · exact hi1 h1
            have hi2 : (i : Int) ≤ (L : Int) := by omega
            go_wp2_with fail
            go_quiet (fail)
            go_wp2_with fail
            go_ret3
            exact ⟨by (try rw [hyes]); first | rfl | (rw [hsl i hi]; rfl) | (rw [← hsl i hi]; rfl), below_drewN (Below.refl _ _) _⟩
end Go.Proofs.YtokcmnenfgbdoaaDoor
