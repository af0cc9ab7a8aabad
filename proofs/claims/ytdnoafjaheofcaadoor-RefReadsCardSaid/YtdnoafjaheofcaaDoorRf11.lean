/- References: ParseUint at base 16 of at most two bytes. -/
import Derived.Test.YtdnoafjaheofcaaDoorRf10
import Derived.Laws.IdiomStrings
set_option linter.unusedSimpArgs false
set_option linter.unusedVariables false
namespace Go.Proofs.YtdnoafjaheofcaaDoor
open Go.RowKit Go.Sort Go.Lib
set_option maxRecDepth 100000

theorem conv_row (l : List UInt8) (W : World) : ∃ W' c, (convert 9 22 (.string (bstr l))).run Tryd.prog W = .ok (.slice (some ⟨W.heap.size, 0, none⟩) l.length c) W' ∧ RowKit.Below W.heap.size W W' ∧ W'.heap.size = W.heap.size + 1 ∧
    ∀ (j : Nat) (b : UInt8), l[j]? = some b → W'.cell? ⟨W.heap.size, j, none⟩ = some (byv b) ∧ W'.frozen? ⟨W.heap.size, j, none⟩ = false := by
  refine ⟨_, _, (run_bytes_of_string W 9 22 5 (bstr l) Tryd.underlying9 Tryd.underlying22 Tryd.underlying5).trans (by rw [bstr_size]), ?_, ?_, ?_⟩
  · exact (RowKit.Below.refl W.heap.size W).drew.alloc (Nat.le_refl _) _
  · simp
  · intro j b hj
    have hjl : j < l.length := (List.getElem?_eq_some_iff.1 hj).1
    have hbs : (bytesRow (bstr l) (grownCap W (bstr l).size 0 5))[j]? = some (byv b) := by
      unfold bytesRow bstr byv
      rw [Array.getElem?_append_left (by simpa using hjl)]
      simp [hj]
    have hjs : j < (bytesRow (bstr l) (grownCap W (bstr l).size 0 5)).size := (Array.getElem?_eq_some_iff.1 hbs).1
    refine ⟨?_, ?_⟩
    · exact (cell_of_row _ W.heap.size j _ 5 _ (heap_alloc_new W.drew _)).trans hbs
    · have := World.frozen?_alloc_mark W.drew (bytesRow (bstr l) (grownCap W (bstr l).size 0 5)) 5 (bytesRow (bstr l) (grownCap W (bstr l).size 0 5)).size ((bytesRow (bstr l) (grownCap W (bstr l).size 0 5)).size + 1) j
      refine this.trans ?_
      simp
      omega

/-- The letter's low form, as a number. -/
def lowN (c : UInt8) : Nat := (bits .or .u8 (c.toNat : Int) 32).toNat
theorem low_eq : ∀ c : UInt8, bits .or .u8 (c.toNat : Int) 32 = (lowN c : Int) ∧ lowN c ≤ 255 := by
  intro c
  have hb := c.toNat_lt
  have e : (32 : Int) = ((32 : Nat) : Int) := rfl
  have hx : c.toNat ||| 32 < 2 ^ 8 := Nat.or_lt_two_pow (by omega) (by omega)
  have h1 : bits .or .u8 (c.toNat : Int) 32 = ((c.toNat ||| 32 : Nat) : Int) := by
    show IntKind.u8.wrap ((BitVec.ofInt 8 (c.toNat : Int) ||| BitVec.ofInt 8 (32 : Int)).toNat : Int) = _
    rw [e, BitVec.toNat_or, ofInt_u8 _ hb, ofInt_u8 32 (by omega)]
    simp [IntKind.wrap, IntKind.bits, IntKind.signed]
    omega
  unfold lowN
  rw [h1]
  exact ⟨by simp, by simp; omega⟩
/-- A hexadecimal digit's number. -/
def dig (c : UInt8) : Option Nat := if 48 ≤ c.toNat ∧ c.toNat ≤ 57 then some (c.toNat - 48) else if 97 ≤ lowN c ∧ lowN c ≤ 122 then (if lowN c - 87 < 16 then some (lowN c - 87) else none) else none
def p16 (l : List UInt8) : Option Nat := l.foldl (fun o c => o.bind fun n => (dig c).map fun d => n * 16 + d) (some 0)
theorem p16_snoc (l : List UInt8) (c : UInt8) : p16 (l ++ [c]) = (p16 l).bind fun n => (dig c).map fun d => n * 16 + d := by simp [p16, List.foldl_append]
theorem fold_none (l : List UInt8) : l.foldl (fun (o : Option Nat) c => o.bind fun n => (dig c).map fun d => n * 16 + d) none = none := by
  induction l with
  | nil => rfl
  | cons c l ih => exact ih
theorem p16_bad {l : List UInt8} {k : Nat} (hk : k < l.length) (h : dig l[k] = none) : p16 l = none := by
  have e : l = l.take k ++ l[k] :: l.drop (k + 1) := by rw [List.getElem_cons_drop, List.take_append_drop]
  rw [e, p16, List.foldl_append, List.foldl_cons, h]
  have : (List.foldl (fun (o : Option Nat) c => o.bind fun n => (dig c).map fun d => n * 16 + d) (some 0) (l.take k)).bind (fun n => Option.map (fun d => n * 16 + d) none) = none := by
    cases List.foldl (fun (o : Option Nat) c => o.bind fun n => (dig c).map fun d => n * 16 + d) (some 0) (l.take k) <;> rfl
  rw [this]
  exact fold_none _
theorem dig_lt {c : UInt8} {d : Nat} (h : dig c = some d) : d < 16 := by
  unfold dig at h
  split at h
  · cases h; omega
  split at h
  · split at h
    · cases h; omega
    · cases h
  · cases h
theorem p16_hex : ∀ a b : Fin 16, p16 [hexD a.val, hexD b.val] = some (a.val * 16 + b.val) := by decide +kernel

def HexRes (r : Option Nat) (w : World) (e : Ending) (w' : World) : Prop :=
  ((∃ n, r = some n ∧ e = .returned (.tuple #[.int .u64 (n : Int), .nilIface])) ∨ (r = none ∧ e = .returned (.tuple #[.int .u64 0, .iface 107 (.int .i64 2)]))) ∧ RowKit.Below w.heap.size w w'

set_option maxHeartbeats 6400000 in
theorem hex_inner (l : List UInt8) (h1 : 1 ≤ l.length) (h2 : l.length ≤ 2) (w : World) : Calls Tryd.prog 55 #[.string (bstr l), .int .i64 16, .int .i64 8] w (HexRes (p16 l) w) := by
  obtain ⟨w7, cp, hcv, hb7, hs7, hrow⟩ := conv_row l w
  obtain ⟨B, hB⟩ : ∃ B, w.heap.size = B := ⟨_, rfl⟩
  rw [hB] at hcv hrow
  have hne : (bstr l).toList = l := bstr_toList l
  have hnil : (l == []) = false := by cases l with | nil => simp at h1 | cons a r => rfl
  have hnil2 : l.isEmpty = false := by cases l with | nil => simp at h1 | cons a r => rfl
  obtain ⟨R, hR⟩ : ∃ R, p16 l = R := ⟨_, rfl⟩
  rw [hR]
  replace hrow := Lib.hid hrow
  replace hR := Lib.hid hR
  replace hB := Lib.hid hB
  clear hne
  go_enter Tryd.func55, Tryd.ntmps55
  go_wp2_with fail
  /- LOOP -/
  clear hcv hnil hnil2
  obtain ⟨C, hC0⟩ : ∃ C : Int, C = 1152921504606846976 := ⟨_, rfl⟩
  rw [← hC0]
  have hC : 300 ≤ C := by omega
  clear hC0
  go_loopw [12, 13, 15, 16, 17, 101] (fun x12 x13 x15 x16 x17 i wr => ∃ (k n : Nat), x12 = .bool false ∧ k ≤ l.length ∧ i = .int .i64 (k : Int) ∧ x13 = .int .u64 (n : Int) ∧ Hid (p16 (l.take k) = some n) ∧ (k = 0 → n = 0) ∧ (k ≤ 1 → n ≤ 15) ∧ n ≤ 255 ∧ RowKit.Below w7.heap.size w7 wr) (fun _ _ _ _ _ i _ => l.length - (RowKit.intOf i).toNat)
  case atStart => exact ⟨0, 0, rfl, Nat.zero_le _, rfl, rfl, Lib.hid rfl, by omega, by omega, by omega, RowKit.Below.refl _ _⟩
  case round =>
    rename_i hrel
    obtain ⟨k, n, rfl, hk, rfl, rfl, hn, hn0, hn1, hn2, hbr⟩ := hrel
    have gC : decide (C ≤ (n : Int)) = false := decide_eq_false (by omega)
    by_cases hlt : k < l.length
    · obtain ⟨c, hc⟩ : ∃ c, l[k] = c := ⟨_, rfl⟩
      have hcl := c.toNat_lt
      obtain ⟨hlow, hml⟩ := low_eq c
      obtain ⟨m, hm⟩ : ∃ m, lowN c = m := ⟨_, rfl⟩
      have hB7 : B < w7.heap.size := by have := hB.out; omega
      have hcell : wr.cell? ⟨B, k, none⟩ = some (.int .u8 (c.toNat : Int)) := (hbr.cell (p := ⟨B, k, none⟩) hB7).trans (hrow.out k c (by rw [List.getElem?_eq_getElem hlt, hc])).1
      have hdig : dig l[k] = if 48 ≤ c.toNat ∧ c.toNat ≤ 57 then some (c.toNat - 48) else if 97 ≤ m ∧ m ≤ 122 then (if m - 87 < 16 then some (m - 87) else none) else none := by rw [hc, ← hm]; rfl
      rw [hm] at hlow hml
      replace hm := Lib.hid hm
      replace hc := Lib.hid hc
      have hn15 := hn1 (by omega)
      by_cases hA : 48 ≤ c.toNat ∧ c.toNat ≤ 57
      · obtain ⟨hA1, hA2⟩ := hA
        obtain ⟨D, hD⟩ : ∃ D, c.toNat - 48 = D := ⟨_, rfl⟩
        have g1 : decide ((48 : Int) ≤ (c.toNat : Int)) = true := decide_eq_true (by omega)
        have g2 : decide ((c.toNat : Int) ≤ 57) = true := decide_eq_true (by omega)
        have g3 : ((c.toNat : Int) == 95) = false := beq_eq_false_iff_ne.2 (by omega)
        have g4 : (c.toNat : Int) - 48 = (D : Int) := by omega
        rw [if_pos ⟨hA1, hA2⟩, hD] at hdig
        replace hdig := Lib.hid hdig
        replace hlow := Lib.hid hlow
        clear hD
        have hdg : dig l[k] = some D := hdig.out
        have hDl := dig_lt hdg
        have hnew : Hid (p16 (l.take (k + 1)) = some (n * 16 + D)) := Lib.hid (by rw [List.take_succ_eq_append_getElem hlt, p16_snoc, hn.out, hdg]; rfl)
        clear hdg
        go_wp2_with ((go_at_call 70; refine (Tryd.internal_strconv_lower _ _).mono ?_; rintro e wl ⟨rfl, rfl⟩))
        go_roundw
        case rel => exact ⟨k + 1, n * 16 + D, rfl, by omega, by go_num, by go_num, hnew, by omega, by omega, by omega, hbr⟩
        case measure => simp [RowKit.intOf]; omega
      · rw [if_neg hA] at hdig
        have hA' : c.toNat < 48 ∨ 57 < c.toNat := by omega
        clear hA
        by_cases hu : c.toNat = 95
        all_goals
          first
            | have g3 : ((c.toNat : Int) == 95) = true := beq_iff_eq.2 (by omega)
            | have g3 : ((c.toNat : Int) == 95) = false := beq_eq_false_iff_ne.2 (by omega)
          clear hu
          rcases hA' with hA1 | hA1
          all_goals
            first
              | have g1 : decide ((48 : Int) ≤ (c.toNat : Int)) = false := decide_eq_false (by omega)
              | (have g1 : decide ((48 : Int) ≤ (c.toNat : Int)) = true := decide_eq_true (by omega)
                 have g2 : decide ((c.toNat : Int) ≤ 57) = false := decide_eq_false (by omega))
            by_cases hM : 97 ≤ m ∧ m ≤ 122
            · obtain ⟨hM1, hM2⟩ := hM
              rw [if_pos ⟨hM1, hM2⟩] at hdig
              have g5 : decide ((97 : Int) ≤ (m : Int)) = true := decide_eq_true (by omega)
              have g6 : decide ((m : Int) ≤ 122) = true := decide_eq_true (by omega)
              by_cases hd : m - 87 < 16
              · rw [if_pos hd] at hdig
                obtain ⟨D, hD⟩ : ∃ D, m - 87 = D := ⟨_, rfl⟩
                rw [hD] at hdig
                have g7 : (m : Int) - 97 + 10 = (D : Int) := by omega
                replace hdig := Lib.hid hdig
                clear hD
                have hdg : dig l[k] = some D := hdig.out
                have hDl := dig_lt hdg
                have hnew : Hid (p16 (l.take (k + 1)) = some (n * 16 + D)) := Lib.hid (by rw [List.take_succ_eq_append_getElem hlt, p16_snoc, hn.out, hdg]; rfl)
                clear hdg
                go_wp2_with ((go_at_call 70; refine (Tryd.internal_strconv_lower _ _).mono ?_; rintro e wl ⟨rfl, rfl⟩))
                go_roundw
                case rel => exact ⟨k + 1, n * 16 + D, rfl, by omega, by go_num, by go_num, hnew, by omega, by omega, by omega, hbr⟩
                case measure => simp [RowKit.intOf]; omega
              · rw [if_neg hd] at hdig
                have hdg := hdig
                clear hdig
                have hno : p16 l = none := p16_bad hlt hdg
                clear hdg
                go_wp2_with ((go_at_call 70; refine (Tryd.internal_strconv_lower _ _).mono ?_; rintro e wl ⟨rfl, rfl⟩))
                go_ret2
                exact ⟨.inr ⟨by rw [← hR.out]; exact hno, rfl⟩, below_then hbr hb7⟩
            · rw [if_neg hM] at hdig
              have hdg := hdig
              clear hdig
              by_cases hM1 : 97 ≤ m
              · have g5 : decide ((97 : Int) ≤ (m : Int)) = true := decide_eq_true (by omega)
                have g6 : decide ((m : Int) ≤ 122) = false := decide_eq_false (by omega)
                clear hM
                have hno : p16 l = none := p16_bad hlt hdg
                clear hdg
                go_wp2_with ((go_at_call 70; refine (Tryd.internal_strconv_lower _ _).mono ?_; rintro e wl ⟨rfl, rfl⟩))
                go_ret2
                exact ⟨.inr ⟨by rw [← hR.out]; exact hno, rfl⟩, below_then hbr hb7⟩
              · have g5 : decide ((97 : Int) ≤ (m : Int)) = false := decide_eq_false (by omega)
                clear hM
                have hno : p16 l = none := p16_bad hlt hdg
                clear hdg
                go_wp2_with ((go_at_call 70; refine (Tryd.internal_strconv_lower _ _).mono ?_; rintro e wl ⟨rfl, rfl⟩))
                go_ret2
                exact ⟨.inr ⟨by rw [← hR.out]; exact hno, rfl⟩, below_then hbr hb7⟩
    · obtain rfl : k = l.length := by omega
      have hfin := hn.out
      rw [List.take_length, hR.out] at hfin
      replace hfin := Lib.hid hfin
      go_wp2_with fail
      go_ret2
      exact ⟨.inl ⟨n, hfin.out, rfl⟩, below_then hbr hb7⟩
end Go.Proofs.YtdnoafjaheofcaaDoor
