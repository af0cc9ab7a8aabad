/- Floats' texts, Ints' texts: value.Text and the document's Show. -/
import Derived.Test.YtdbmffagibnibaaGreatDoorFg5
import Derived.Test.YtdbmffagibnibaaGreatDoorFf8
import Derived.Test.YtdbmffagibnibaaGreatDoorVals2
set_option linter.unusedSimpArgs false
set_option linter.unusedVariables false
namespace Go.Proofs.YtdbmffagibnibaaGreatDoor
open Go.RowKit Go.Sort Go.Lib
set_option maxRecDepth 100000

theorem below_grown (w : World) (k : Nat) (os : Array Obj) : RowKit.Below w.heap.size w (grow (w.drewN k) os) :=
  ⟨rfl, rfl, rfl, by simp [grow, World.drewN], fun j hj => by
    show (w.heap ++ os)[j]? = w.heap[j]?
    rw [Array.getElem?_append_left hj]⟩
theorem int_text (n : Int) (h0 : -9223372036854775808 ≤ n) (h1 : n ≤ 9223372036854775807) (w : World) (hL : TabA w) : Calls Tryz.prog 44 #[.int .i64 n, .int .i64 10] w (fun e w' => e = .returned (.string ⟨(Lib.itoa n).toArray⟩) ∧ RowKit.Below w.heap.size w w') :=
  (Tryz.strconv_FormatInt_10 n h0 h1 w hL.tens).mono fun e w' h => ⟨h.1, by obtain ⟨-, k, os, rfl⟩ := h; exact below_grown w k os⟩
theorem text_int (n : Int) (h0 : -9223372036854775808 ≤ n) (h1 : n ≤ 9223372036854775807) (w : World) (hL : TabA w) : Calls Tryz.prog 22 #[.agg #[.int .i64 1, .int .i64 n, .float .f64 0, .string ⟨#[]⟩, .slice none 0 0]] w (fun e w' => e = .returned (.string ⟨(Lib.itoa n).toArray⟩) ∧ RowKit.Below w.heap.size w w') := by
  have hb1 := (RowKit.Below.refl w.heap.size w).alloc (Nat.le_refl _) (.cells #[.int .i64 1, .int .i64 n, .float .f64 0, .string ⟨#[]⟩, .slice none 0 0] 25)
  have hf := int_text n h0 h1 _ (hL.next hb1)
  generalize (⟨(Lib.itoa n).toArray⟩ : ByteArray) = s at *
  replace hf := Lib.hid hf
  go_enter Tryz.func22, Tryz.ntmps22
  go_wp2_with fail
  refine hf.out.mono ?_
  rintro e w2 ⟨rfl, hb⟩
  dsimp only
  go_wp2_with fail
  go_ret
  exact ⟨rfl, below_then hb hb1⟩
theorem show_int (n : Int) (h0 : -9223372036854775808 ≤ n) (h1 : n ≤ 9223372036854775807) (w : World) (hL : TabA w) : Calls Tryz.prog 24 #[.agg #[.int .i64 1, .int .i64 n, .float .f64 0, .string ⟨#[]⟩, .slice none 0 0]] w (fun e w' => e = .returned (.string ⟨(Lib.itoa n).toArray⟩) ∧ RowKit.Below w.heap.size w w') := by
  have hb1 := (RowKit.Below.refl w.heap.size w).alloc (Nat.le_refl _) (.cells #[.int .i64 1, .int .i64 n, .float .f64 0, .string ⟨#[]⟩, .slice none 0 0] 25)
  have hf := int_text n h0 h1 _ (hL.next hb1)
  generalize (⟨(Lib.itoa n).toArray⟩ : ByteArray) = s at *
  replace hf := Lib.hid hf
  go_enter Tryz.func24, Tryz.ntmps24
  go_wp2_with fail
  refine hf.out.mono ?_
  rintro e w2 ⟨rfl, hb⟩
  dsimp only
  go_wp2_with fail
  go_ret
  exact ⟨rfl, below_then hb hb1⟩
/-- What is known of a number's text, for all worlds. -/
def TextOf (f : Nat) (S : List UInt8) : Prop := ∀ w, TabA w → Calls Tryz.prog 48 #[.float .f64 f, .int .u8 103, .int .i64 (-1), .int .i64 64] w (fun e w' => e = .returned (.string (bstr S)) ∧ RowKit.Below w.heap.size w w')
theorem text_flt (f : Nat) (S : List UInt8) (hS : Shape f S) (hf : f < 18446744073709551616) (H : TextOf f S) (w : World) (hL : TabA w) : Calls Tryz.prog 22 #[.agg #[.int .i64 2, .int .i64 0, .float .f64 f, .string ⟨#[]⟩, .slice none 0 0]] w (fun e w' => e = .returned (.string (bstr (textF f S))) ∧ RowKit.Below w.heap.size w w') := by
  have hb1 := (RowKit.Below.refl w.heap.size w).alloc (Nat.le_refl _) (.cells #[.int .i64 2, .int .i64 0, .float .f64 f, .string ⟨#[]⟩, .slice none 0 0] 25)
  have hff := float_any f S hS hf H _ (hL.next hb1)
  generalize bstr (textF f S) = s at *
  replace hff := Lib.hid hff
  clear hf
  go_enter Tryz.func22, Tryz.ntmps22
  go_wp2_with fail
  refine hff.out.mono ?_
  rintro e w2 ⟨rfl, hb⟩
  dsimp only
  go_wp2_with fail
  go_ret
  exact ⟨rfl, below_then hb hb1⟩
def plainB (c : UInt8) : Bool := decide (48 ≤ c.toNat) && decide (c.toNat ≤ 57) || decide (c.toNat = 45)
theorem plain_iff (f : Nat) (S : List UInt8) (hS : Shape f S) : textF f S = if S.all plainB then S ++ [46, 48] else S := by
  unfold textF
  rcases Nat.lt_trichotomy (f % 9223372036854775808) 9218868437227405312 with a | a | a
  · obtain ⟨h1, h2, -⟩ := hS.fin a
    rw [decide_eq_true a, Bool.true_and]
    have key : (!S.contains 46 && !S.contains 101) = S.all plainB := by
      rw [Bool.eq_iff_iff]
      simp only [Bool.and_eq_true, Bool.not_eq_true', List.all_eq_true]
      constructor
      · rintro ⟨e1, e2⟩ c hc
        have n1 : c ≠ 46 := fun e => by subst e; simp at e1; exact e1 hc
        have n2 : c ≠ 101 := fun e => by subst e; simp at e2; exact e2 hc
        have n3 : c ≠ 43 := fun e => by subst e; simp at e2; exact e2 (h2 hc)
        rcases h1 c hc with h | h | h | h | h
        · obtain ⟨x, y⟩ := h
          unfold plainB
          rw [decide_eq_true x, decide_eq_true y]; rfl
        · subst h; decide
        · exact absurd h n1
        · exact absurd h n2
        · exact absurd h n3
      · intro h
        refine ⟨?_, ?_⟩
        · simp only [List.contains_eq_mem, decide_eq_false_iff_not]
          intro hc
          have := h _ hc
          revert this; decide
        · simp only [List.contains_eq_mem, decide_eq_false_iff_not]
          intro hc
          have := h _ hc
          revert this; decide
    rw [key]
  · rw [decide_eq_false (by omega)]
    rcases hS.inf a with e | e <;> subst e <;> rfl
  · rw [decide_eq_false (by omega)]
    have e := hS.nan a
    subst e; rfl
theorem take_all (l : List UInt8) (j : Nat) (c : UInt8) (h : l[j]? = some c) : (l.take (j + 1)).all plainB = ((l.take j).all plainB && plainB c) := by
  rw [List.take_add_one, h]
  simp

set_option maxHeartbeats 6400000 in
theorem show_flt (f : Nat) (S : List UInt8) (hS : Shape f S) (hcb : cb f = f) (H : TextOf f S) (w : World) (hL : TabA w) : Calls Tryz.prog 24 #[.agg #[.int .i64 2, .int .i64 0, .float .f64 f, .string ⟨#[]⟩, .slice none 0 0]] w (fun e w' => e = .returned (.string (bstr (textF f S))) ∧ RowKit.Below w.heap.size w w') := by
  have hb1 := (RowKit.Below.refl w.heap.size w).alloc (Nat.le_refl _) (.cells #[.int .i64 2, .int .i64 0, .float .f64 f, .string ⟨#[]⟩, .slice none 0 0] 25)
  have hcn := fun W => ref_canon f W
  rw [hcb] at hcn
  have hff := H _ (hL.next hb1)
  have hlen := hS.len
  rw [plain_iff f S hS]
  have hadd : ∀ W, (Op.stringOp .add (bstr S) ⟨#[46, 48]⟩).run Tryz.prog W = .ok (.string (bstr (S ++ [46, 48]))) W := fun W => run_bstr_add W S [46, 48] (by simp; omega)
  obtain ⟨L, hLn⟩ : ∃ L, S.length = L := ⟨_, rfl⟩
  have hsz : (bstr S).size = L := by rw [bstr_size, hLn]
  have hidx0 : ∀ (j : Nat) (c : UInt8), S[j]? = some c → (∀ W, (Instr.index 9 (.string (bstr S)) (.int .i64 (j : Int))).run Tryz.prog W = .ok (.int .u8 (c.toNat : Int)) W) ∧ ∀ h : j < (bstr S).size, ((bstr S)[j]'h).toNat = c.toNat := fun j c h => by
    have hj : j < S.length := (List.getElem?_eq_some_iff.1 h).1
    have he := (List.getElem?_eq_some_iff.1 h).2
    have hjs : j < (bstr S).size := by rw [bstr_size]; exact hj
    refine ⟨fun W => ?_, fun h' => ?_⟩
    · rw [run_index_string (h := Tryz.underlying9), dif_pos ⟨by omega, by omega⟩]
      have hg : (bstr S)[(j : Int).toNat]'(by simpa using hjs) = c := by
        show (bstr S).data[(j : Int).toNat]'_ = c
        simp [bstr, he]
      rw [hg]
    · show ((bstr S).data[j]'_).toNat = _
      simp [bstr, he]
  obtain ⟨s, hs⟩ : ∃ s, bstr S = s := ⟨_, rfl⟩
  rw [hs] at hff hadd hsz hidx0
  obtain ⟨s2, hs2⟩ : ∃ s, bstr (S ++ [46, 48]) = s := ⟨_, rfl⟩
  rw [hs2] at hadd
  obtain ⟨t, ht⟩ : ∃ t, bstr (if S.all plainB then S ++ [46, 48] else S) = t := ⟨_, rfl⟩
  rw [ht]
  replace hs := Lib.hid hs
  replace hs2 := Lib.hid hs2
  replace ht := Lib.hid ht
  replace hLn := Lib.hid hLn
  replace hcn := Lib.hid hcn
  replace hff := Lib.hid hff
  replace hidx0 := Lib.hid hidx0
  have hL100 : L ≤ 100 := by rw [← hLn.out]; exact hlen
  clear hS hcb H hlen
  go_enter Tryz.func24, Tryz.ntmps24
  go_wp2_with fail
  refine (hcn.out _).mono ?_
  rintro e w1 ⟨rfl, rfl⟩
  dsimp only
  go_wp2_with fail
  refine hff.out.mono ?_
  clear hff
  rintro e w2 ⟨rfl, hb2⟩
  dsimp only
  have hb3 := below_then hb2 hb1
  clear hb1 hb2
  go_wp2_with fail
  go_loopw [4, 5] (fun a b wr => ∃ (i : Nat) (p : Bool), a = .bool p ∧ b = .int .i64 (i : Int) ∧ i ≤ L ∧ (S.take i).all plainB = p ∧ wr = w2) (fun _ b _ => L - (RowKit.intOf b).toNat)
  case atStart => exact ⟨0, true, rfl, rfl, Nat.zero_le _, by simp, by first | rfl | trivial⟩
  case round =>
    rename_i hrel
    obtain ⟨i, p, rfl, rfl, hi, hp, rfl⟩ := hrel
    by_cases hlt : i < L
    · have hd : decide ((i : Int) < (L : Int)) = true := decide_eq_true (by omega)
      have hiw : IntKind.i64.wrap ((i : Int) + 1) = ((i + 1 : Nat) : Int) := by rw [IntKind.wrap_i64]; omega
      obtain ⟨c, hc⟩ : ∃ c, S[i]? = some c := ⟨_, List.getElem?_eq_getElem (by rw [hLn.out]; exact hlt)⟩
      obtain ⟨hix, hgs⟩ := hidx0.out i c hc
      have hnx := take_all S i c hc
      rw [hp] at hnx
      unfold plainB at hnx
      obtain ⟨v, hv⟩ : ∃ v, c.toNat = v := ⟨_, rfl⟩
      rw [hv] at hix hnx
      simp only [hv] at hgs
      replace hnx := Lib.hid hnx
      have hp' := Lib.hid hp
      clear hp hc
      cases p
      · go_wp2_with fail
        go_roundw
        case rel => exact ⟨i + 1, false, rfl, by go_num, by omega, by have := hnx.out; unfold plainB; rw [this]; rfl, trivial⟩
        case measure => simp [RowKit.intOf]; omega
      · by_cases h1 : 48 ≤ v
        · have d1 : decide ((48 : Int) ≤ (v : Int)) = true := decide_eq_true (by omega)
          have d1' : decide (48 ≤ v) = true := decide_eq_true h1
          by_cases h2 : v ≤ 57
          · have d2 : decide ((v : Int) ≤ 57) = true := decide_eq_true (by omega)
            have d2' : decide (v ≤ 57) = true := decide_eq_true h2
            go_wp2_with fail
            go_roundw
            case rel => exact ⟨i + 1, true, rfl, by go_num, by omega, by have := hnx.out; unfold plainB; rw [this, d1', d2']; rfl, trivial⟩
            case measure => simp [RowKit.intOf]; omega
          · have d2 : decide ((v : Int) ≤ 57) = false := decide_eq_false (by omega)
            have d2' : decide (v ≤ 57) = false := decide_eq_false h2
            have d3 : ((v : Int) == 45) = false := by rw [beq_eq_false_iff_ne]; omega
            have d3' : decide (v = 45) = false := decide_eq_false (by omega)
            go_wp2_with fail
            go_roundw
            case rel => exact ⟨i + 1, false, rfl, by go_num, by omega, by have := hnx.out; unfold plainB; rw [this, d2', d3']; simp, trivial⟩
            case measure => simp [RowKit.intOf]; omega
        · have d1 : decide ((48 : Int) ≤ (v : Int)) = false := decide_eq_false (by omega)
          have d1' : decide (48 ≤ v) = false := decide_eq_false h1
          by_cases h3 : v = 45
          · have d3 : ((v : Int) == 45) = true := by subst h3; rfl
            have d3' : decide (v = 45) = true := decide_eq_true h3
            replace h3 := Lib.hid h3
            go_wp2_with fail
            go_roundw
            case rel => exact ⟨i + 1, true, rfl, by go_num, by omega, by have := hnx.out; unfold plainB; rw [this, d3']; simp, trivial⟩
            case measure => simp [RowKit.intOf]; omega
          · have d3 : ((v : Int) == 45) = false := by rw [beq_eq_false_iff_ne]; omega
            have d3' : decide (v = 45) = false := decide_eq_false h3
            go_wp2_with fail
            go_roundw
            case rel => exact ⟨i + 1, false, rfl, by go_num, by omega, by have := hnx.out; unfold plainB; rw [this, d1', d3']; simp, trivial⟩
            case measure => simp [RowKit.intOf]; omega
    · obtain rfl : i = L := by omega
      have hd : decide ((i : Int) < (i : Int)) = false := decide_eq_false (by omega)
      have hall : S.all plainB = p := by rw [← hp, ← hLn.out, List.take_length]
      replace hall := Lib.hid hall
      clear hp
      cases p
      · go_wp2_with fail
        go_ret
        refine ⟨?_, hb3⟩
        rw [← ht.out, hall.out, ← hs.out]
        rfl
      · go_wp2_with fail
        go_ret
        refine ⟨?_, hb3⟩
        rw [← ht.out, hall.out, ← hs2.out]
        rfl
end Go.Proofs.YtdbmffagibnibaaGreatDoor
