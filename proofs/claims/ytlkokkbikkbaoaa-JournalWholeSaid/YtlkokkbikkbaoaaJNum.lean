/- journal.number. -/
import Derived.Test.YtlkokkbikkbaoaaJPay
set_option linter.unusedSimpArgs false
set_option linter.unusedVariables false
set_option linter.unusedSimpArgs false
set_option linter.unusedVariables false
namespace Go.Proofs.Ytlkokkbikkbaoaa
open Go.RowKit
set_option maxRecDepth 100000

def NumJ (w : World) (o : Option Nat) (e : Ending) (w' : World) : Prop :=
  ∃ (x : Int) (q : Bool), e = .returned (.tuple #[.int .i64 x, .bool q]) ∧ q = o.isSome ∧ (∀ n, o = some n → x = (n : Int)) ∧ Below w.heap.size w w'

theorem w64_le' (v : Nat) (h : v < 4294967296) : IntKind.i64.wrap (v : Int) = (v : Int) := w64_id _ (by omega) (by omega)

theorem num_walk {A : Option Addr} {c : Nat} {b : List UInt8} {w : World} (h : Reads w w.heap.size 1 A b.length (bys b)) (hc : b.length ≤ c) (hl : b.length ≤ 1000000000) (o : Option Nat) (ho : rdNum b = o) :
    Calls Try.prog 48 #[.slice A b.length c] w (NumJ w o) := by
  have hrd := read_any (k := 4) h hc (by omega) rfl
  unfold readN at hrd
  unfold rdNum at ho
  by_cases h4 : 4 ≤ b.length
  · rw [if_pos ⟨by decide, by decide, by omega⟩] at hrd
    have hv := readU_4 b
    have hw := w64_le' (readU (b.take 4)) hv
    obtain ⟨v, hvv⟩ : ∃ v, readU (b.take 4) = v := ⟨_, rfl⟩
    rw [show (4 : Int).toNat = 4 from rfl] at hrd
    rw [hvv] at hrd hv hw
    have ho' : o = if b.length = 4 ∧ v ≤ 2147483647 then some v else none := by
      rw [← ho]
      by_cases h44 : b.length = 4
      · have ht : b.take 4 = b := List.take_of_length_le (by omega)
        rw [← hvv, ht]
      · rw [if_neg (fun hh => h44 hh.1), if_neg (fun hh => h44 hh.1)]
    obtain ⟨N, hN⟩ : ∃ N, b.length = N := ⟨_, rfl⟩
    rw [hN] at hrd ho' h4 ⊢
    replace ho' := Lib.hid ho'
    replace hrd := Lib.hid hrd
    clear ho hvv h hN
    go_enter Try.func48, Try.ntmps48
    go_wp2_with fail
    refine hrd.out.mono ?_
    clear hrd
    rintro e w2 ⟨rfl, hb2⟩
    dsimp only
    by_cases h44 : N = 4
    · subst h44
      by_cases hm : v ≤ 2147483647
      · have d2 : decide ((v : Int) ≤ 2147483647) = true := decide_eq_true (by omega)
        have ho2 : o = some v := by rw [ho'.out, if_pos ⟨rfl, hm⟩]
        subst ho2
        go_wp2_with fail
        go_ret2
        exact ⟨v, true, rfl, rfl, fun n hn => (by cases hn; rfl), hb2⟩
      · have d2 : decide ((v : Int) ≤ 2147483647) = false := decide_eq_false (by omega)
        have ho2 : o = none := by rw [ho'.out, if_neg (fun hh => hm hh.2)]
        subst ho2
        go_wp2_with fail
        go_ret2
        exact ⟨v, false, rfl, rfl, fun n hn => (by cases hn), hb2⟩
    · have d1 : ((N : Int) == 4) = false := by rw [beq_eq_false_iff_ne]; omega
      have ho2 : o = none := by rw [ho'.out, if_neg (fun hh => h44 hh.1)]
      subst ho2
      go_wp2_with fail
      go_ret2
      exact ⟨v, false, rfl, rfl, fun n hn => (by cases hn), hb2⟩
  · rw [if_neg (by omega)] at hrd
    have ho2 : o = none := by rw [← ho, if_neg (by omega)]
    subst ho2
    obtain ⟨N, hN⟩ : ∃ N, b.length = N := ⟨_, rfl⟩
    rw [hN] at hrd ⊢
    replace hrd := Lib.hid hrd
    clear ho h hN
    go_enter Try.func48, Try.ntmps48
    go_wp2_with fail
    refine hrd.out.mono ?_
    clear hrd
    rintro e w2 ⟨rfl, hb2⟩
    dsimp only
    go_wp2_with fail
    go_ret2
    exact ⟨0, false, rfl, rfl, fun n hn => (by cases hn), hb2⟩
end Go.Proofs.Ytlkokkbikkbaoaa
