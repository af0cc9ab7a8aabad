/- A log's last view; a log clipped, cloned. -/
import Derived.Test.YtlkokkbikkbaoaaLog
set_option linter.unusedSimpArgs false
set_option linter.unusedVariables false
set_option linter.unusedSimpArgs false
set_option linter.unusedVariables false
namespace Go.Proofs.Ytlkokkbikkbaoaa
open Go.RowKit
set_option maxRecDepth 100000

theorem last_log {w : World} {B c : Nat} {A : Option Addr} {l : List (Nat × OpD)} {xs : List Value} {css : Nat → Array Value} (h : LogR w B A c l xs css) (hl : l.length ≤ 1000000) :
    Calls Try.prog 37 #[.slice A l.length c] w (fun e w' => e = .returned (.int .u64 (lastV l : Int)) ∧ w' = w) := by
  by_cases h0 : l.length = 0
  · have hl0 : l = [] := List.eq_nil_of_length_eq_zero h0
    subst hl0
    clear h
    go_enter Try.func37, Try.ntmps37
    go_wp2_with fail
    go_ret
    exact ⟨rfl, rfl⟩
  · obtain ⟨x, hx, hlast⟩ := lastV_get (l := l) (by omega)
    obtain ⟨ad, rfl, hadb, hcell⟩ := h.cell hx
    have hc0 := hcell 0 _ rfl
    rw [Nat.add_zero] at hc0
    have hc := h.hc
    obtain ⟨n, hn⟩ : ∃ n, l.length = n := ⟨_, rfl⟩
    rw [hn] at h0 hl hc hc0 ⊢
    obtain ⟨m, hm⟩ : ∃ m, n - 1 = m := ⟨_, rfl⟩
    rw [hm] at hc0
    have hw1 : IntKind.i64.wrap ((n : Int) - 1) = (m : Int) := by
      rw [show (n : Int) - 1 = (m : Int) by omega]; exact w64_id _ (by omega) (by omega)
    have dn : ((n : Int) == 0) = false := by rw [beq_eq_false_iff_ne]; omega
    have hmn : m < n := by omega
    rw [hlast]
    generalize x.1 = v at *
    replace hm := Lib.hid hm
    clear h hcell hx hlast hn
    go_enter Try.func37, Try.ntmps37
    go_wp2_with fail
    go_ret
    exact ⟨rfl, rfl⟩

theorem clip_log {w : World} {n c : Nat} {A : Option Addr} (hc : n ≤ c) (hA : A = none → c = 0) :
    Calls Try.prog 38 #[.slice A n c] w (fun e w' => e = .returned (.slice A n n) ∧ w' = w) := by
  cases A with
  | none =>
    have h0 := hA rfl
    subst h0
    obtain rfl : n = 0 := by omega
    go_enter Try.func38, Try.ntmps38
    go_wp2_with fail
    go_ret
    exact ⟨rfl, rfl⟩
  | some a =>
    clear hA
    go_enter Try.func38, Try.ntmps38
    go_wp2_with fail
    go_ret
    exact ⟨rfl, rfl⟩

def NewLog (w : World) (n : Nat) (xs : List Value) (e : Ending) (w' : World) : Prop :=
  ∃ A' c', e = .returned (.slice A' n c') ∧ Own w' 42 7 A' n c' xs ∧ Below w.heap.size w w' ∧ ∀ g, bOf A' = some g → w.heap.size ≤ g

theorem clone_log {A : Option Addr} {n c B : Nat} {xs : List Value} {w : World} (hr : Reads w B 7 A n xs) (hone : ∀ u ∈ xs, u.oneCell' = true) (hB : B ≤ w.heap.size) (hl : n ≤ 1000000) :
    Calls Try.prog 40 #[.slice A n c] w (NewLog w n xs) := by
  obtain ⟨i0, hi, hz0, hz1, hz2⟩ := info_parts info_ent
  have he := fun w A n => Lib.run_eql_slice_nil (P := Try.prog) w 27 42 A n c 0 0 Try.underlying27
  cases A with
  | none =>
    have h0 : n = 0 := by
      rcases Nat.eq_zero_or_pos n with h | h
      · exact h
      · obtain ⟨_, h, _⟩ := hr.2 h; cases h
    subst h0
    have hb : xs = [] := List.eq_nil_of_length_eq_zero (by simpa using hr.1)
    subst hb
    clear hr
    go_enter Try.func40, Try.ntmps40
    go_wp2
    go_ret
    exact ⟨none, 0, rfl, Own.none_, Below.refl _ _, by simp [bOf]⟩
  | some a =>
    go_enter Try.func40, Try.ntmps40
    go_wp2_with (at_builtin; go_must (refine wpList_append_mine rfl _ _ 27 27 rfl 42 i0 _ 7 80 Try.underlying27 hi hz0 hz1 hz2 rfl rfl (Own.new w 42 7 0 #[] rfl (by decide)) rfl (Src.ofReads Try.underlying27 _ (hr.alloc hB _) hone) ?b1 ?b2 ?grow))
    case b1 => unfold maxLen; omega
    case b2 => omega
    case grow =>
      intro A' c' w' hown hg hat
      go_wp2
      go_ret
      simp only [Nat.zero_add, List.nil_append] at hown ⊢
      refine ⟨A', c', rfl, hown, ((Below.refl _ _).alloc (Nat.le_refl _) _).grown hg (by simp) (fun k hk => by simp [bOf] at hk; omega), ?_⟩
      intro g hg
      rcases hat with h | h <;> rw [h] at hg <;> simp [bOf] at hg <;> omega
end Go.Proofs.Ytlkokkbikkbaoaa
