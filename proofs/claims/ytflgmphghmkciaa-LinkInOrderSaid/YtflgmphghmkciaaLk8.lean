/- The chapter's prefix of texts. -/
import Derived.Test.YtflgmphghmkciaaLk6
import Derived.Test.YtflgmphghmkciaaLk7
import Derived.Test.YtflgmphghmkciaaLk4
set_option linter.unusedSimpArgs false
set_option linter.unusedVariables false
namespace Go.Proofs.Ytflgmphghmkciaa
open Go.RowKit
set_option maxRecDepth 100000

theorem StrC.cell {col : Nat → Nat} {k : Nat} {w : World} {A : Option Addr} {c : Nat} {L : List (List UInt8)} (h : StrC col k w A c L) {i : Nat} {b : List UInt8} (hi : L[i]? = some b) : ∃ g, A = some ⟨g, 0, none⟩ ∧ g < w.heap.size ∧ w.cell? ⟨g, i, none⟩ = some (.string (bstr b)) := by
  have hil := lt_at hi
  obtain ⟨g, cur, rfl, hb, hc, -⟩ := h.ho.open_ (by omega)
  refine ⟨g, rfl, hb.lt, ?_⟩
  rw [hb.cell, hc i hil, List.getElem?_map, hi]
  rfl
set_option maxHeartbeats 1600000 in
theorem prefix_true {col : Nat → Nat} {k k' : Nat} {w : World} {A A' : Option Addr} {c c' n : Nat} {L L' : List (List UInt8)} (h : StrC col k w A c L) (h' : StrC col k' w A' c' L') (hL : L = L'.take n) (hl : L.length ≤ 1000000) (hl' : L'.length ≤ 1000000) : Calls Try.prog 10 #[.slice A L.length c, .slice A' L'.length c'] w (Says w (.bool true)) := by
  have hle : L.length ≤ L'.length := by rw [hL, List.length_take]; omega
  have hat : ∀ (K : Nat) (b : List UInt8), L[K]? = some b → L'[K]? = some b := fun K b hb => by
    rw [hL, List.getElem?_take] at hb
    split at hb
    · exact hb
    · cases hb
  obtain ⟨N, hN⟩ : ∃ N, L.length = N := ⟨_, rfl⟩
  obtain ⟨M, hM⟩ : ∃ N, L'.length = N := ⟨_, rfl⟩
  rw [hN] at hl hle ⊢
  rw [hM] at hl' hle ⊢
  clear hL
  go_enter Try.func10, Try.ntmps10
  go_wp2_with fail
  go_loopw [5] (fun z wr => ∃ K : Nat, K ≤ N ∧ z = .int .i64 (K : Int) ∧ Below w.heap.size w wr) (fun z _ => N - (intOf z).toNat)
  case atStart => exact ⟨0, Nat.zero_le _, rfl, Below.refl _ _⟩
  case round =>
    obtain ⟨K, hk, rfl, hb⟩ := hrel
    by_cases hlt : K < N
    · obtain ⟨b, hb1⟩ : ∃ b, L[K]? = some b := ⟨_, List.getElem?_eq_getElem (by omega)⟩
      obtain ⟨g, rfl, hgl, c1⟩ := h.cell hb1
      obtain ⟨g', rfl, hgl', c2⟩ := h'.cell (hat K b hb1)
      have c1' : wr.cell? ⟨g, K, none⟩ = some (.string (bstr b)) := (hb.cell (p := ⟨g, K, none⟩) hgl).trans c1
      have c2' : wr.cell? ⟨g', K, none⟩ = some (.string (bstr b)) := (hb.cell (p := ⟨g', K, none⟩) hgl').trans c2
      generalize bstr b = s at c1' c2'
      have hdk : decide ((K : Int) < (N : Int)) = true := decide_eq_true (by omega)
      have hdm : decide ((M : Int) ≤ (K : Int)) = false := decide_eq_false (by omega)
      have hdm2 : decide (M ≤ K) = false := decide_eq_false (by omega)
      have hkw : IntKind.i64.wrap ((K : Int) + 1) = (K : Int) + 1 := by rw [IntKind.wrap_i64]; omega
      clear c1 c2 hb1
      go_wp2_with (go_quiet (fail))
      go_roundw
      case rel => exact ⟨K + 1, by omega, by simp, by first | assumption | exact below_drewN hb _⟩
      case measure => simp [intOf]; omega
    · have hk' : K = N := by omega
      have hdk : decide ((K : Int) < (N : Int)) = false := decide_eq_false (by omega)
      go_wp2_with fail
      go_ret
      exact ⟨rfl, hb⟩
end Go.Proofs.Ytflgmphghmkciaa
