/- An argument that is a slice of slices of bytes, opened. -/
import Derived.Test.YtphbiglkkibnfaaFrame
import Derived.Test.YtphbiglkkibnfaaFrameScans
namespace Go.Proofs.Ytphbiglkkibnfaa
open Go.ChangeShapes Go.WideShapes Go.ChangeAt Go.RowKit

section
variable {H : Type} {enc : TypeId × Value → H} {P : Program} {W : World} {r : Reach} {base : Nat}
/-- A slice whose elements are of one cell each. -/
theorem open_elems {t e : TypeId} {v : Value} {d : DataW H} {p : List MemPlace} (ht : P.underlying t = some (.slice e)) (hC : P.cellsOf e = 1)
    (hval : Value.okWide P W r base t v) (h : DataW.Trod enc P W 0 (fun _ => true) true t v d p) :
    ∃ (A : Option Addr) (len cap : Nat), v = .slice A len cap ∧ len ≤ cap ∧ cap ≤ maxLen ∧ (0 < len → ∃ a, A = some a ∧ a.block < W.heap.size ∧ ∀ i, i < len →
      ∃ (u : Value) (y : DataW H × List MemPlace) (n : Nat), W.cell? (a.add i) = some u ∧ DataW.trod enc P W 0 (fun _ => true) true n e [u] = some y) := by
  obtain ⟨a, len, cap, rfl⟩ := okWide_slice ht hval
  obtain ⟨fuel, hf⟩ := h
  rcases Go.Deep.open_slice ht hf with ⟨h0, _⟩ | ⟨a', len', cap', m, n, D, Pl, hcs, _, hl, hm, hmm, _, hi⟩
  · simp [Value.cells] at h0
    obtain ⟨rfl, rfl, rfl⟩ := h0
    exact ⟨none, 0, 0, rfl, Nat.le_refl _, Nat.zero_le _, fun h => absurd h (by omega)⟩
  · simp [Value.cells] at hcs
    obtain ⟨rfl, rfl, rfl⟩ := hcs
    have hf : ∀ i, i < len → ∃ (u : Value) (y : DataW H × List MemPlace) (n : Nat), W.cell? (a'.add i) = some u ∧ DataW.trod enc P W 0 (fun _ => true) true n e [u] = some y := by
      intro i hil
      obtain ⟨cs', hc, ht'⟩ := hi i (by rw [hmm]; simp; omega)
      rw [hC] at hc
      obtain ⟨_, hcl, hat⟩ := World.cells?_some hc
      have hat0 := hat 0 (by omega)
      rw [Nat.mul_one] at hat0
      match cs', hcl with
      | [u], _ =>
        refine ⟨u, _, _, ?_, ht'⟩
        rw [add_of_add, Nat.add_zero] at hat0
        simpa using hat0
    refine ⟨some a', len, cap, rfl, hl, hm, fun hn => ⟨a', rfl, ?_, hf⟩⟩
    obtain ⟨u, _, _, hu, _⟩ := hf 0 hn
    have := World.block_lt_of_cell? W _ hu
    rwa [block_of_add] at this
end

theorem open_rows {H : Type} {enc : TypeId × Value → H} {W : World} {r : Reach} {base : Nat} {v : Value} {d : DataW H} {p : List MemPlace}
    (hval : Value.okWide Try.prog W r base 35 v) (h : DataW.Trod enc Try.prog W 0 (fun _ => true) true 35 v d p) {ts : List TypeId} {ds : List (DataW H)} {j : Nat}
    (_ : (DataW.weightsEach Try.prog ts ds).all (· ≤ reachBytes) = true) (_ : ts[j]? = some 35) (_ : ds[j]? = some d) :
    ∃ (A : Option Addr) (cap : Nat) (l : List (List UInt8)), v = .slice A l.length cap ∧ RowsIn W W.heap.size A l := by
  obtain ⟨A, len, cap, rfl, hl, hm, hf⟩ := open_elems Try.underlying35 (by kernel_rfl) hval h
  rcases Nat.eq_zero_or_pos len with h0 | h0
  · subst h0
    exact ⟨A, cap, [], rfl, fun h => absurd h (by simp)⟩
  obtain ⟨a, rfl, hb, hf⟩ := hf h0
  have each : ∀ i, ∃ x : List UInt8, i < len → ∃ C c, W.cell? (a.add i) = some (.slice C x.length c) ∧ Reads W W.heap.size 1 C x.length (bys x) ∧ x.length ≤ c := by
    intro i
    by_cases hi : i < len
    · obtain ⟨u, y, n, hc, ht⟩ := hf i hi
      obtain ⟨C, c, bs, rfl, hr, hle, _⟩ := bytes_of_trod Try.underlying22 Try.underlying5 (by kernel_rfl) ht (fun _ => rfl)
      exact ⟨bs, fun _ => ⟨C, c, hc, hr, hle⟩⟩
    · exact ⟨[], fun h => absurd h hi⟩
  obtain ⟨f, hfx⟩ := Classical.axiomOfChoice each
  refine ⟨some a, cap, (List.range len).map f, by simp, fun _ => ⟨a, rfl, hb, fun i x hx => ?_⟩⟩
  rw [List.getElem?_map] at hx
  have hi : i < len := by
    rcases Nat.lt_or_ge i len with h | h
    · exact h
    · rw [List.getElem?_eq_none (by simpa using h)] at hx; cases hx
  rw [List.getElem?_range hi] at hx
  simp only [Option.map_some, Option.some.injEq] at hx
  subst hx
  exact hfx i hi
end Go.Proofs.Ytphbiglkkibnfaa
