/- The argument of DiskPlays, opened. -/
import Derived.Test.YtmebhnkmfdffoaaFrame
import Derived.Test.YtmebhnkmfdffoaaDiskPlays
namespace Go.Proofs.Ytmebhnkmfdffoaa
open Go.ChangeShapes Go.WideShapes Go.ChangeAt Go.RowKit

theorem open_acts {H : Type} {enc : TypeId × Value → H} {W : World} {r : Reach} {base : Nat} {v : Value} {d : DataW H} {p : List MemPlace}
    (hval : Value.okWide Try.prog W r base 31 v) (h : DataW.Trod enc Try.prog W 0 (fun _ => true) true 31 v d p) {ts : List TypeId} {ds : List (DataW H)} {j : Nat}
    (_ : (DataW.weightsEach Try.prog ts ds).all (· ≤ reachBytes) = true) (_ : ts[j]? = some 31) (_ : ds[j]? = some d) :
    ∃ (A : Option Addr) (cap : Nat) (acts : List ActD), v = .slice A acts.length cap ∧ ActsAt W W.heap.size A acts := by
  obtain ⟨A, len, cap, rfl, hl, hm, hf⟩ := open_fields Try.underlying31 Try.underlying36 (by kernel_rfl) (by kernel_rfl) (by decide) hval h
  rcases Nat.eq_zero_or_pos len with h0 | h0
  · subst h0
    exact ⟨A, cap, [], rfl, fun h => absurd h (by simp)⟩
  obtain ⟨a, rfl, hb, hf⟩ := hf h0
  have each : ∀ i, ∃ x : ActD, i < len → (0 ≤ x.what ∧ x.what ≤ 255 ∧ -9223372036854775808 ≤ x.n ∧ x.n ≤ 9223372036854775807) ∧ W.cell? (a.add (i * 3)) = some (.int .u8 x.what) ∧ W.cell? (a.add (i * 3 + 1)) = some (.int .i64 x.n) ∧
      ∃ C c, W.cell? (a.add (i * 3 + 2)) = some (.slice C x.b.length c) ∧ Reads W W.heap.size 1 C x.b.length (bys x.b) := by
    intro i
    by_cases hi : i < len
    · obtain ⟨u0, y0, n0, c0, t0⟩ := hf i hi 0 _ rfl
      obtain ⟨u1, y1, n1, c1, t1⟩ := hf i hi 1 _ rfl
      obtain ⟨u2, y2, n2, c2, t2⟩ := hf i hi 2 _ rfl
      obtain ⟨z0, e0, _, w0⟩ := DataW.trod_int Try.underlying5 t0
      obtain ⟨z1, e1, _, w1⟩ := DataW.trod_int Try.underlying3 t1
      obtain ⟨C, c, bs, rfl, hr, _, _⟩ := bytes_of_trod Try.underlying22 Try.underlying5 (by kernel_rfl) t2 (fun _ => rfl)
      simp only [List.cons.injEq, and_true] at e0 e1
      subst e0 e1
      refine ⟨⟨z0, z1, bs⟩, fun _ => ⟨⟨(bounds_u8 w0).1, (bounds_u8 w0).2, (bounds_i64 w1).1, (bounds_i64 w1).2⟩, c0, c1, C, c, c2, hr⟩⟩
    · exact ⟨⟨0, 0, []⟩, fun h => absurd h hi⟩
  obtain ⟨f, hfx⟩ := Classical.axiomOfChoice each
  refine ⟨some a, cap, (List.range len).map f, by simp, fun _ => ⟨a, rfl, hb, fun i x hx => ?_⟩⟩
  rw [List.getElem?_map] at hx
  have hi : i < len := by
    rcases Nat.lt_or_ge i len with h | h
    · exact h
    · rw [List.getElem?_eq_none (by simpa using h)] at hx; cases hx
  rw [List.getElem?_range hi] at hx
  simp only [Option.map_some, Option.some.injEq] at hx
  subst hx
  exact hfx i hi
end Go.Proofs.Ytmebhnkmfdffoaa
