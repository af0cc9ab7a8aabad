/- A row of records that comes as an argument, opened. -/
import Derived.Test.YtjljlgkghlphnaaJArg
set_option linter.unusedSimpArgs false
set_option linter.unusedVariables false
namespace Go.Proofs.Ytjljlgkghlphnaa
open Go.ChangeShapes Go.WideShapes Go.ChangeAt Go.RowKit
set_option maxRecDepth 100000

section
variable {H : Type} {enc : TypeId × Value → H} {W : World}
/-- A row of records that the machine reads. -/
def RowRec (W : World) (A : Option Addr) (l : List RecD) (xs : List Value) (css : Nat → Array Value) : Prop :=
  Reads W W.heap.size 9 A l.length xs ∧ (∀ (j : Nat) (x : RecD), l[j]? = some x → RecIs W x (css j)) ∧ ∀ j, j < l.length → (xs.drop (j * 9)).take 9 = (css j).toList

theorem open_recs {r : Reach} {base : Nat} {v : Value} {d : DataW H} {p : List MemPlace} (hval : Value.okWide Try.prog W r base 54 v) (h : DataW.Trod enc Try.prog W 0 (fun _ => true) true 54 v d p) {ts : List TypeId} {ds : List (DataW H)} {j : Nat}
    (hsz : (DataW.weightsEach Try.prog ts ds).all (· ≤ reachBytes) = true) (hj : ts[j]? = some 54) (hd : ds[j]? = some d) :
    ∃ (A : Option Addr) (c : Nat) (l : List RecD) (xs : List Value) (css : Nat → Array Value), v = .slice A l.length c ∧ RowRec W A l xs css ∧ l.length ≤ c := by
  have c9 : Try.prog.cellsOf 32 = 9 := by kernel_rfl
  obtain ⟨a0, len0, cap0, rfl⟩ := okWide_slice Try.underlying54 hval
  obtain ⟨fuel, hf⟩ := h
  have hw := List.all_eq_true.1 hsz
  have hwy : ∀ u ∈ DataW.weights Try.prog 54 d, u ≤ reachBytes := fun u hu => by
    have := hw _ (DataW.weights_mem_each hj hd u hu)
    simpa using this
  rcases DataW.trod_slice Try.underlying54 hf with ⟨h0, -⟩ | ⟨a, len, cap1, elems, rest, n', hnn, h1, hy4, -, hlc, -, hlen, hel, -, -⟩
  · simp [Value.cells] at h0
    obtain ⟨rfl, rfl, rfl⟩ := h0
    exact ⟨none, 0, [], [], fun _ => #[], rfl, ⟨⟨by simp, fun h => absurd h (by simp)⟩, by simp, by simp⟩, Nat.le_refl _⟩
  · have hy4d : d = .slice (elems.map (·.1)) (rest.map (·.1)) := congrArg Prod.fst hy4
    rw [hy4d] at hwy
    simp [Value.cells] at h1
    obtain ⟨rfl, rfl, rfl⟩ := h1
    have hwe : ∀ y ∈ elems, ∀ u ∈ DataW.weights Try.prog 32 y.1, u ≤ reachBytes := by
      intro y hy u hu
      refine hwy u ?_
      unfold DataW.weights
      rw [Try.underlying54]
      exact List.mem_cons_of_mem _ (List.mem_append_left _ (weightsAll_mem _ y.1 (List.mem_map_of_mem hy) u hu))
    have each : ∀ i, i < len0 → ∃ (x : RecD) (cs : Array Value), RecIs W x cs ∧ cs.toList.length = 9 ∧ ∀ j u, cs.toList[j]? = some u → W.cell? (a.add (i * 9 + j)) = some u := by
      intro i hi2
      have h5 := hel i hi2
      rw [c9] at h5
      have hie : i < elems.length := by omega
      rw [List.getElem?_eq_getElem hie] at h5
      cases hc : W.cells? 0 (a.add (i * 9)) 9 with
      | none => rw [hc] at h5; cases h5
      | some cs' =>
        rw [hc] at h5
        obtain ⟨x, ca, hca, hx⟩ := trod_rec h5 (hwe _ (List.getElem_mem hie))
        obtain ⟨-, hcl, hat⟩ := World.cells?_some hc
        refine ⟨x, ca, hx, by rw [hca]; exact hcl, fun j u hj => ?_⟩
        have hj9 : j < 9 := by
          have := (List.getElem?_eq_some_iff.1 hj).1
          rw [hca, hcl] at this
          exact this
        have := hat j hj9
        rw [add_of_add] at this
        rw [this, ← hca]
        exact hj
    obtain ⟨l, xs, css, hl, hr, hp, hx, -⟩ := rows_of (by decide) each
    subst hl
    exact ⟨some a, cap0, l, xs, css, rfl, ⟨hr, hp, hx⟩, by omega⟩
end
end Go.Proofs.Ytjljlgkghlphnaa
