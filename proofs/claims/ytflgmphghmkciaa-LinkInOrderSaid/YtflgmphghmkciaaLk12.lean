/- The script of LinkInOrder, opened. -/
import Derived.Test.YtflgmphghmkciaaLk11
import Derived.Test.YtflgmphghmkciaaFrame
set_option linter.unusedSimpArgs false
set_option linter.unusedVariables false
namespace Go.Proofs.Ytflgmphghmkciaa
open Go.ChangeShapes Go.WideShapes Go.ChangeAt Go.RowKit
set_option maxRecDepth 100000
structure ActD where
  what : Nat
  side : Nat
  n : Nat
  b : List UInt8
def ActIs (W : World) (x : ActD) (cs : Array Value) : Prop :=
  ∃ (B : Option Addr) (cB : Nat), cs = #[.int .u8 (x.what : Int), .int .u8 (x.side : Int), .int .u8 (x.n : Int), .slice B x.b.length cB] ∧ Reads W W.heap.size 1 B x.b.length (bys x.b) ∧ x.what ≤ 255 ∧ x.side ≤ 255 ∧ x.n ≤ 255 ∧ x.b.length ≤ cB
section
variable {H : Type} {enc : TypeId × Value → H} {W : World}
theorem rows_of {α : Type} {W : World} {S : Nat} (hS : 0 < S) {P : α → Array Value → Prop} {a : Addr} {len : Nat} (each : ∀ i, i < len → ∃ (x : α) (cs : Array Value), P x cs ∧ cs.toList.length = S ∧ ∀ j u, cs.toList[j]? = some u → W.cell? (a.add (i * S + j)) = some u) :
    ∃ (l : List α) (xs : List Value) (css : Nat → Array Value), l.length = len ∧ Reads W W.heap.size S (some a) len xs ∧ (∀ j x, l[j]? = some x → P x (css j)) ∧ (∀ j, j < len → (xs.drop (j * S)).take S = (css j).toList) ∧ ∀ j, j < len → (css j).toList.length = S := by
  induction len with
  | zero => exact ⟨[], [], fun _ => #[], rfl, ⟨by simp, fun h => absurd h (by omega)⟩, by simp, fun j h => absurd h (by omega), fun j h => absurd h (by omega)⟩
  | succ len ih =>
    obtain ⟨l, xs, css, hl, hr, hp, hx, hsz⟩ := ih (fun i hi => each i (by omega))
    obtain ⟨x, cs, hP, hcs, hcell⟩ := each len (by omega)
    have hxl := hr.len
    refine ⟨l ++ [x], xs ++ cs.toList, fun j => if j = len then cs else css j, by simp [hl], ⟨by rw [List.length_append, hxl, hcs, Nat.add_mul, Nat.one_mul], fun _ => ⟨a, rfl, ?_, fun q u hq => ?_⟩⟩, fun j y hj => ?_, fun j hj => ?_, fun j hj => ?_⟩
    · obtain ⟨u, hu⟩ : ∃ u, cs.toList[0]? = some u := ⟨_, List.getElem?_eq_getElem (by omega)⟩
      have := World.block_lt_of_cell? W _ (hcell 0 u hu)
      rwa [block_of_add] at this
    · rcases Nat.lt_or_ge q xs.length with h | h
      · rw [List.getElem?_append_left h] at hq
        have hlen : 0 < len := by
          rcases Nat.eq_zero_or_pos len with h0 | h0
          · subst h0; omega
          · exact h0
        obtain ⟨ad, e, -, hc⟩ := hr.2 hlen
        cases e
        exact hc q u hq
      · rw [List.getElem?_append_right h] at hq
        have := hcell _ u hq
        rw [hxl] at this
        rw [← this]
        congr 2
        omega
    · dsimp only
      rcases Nat.lt_trichotomy j len with h | h | h
      · rw [List.getElem?_append_left (by omega)] at hj
        rw [if_neg (by omega)]
        exact hp j y hj
      · subst h
        rw [List.getElem?_append_right (by omega), hl] at hj
        simp at hj
        subst hj
        rw [if_pos rfl]
        exact hP
      · rw [List.getElem?_eq_none (by simp [hl]; omega)] at hj; cases hj
    · dsimp only
      rcases Nat.lt_or_ge j len with h | h
      · rw [if_neg (by omega), ← hx j h]
        have h1 : j * S + S ≤ len * S := by rw [← Nat.succ_mul]; exact Nat.mul_le_mul_right _ (by omega)
        rw [List.drop_append_of_le_length (by omega), List.take_append_of_le_length (by rw [List.length_drop]; omega)]
      · have : j = len := by omega
        subst this
        rw [if_pos rfl, List.drop_left' hxl]
        exact List.take_of_length_le (by omega)
    · dsimp only
      rcases Nat.lt_or_ge j len with h | h
      · rw [if_neg (by omega)]; exact hsz j h
      · rw [if_pos (by omega)]; exact hcs
theorem u8_nat {x : Int} (h : (Lit.int .u8 x).wf = true) : ∃ n : Nat, x = (n : Int) ∧ n ≤ 255 := by
  simp [Lit.wf, IntKind.min, IntKind.max, IntKind.signed, IntKind.bits] at h
  exact ⟨x.toNat, by omega, by omega⟩
theorem trod_act {fuel : Nat} {cs : List Value} {y : DataW H × List MemPlace} (hf : DataW.trod enc Try.prog W 0 (fun _ => true) true fuel 31 cs = some y) :
    ∃ (x : ActD) (ca : Array Value), ca.toList = cs ∧ ActIs W x ca := by
  have c4 : Try.prog.cellsOf 31 = 4 := by kernel_rfl
  have q0 : Try.prog.cellsOf 5 = 1 := by kernel_rfl
  have q4 : Try.prog.cellsOf 29 = 1 := by kernel_rfl
  obtain ⟨ys, n0, rfl, hd0, hl, hyl, hff⟩ := DataW.trod_struct Try.underlying31 hf
  rw [c4] at hl
  obtain ⟨a0, a1, a2, a3, rfl⟩ : ∃ a0 a1 a2 a3, cs = [a0, a1, a2, a3] := by
    match cs, hl with
    | [a0, a1, a2, a3], _ => exact ⟨a0, a1, a2, a3, rfl⟩
  obtain ⟨y0, y1, y2, y3, rfl⟩ : ∃ y0 y1 y2 y3, ys = [y0, y1, y2, y3] := by
    match ys, hyl with
    | [y0, y1, y2, y3], _ => exact ⟨y0, y1, y2, y3, rfl⟩
  have t0 : DataW.trod enc Try.prog W 0 (fun _ => true) true n0 5 (([a0, a1, a2, a3].drop 0).take (Try.prog.cellsOf 5)) = some y0 := hff 0 _ rfl
  have t1 : DataW.trod enc Try.prog W 0 (fun _ => true) true n0 5 (([a0, a1, a2, a3].drop 1).take (Try.prog.cellsOf 5)) = some y1 := hff 1 _ rfl
  have t2 : DataW.trod enc Try.prog W 0 (fun _ => true) true n0 5 (([a0, a1, a2, a3].drop 2).take (Try.prog.cellsOf 5)) = some y2 := hff 2 _ rfl
  have t3 : DataW.trod enc Try.prog W 0 (fun _ => true) true n0 29 (([a0, a1, a2, a3].drop 3).take (Try.prog.cellsOf 29)) = some y3 := hff 3 _ rfl
  rw [q0] at t0 t1 t2
  rw [q4] at t3
  simp only [List.drop_zero, List.take_succ_cons, List.take_zero, List.drop_succ_cons] at t0 t1 t2 t3
  obtain ⟨m0, e0, -, w0⟩ := DataW.trod_int Try.underlying5 t0
  obtain ⟨m1, e1, -, w1⟩ := DataW.trod_int Try.underlying5 t1
  obtain ⟨m2, e2, -, w2⟩ := DataW.trod_int Try.underlying5 t2
  obtain ⟨m0, rfl, b0⟩ := u8_nat w0
  obtain ⟨m1, rfl, b1⟩ := u8_nat w1
  obtain ⟨m2, rfl, b2⟩ := u8_nat w2
  simp at e0 e1 e2
  subst e0 e1 e2
  obtain ⟨B, cB, bs, rfl, hr, hle, -⟩ := bytes_of_trod Try.underlying29 Try.underlying5 (by kernel_rfl) t3 (fun _ => rfl)
  exact ⟨⟨m0, m1, m2, bs⟩, #[.int .u8 (m0 : Int), .int .u8 (m1 : Int), .int .u8 (m2 : Int), .slice B bs.length cB], rfl, B, cB, rfl, hr, b0, b1, b2, hle⟩
/-- A row of acts that the machine reads. -/
def RowAct (W : World) (A : Option Addr) (l : List ActD) (xs : List Value) (css : Nat → Array Value) : Prop :=
  Reads W W.heap.size 4 A l.length xs ∧ (∀ (j : Nat) (x : ActD), l[j]? = some x → ActIs W x (css j)) ∧ ∀ j, j < l.length → (xs.drop (j* 4)).take 4 = (css j).toList

theorem open_acts {r : Reach} {base : Nat} {v : Value} {d : DataW H} {p : List MemPlace} (hval : Value.okWide Try.prog W r base 22 v) (h : DataW.Trod enc Try.prog W 0 (fun _ => true) true 22 v d p) {ts : List TypeId} {ds : List (DataW H)} {j : Nat}
    (hsz : (DataW.weightsEach Try.prog ts ds).all (· ≤ reachBytes) = true) (hj : ts[j]? = some 22) (hd : ds[j]? = some d) :
    ∃ (A : Option Addr) (c : Nat) (l : List ActD) (xs : List Value) (css : Nat → Array Value), v = .slice A l.length c ∧ RowAct W A l xs css ∧ l.length ≤ c := by
  have c4 : Try.prog.cellsOf 31 = 4 := by kernel_rfl
  obtain ⟨a0, len0, cap0, rfl⟩ := okWide_slice Try.underlying22 hval
  obtain ⟨fuel, hf⟩ := h
  have hw := List.all_eq_true.1 hsz
  have hwy : ∀ u ∈ DataW.weights Try.prog 22 d, u ≤ reachBytes := fun u hu => by
    have := hw _ (DataW.weights_mem_each hj hd u hu)
    simpa using this
  rcases DataW.trod_slice Try.underlying22 hf with ⟨h0, -⟩ | ⟨a, len, cap1, elems, rest, n', hnn, h1, hy4, -, hlc, -, hlen, hel, -, -⟩
  · simp [Value.cells] at h0
    obtain ⟨rfl, rfl, rfl⟩ := h0
    exact ⟨none, 0, [], [], fun _ => #[], rfl, ⟨⟨by simp, fun h => absurd h (by simp)⟩, by simp, by simp⟩, Nat.le_refl _⟩
  · have hy4d : d = .slice (elems.map (·.1)) (rest.map (·.1)) := congrArg Prod.fst hy4
    rw [hy4d] at hwy
    simp [Value.cells] at h1
    obtain ⟨rfl, rfl, rfl⟩ := h1
    have each : ∀ i, i < len0 → ∃ (x : ActD) (cs : Array Value), ActIs W x cs ∧ cs.toList.length = 4 ∧ ∀ j u, cs.toList[j]? = some u → W.cell? (a.add (i* 4 + j)) = some u := by
      intro i hi2
      have h5 := hel i hi2
      rw [c4] at h5
      have hie : i < elems.length := by omega
      rw [List.getElem?_eq_getElem hie] at h5
      cases hc : W.cells? 0 (a.add (i* 4)) 4 with
      | none => rw [hc] at h5; cases h5
      | some cs' =>
        rw [hc] at h5
        obtain ⟨x, ca, hca, hx⟩ := trod_act h5
        obtain ⟨-, hcl, hat⟩ := World.cells?_some hc
        refine ⟨x, ca, hx, by rw [hca]; exact hcl, fun j u hj => ?_⟩
        have hj6 : j < 4 := by
          have := (List.getElem?_eq_some_iff.1 hj).1
          rw [hca, hcl] at this
          exact this
        have := hat j hj6
        rw [add_of_add] at this
        rw [this, ← hca]
        exact hj
    obtain ⟨l, xs, css, hl, hr, hp, hx, -⟩ := rows_of (by decide) each
    subst hl
    exact ⟨some a, cap0, l, xs, css, rfl, ⟨hr, hp, hx⟩, by omega⟩
end
end Go.Proofs.Ytflgmphghmkciaa
