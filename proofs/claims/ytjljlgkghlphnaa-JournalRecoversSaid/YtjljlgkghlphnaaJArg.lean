/- A record that comes as an argument, opened; a row of records. -/
import Derived.Test.YtjljlgkghlphnaaB5
import Derived.Test.YtjljlgkghlphnaaJ1
set_option linter.unusedSimpArgs false
set_option linter.unusedVariables false
namespace Go.Proofs.Ytjljlgkghlphnaa
open Go.ChangeShapes Go.WideShapes Go.ChangeAt Go.RowKit
set_option maxRecDepth 100000

/-- Cells of a row of structs, element by element. -/
theorem rows_of {α : Type} {W : World} {S : Nat} (hS : 0 < S) {P : α → Array Value → Prop} {a : Addr} {len : Nat} (each : ∀ i, i < len → ∃ (x : α) (cs : Array Value), P x cs ∧ cs.toList.length = S ∧ ∀ j u, cs.toList[j]? = some u → W.cell? (a.add (i * S + j)) = some u) :
    ∃ (l : List α) (xs : List Value) (css : Nat → Array Value), l.length = len ∧ Reads W W.heap.size S (some a) len xs ∧ (∀ j x, l[j]? = some x → P x (css j)) ∧ (∀ j, j < len → (xs.drop (j * S)).take S = (css j).toList) ∧ ∀ j, j < len → (css j).toList.length = S := by
  induction len with
  | zero => exact ⟨[], [], fun _ => #[], rfl, ⟨by simp, fun h => absurd h (by omega)⟩, by simp, fun j h => absurd h (by omega), fun j h => absurd h (by omega)⟩
  | succ len ih =>
    obtain ⟨l, xs, css, hl, hr, hp, hx, hsz⟩ := ih (fun i hi => each i (by omega))
    obtain ⟨x, cs, hP, hcs, hcell⟩ := each len (by omega)
    have hxl := hr.len
    refine ⟨l ++ [x], xs ++ cs.toList, fun j => if j = len then cs else css j, by simp [hl], ⟨by rw [List.length_append, hxl, hcs, Nat.add_mul, Nat.one_mul], fun _ => ⟨a, rfl, ?_, fun q u hq => ?_⟩⟩, fun j y hj => ?_, fun j hj => ?_, fun j hj => ?_⟩
    · obtain ⟨u, hu⟩ : ∃ u, cs.toList[0]? = some u := ⟨_, List.getElem?_eq_getElem (by omega)⟩
      have := World.block_lt_of_cell? W _ (hcell 0 u hu)
      rwa [block_of_add] at this
    · rcases Nat.lt_or_ge q xs.length with h | h
      · rw [List.getElem?_append_left h] at hq
        have hlen : 0 < len := by
          rcases Nat.eq_zero_or_pos len with h0 | h0
          · subst h0; omega
          · exact h0
        obtain ⟨ad, e, -, hc⟩ := hr.2 hlen
        cases e
        exact hc q u hq
      · rw [List.getElem?_append_right h] at hq
        have := hcell _ u hq
        rw [hxl] at this
        rw [← this]
        congr 2
        omega
    · dsimp only
      rcases Nat.lt_trichotomy j len with h | h | h
      · rw [List.getElem?_append_left (by omega)] at hj
        rw [if_neg (by omega)]
        exact hp j y hj
      · subst h
        rw [List.getElem?_append_right (by omega), hl] at hj
        simp at hj
        subst hj
        rw [if_pos rfl]
        exact hP
      · rw [List.getElem?_eq_none (by simp [hl]; omega)] at hj; cases hj
    · dsimp only
      rcases Nat.lt_or_ge j len with h | h
      · rw [if_neg (by omega), ← hx j h]
        have h1 : j * S + S ≤ len * S := by rw [← Nat.succ_mul]; exact Nat.mul_le_mul_right _ (by omega)
        rw [List.drop_append_of_le_length (by omega), List.take_append_of_le_length (by rw [List.length_drop]; omega)]
      · have : j = len := by omega
        subst this
        rw [if_pos rfl, List.drop_left' hxl]
        exact List.take_of_length_le (by omega)
    · dsimp only
      rcases Nat.lt_or_ge j len with h | h
      · rw [if_neg (by omega)]; exact hsz j h
      · rw [if_pos (by omega)]; exact hcs

theorem u64_nat {x : Int} (h : (Lit.int .u64 x).wf = true) : ∃ n : Nat, x = (n : Int) ∧ n < 18446744073709551616 := by
  simp [Lit.wf, IntKind.min, IntKind.max, IntKind.signed, IntKind.bits] at h
  exact ⟨x.toNat, by omega, by omega⟩
theorem i64_in {x : Int} (h : (Lit.int .i64 x).wf = true) : -9223372036854775808 ≤ x ∧ x ≤ 9223372036854775807 := by
  simp [Lit.wf, IntKind.min, IntKind.max, IntKind.signed, IntKind.bits] at h
  omega

section
variable {H : Type} {enc : TypeId × Value → H} {W : World}
theorem trod_op {fuel : Nat} {cs : List Value} {y : DataW H × List MemPlace} (hf : DataW.trod enc Try.prog W 0 (fun _ => true) true fuel 30 cs = some y) (hwy : ∀ u ∈ DataW.weights Try.prog 30 y.1, u ≤ reachBytes) :
    ∃ (c s n : Nat) (g m : List UInt8) (gg mm : ByteArray) (l : List Val) (A : Option Addr) (K cc : Nat), cs = [.int .u32 (c : Int), .int .u32 (s : Int), .int .u16 (n : Int), .string gg, .string mm, .slice A K cc] ∧ OpReads W W.heap.size ⟨c, s, n, g, m, l⟩ #[.int .u32 (c : Int), .int .u32 (s : Int), .int .u16 (n : Int), .string gg, .string mm, .slice A K cc] := by
  have c6 : Try.prog.cellsOf 30 = 6 := by kernel_rfl
  have k0 : Try.prog.cellsOf 27 = 3 := by kernel_rfl
  have k1 : Try.prog.cellsOf 9 = 1 := by kernel_rfl
  have k2 : Try.prog.cellsOf 28 = 1 := by kernel_rfl
  have q0 : Try.prog.cellsOf 24 = 1 := by kernel_rfl
  have q1 : Try.prog.cellsOf 25 = 1 := by kernel_rfl
  obtain ⟨ys, n0, rfl, hd0, hl, hyl, hff⟩ := DataW.trod_struct Try.underlying30 hf
  have hdy : y.1 = .agg (ys.map (·.1)) := congrArg Prod.fst hd0
  rw [c6] at hl
  obtain ⟨a0, a1, a2, a3, a4, a5, rfl⟩ : ∃ a0 a1 a2 a3 a4 a5, cs = [a0, a1, a2, a3, a4, a5] := by
    match cs, hl with
    | [a0, a1, a2, a3, a4, a5], _ => exact ⟨a0, a1, a2, a3, a4, a5, rfl⟩
  obtain ⟨y0, y1, y2, y3, rfl⟩ : ∃ y0 y1 y2 y3, ys = [y0, y1, y2, y3] := by
    match ys, hyl with
    | [y0, y1, y2, y3], _ => exact ⟨y0, y1, y2, y3, rfl⟩
  have t0 : DataW.trod enc Try.prog W 0 (fun _ => true) true n0 27 (([a0, a1, a2, a3, a4, a5].drop 0).take (Try.prog.cellsOf 27)) = some y0 := hff 0 _ rfl
  have t1 : DataW.trod enc Try.prog W 0 (fun _ => true) true n0 9 (([a0, a1, a2, a3, a4, a5].drop 3).take (Try.prog.cellsOf 9)) = some y1 := hff 1 _ rfl
  have t2 : DataW.trod enc Try.prog W 0 (fun _ => true) true n0 9 (([a0, a1, a2, a3, a4, a5].drop 4).take (Try.prog.cellsOf 9)) = some y2 := hff 2 _ rfl
  have t3 : DataW.trod enc Try.prog W 0 (fun _ => true) true n0 28 (([a0, a1, a2, a3, a4, a5].drop 5).take (Try.prog.cellsOf 28)) = some y3 := hff 3 _ rfl
  rw [k0] at t0
  rw [k1] at t1 t2
  rw [k2] at t3
  simp only [List.drop_zero, List.take_succ_cons, List.take_zero, List.drop_succ_cons] at t0 t1 t2 t3
  obtain ⟨gg, e1, -, -⟩ := DataW.trod_string Try.underlying9 t1
  obtain ⟨mm, e5, -, -⟩ := DataW.trod_string Try.underlying9 t2
  obtain ⟨zs, n1, rfl, -, -, hzl, hgg⟩ := DataW.trod_struct Try.underlying27 t0
  obtain ⟨z0, z1, z2, rfl⟩ : ∃ z0 z1 z2, zs = [z0, z1, z2] := by
    match zs, hzl with
    | [z0, z1, z2], _ => exact ⟨z0, z1, z2, rfl⟩
  have u0 : DataW.trod enc Try.prog W 0 (fun _ => true) true n1 24 (([a0, a1, a2].drop 0).take (Try.prog.cellsOf 24)) = some z0 := hgg 0 _ rfl
  have u1 : DataW.trod enc Try.prog W 0 (fun _ => true) true n1 24 (([a0, a1, a2].drop 1).take (Try.prog.cellsOf 24)) = some z1 := hgg 1 _ rfl
  have u2 : DataW.trod enc Try.prog W 0 (fun _ => true) true n1 25 (([a0, a1, a2].drop 2).take (Try.prog.cellsOf 25)) = some z2 := hgg 2 _ rfl
  rw [q0] at u0 u1
  rw [q1] at u2
  simp only [List.drop_zero, List.take_succ_cons, List.take_zero, List.drop_succ_cons] at u0 u1 u2
  obtain ⟨c, e2, -, wc⟩ := DataW.trod_int Try.underlying24 u0
  obtain ⟨s, e3, -, ws⟩ := DataW.trod_int Try.underlying24 u1
  obtain ⟨n, e4, -, wn⟩ := DataW.trod_int Try.underlying25 u2
  obtain ⟨c, rfl, bc⟩ := u32_nat wc
  obtain ⟨s, rfl, bs⟩ := u32_nat ws
  obtain ⟨n, rfl, bn⟩ := u16_nat wn
  simp at e1 e2 e3 e4 e5
  subst e1 e2 e3 e4 e5
  obtain ⟨A, cc, l, xs, css, rfl, hr, hx, hxs, hok, hll⟩ := open_vals t3 (fun u hu => by
    refine hwy u ?_
    rw [hdy]
    unfold DataW.weights
    rw [Try.underlying30]
    exact DataW.weights_mem_each (j := 3) rfl rfl u hu)
  have hb : ∀ x : ByteArray, bstr x.data.toList = x := fun x => by cases x; simp [bstr]
  exact ⟨c, s, n, gg.data.toList, mm.data.toList, gg, mm, l, A, l.length, cc, rfl, ⟨A, cc, xs, css, by simp only [hb], hr, hx, hxs, hll, hok, bc, bs, bn⟩⟩

/-- The cells of a record. -/
def RecIs (W : World) (r : RecD) (cs : Array Value) : Prop :=
  ∃ (gg mm : ByteArray) (A : Option Addr) (K cc : Nat), cs = #[.int .i64 r.k, .int .u64 (r.v : Int), .int .i64 r.n, .int .u32 (r.o.c : Int), .int .u32 (r.o.s : Int), .int .u16 (r.o.n : Int), .string gg, .string mm, .slice A K cc] ∧
    OpReads W W.heap.size r.o #[.int .u32 (r.o.c : Int), .int .u32 (r.o.s : Int), .int .u16 (r.o.n : Int), .string gg, .string mm, .slice A K cc] ∧ r.v < 18446744073709551616 ∧ (-9223372036854775808 ≤ r.k ∧ r.k ≤ 9223372036854775807) ∧ (-9223372036854775808 ≤ r.n ∧ r.n ≤ 9223372036854775807)

theorem trod_rec {fuel : Nat} {cs : List Value} {y : DataW H × List MemPlace} (hf : DataW.trod enc Try.prog W 0 (fun _ => true) true fuel 32 cs = some y) (hwy : ∀ u ∈ DataW.weights Try.prog 32 y.1, u ≤ reachBytes) :
    ∃ (r : RecD) (ca : Array Value), ca.toList = cs ∧ RecIs W r ca := by
  have c9 : Try.prog.cellsOf 32 = 9 := by kernel_rfl
  have k0 : Try.prog.cellsOf 30 = 6 := by kernel_rfl
  have q0 : Try.prog.cellsOf 3 = 1 := by kernel_rfl
  have q1 : Try.prog.cellsOf 23 = 1 := by kernel_rfl
  obtain ⟨ys, n0, rfl, hd0, hl, hyl, hff⟩ := DataW.trod_struct Try.underlying32 hf
  have hdy : y.1 = .agg (ys.map (·.1)) := congrArg Prod.fst hd0
  rw [c9] at hl
  obtain ⟨b0, b1, b2, a0, a1, a2, a3, a4, a5, rfl⟩ : ∃ b0 b1 b2 a0 a1 a2 a3 a4 a5, cs = [b0, b1, b2, a0, a1, a2, a3, a4, a5] := by
    match cs, hl with
    | [b0, b1, b2, a0, a1, a2, a3, a4, a5], _ => exact ⟨b0, b1, b2, a0, a1, a2, a3, a4, a5, rfl⟩
  obtain ⟨y0, y1, y2, y3, rfl⟩ : ∃ y0 y1 y2 y3, ys = [y0, y1, y2, y3] := by
    match ys, hyl with
    | [y0, y1, y2, y3], _ => exact ⟨y0, y1, y2, y3, rfl⟩
  have t0 : DataW.trod enc Try.prog W 0 (fun _ => true) true n0 3 (([b0, b1, b2, a0, a1, a2, a3, a4, a5].drop 0).take (Try.prog.cellsOf 3)) = some y0 := hff 0 _ rfl
  have t1 : DataW.trod enc Try.prog W 0 (fun _ => true) true n0 23 (([b0, b1, b2, a0, a1, a2, a3, a4, a5].drop 1).take (Try.prog.cellsOf 23)) = some y1 := hff 1 _ rfl
  have t2 : DataW.trod enc Try.prog W 0 (fun _ => true) true n0 3 (([b0, b1, b2, a0, a1, a2, a3, a4, a5].drop 2).take (Try.prog.cellsOf 3)) = some y2 := hff 2 _ rfl
  have t3 : DataW.trod enc Try.prog W 0 (fun _ => true) true n0 30 (([b0, b1, b2, a0, a1, a2, a3, a4, a5].drop 3).take (Try.prog.cellsOf 30)) = some y3 := hff 3 _ rfl
  rw [q0] at t0 t2
  rw [q1] at t1
  rw [k0] at t3
  simp only [List.drop_zero, List.take_succ_cons, List.take_zero, List.drop_succ_cons] at t0 t1 t2 t3
  obtain ⟨k, e0, -, wk⟩ := DataW.trod_int Try.underlying3 t0
  obtain ⟨v, e1, -, wv⟩ := DataW.trod_int Try.underlying23 t1
  obtain ⟨nn, e2, -, wn⟩ := DataW.trod_int Try.underlying3 t2
  obtain ⟨v, rfl, bv⟩ := u64_nat wv
  simp at e0 e1 e2
  subst e0 e1 e2
  obtain ⟨c, s, n, g, m, gg, mm, l, A, K, cc, e3, ho⟩ := trod_op t3 (fun u hu => by
    refine hwy u ?_
    rw [hdy]
    unfold DataW.weights
    rw [Try.underlying32]
    exact DataW.weights_mem_each (j := 3) rfl rfl u hu)
  simp at e3
  obtain ⟨rfl, rfl, rfl, rfl, rfl, rfl⟩ := e3
  exact ⟨⟨k, v, nn, ⟨c, s, n, g, m, l⟩⟩, #[.int .i64 k, .int .u64 (v : Int), .int .i64 nn, .int .u32 (c : Int), .int .u32 (s : Int), .int .u16 (n : Int), .string gg, .string mm, .slice A K cc], rfl, gg, mm, A, K, cc, rfl, ho, bv, i64_in wk, i64_in wn⟩

theorem open_rec {r : Reach} {base : Nat} {v : Value} {d : DataW H} {p : List MemPlace} (hval : Value.okWide Try.prog W r base 32 v) (h : DataW.Trod enc Try.prog W 0 (fun _ => true) true 32 v d p) {ts : List TypeId} {ds : List (DataW H)} {j : Nat}
    (hsz : (DataW.weightsEach Try.prog ts ds).all (· ≤ reachBytes) = true) (hj : ts[j]? = some 32) (hd : ds[j]? = some d) :
    ∃ (x : RecD) (ca : Array Value), v = .agg ca ∧ RecIs W x ca := by
  obtain ⟨ca, rfl, -⟩ := okWide_struct Try.underlying32 hval
  obtain ⟨fuel, hf⟩ := h
  have hw := List.all_eq_true.1 hsz
  obtain ⟨x, ca', e, hx⟩ := trod_rec hf (fun u hu => by
    have := hw _ (DataW.weights_mem_each hj hd u hu)
    simpa using this)
  have : ca' = ca := Array.toList_inj.1 e
  subst this
  exact ⟨x, ca', rfl, hx⟩
end
end Go.Proofs.Ytjljlgkghlphnaa
