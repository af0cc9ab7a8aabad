/- The script of ClientPlays, as an argument: a row of acts, opened. -/
import Derived.Test.YtgdhiihfcngjbaaValArg
set_option linter.unusedSimpArgs false
set_option linter.unusedVariables false
set_option linter.unusedSimpArgs false
set_option linter.unusedVariables false
namespace Go.Proofs.Ytgdhiihfcngjbaa
open Go.ChangeShapes Go.WideShapes Go.ChangeAt Go.RowKit
set_option maxRecDepth 100000

/-- An act of a script. -/
structure ActD where
  what : Nat
  n : Nat
  s : ByteArray
  l : List Val
  er : Nat
  v : Val
def ActIs (W : World) (x : ActD) (cs : Array Value) : Prop :=
  ∃ (Al : Option Addr) (cl : Nat) (k i : Int) (f : Nat) (t : ByteArray) (Av : Option Addr) (nv cv : Nat) (xs : List Value) (css : Nat → Array Value),
    cs = #[.int .u8 (x.what : Int), .int .u8 (x.n : Int), .string x.s, .slice Al x.l.length cl, .int .u8 (x.er : Int), .int .i64 k, .int .i64 i, .float .f64 f, .string t, .slice Av nv cv] ∧
    Reads W W.heap.size 5 Al x.l.length xs ∧ (∀ (j : Nat) (u : Val), x.l[j]? = some u → VReads W W.heap.size u (css j)) ∧ (∀ j, j < x.l.length → (xs.drop (j * 5)).take 5 = (css j).toList) ∧ (∀ u ∈ x.l, OkV u) ∧ x.l.length ≤ 2199023255488 ∧
    VReads W W.heap.size x.v #[.int .i64 k, .int .i64 i, .float .f64 f, .string t, .slice Av nv cv] ∧ OkV x.v ∧ x.what ≤ 255 ∧ x.n ≤ 255 ∧ x.er ≤ 255
section
variable {H : Type} {enc : TypeId × Value → H} {W : World}
theorem rows_of {α : Type} {W : World} {S : Nat} (hS : 0 < S) {P : α → Array Value → Prop} {a : Addr} {len : Nat} (each : ∀ i, i < len → ∃ (x : α) (cs : Array Value), P x cs ∧ cs.toList.length = S ∧ ∀ j u, cs.toList[j]? = some u → W.cell? (a.add (i * S + j)) = some u) :
    ∃ (l : List α) (xs : List Value) (css : Nat → Array Value), l.length = len ∧ Reads W W.heap.size S (some a) len xs ∧ (∀ j x, l[j]? = some x → P x (css j)) ∧ (∀ j, j < len → (xs.drop (j * S)).take S = (css j).toList) ∧ ∀ j, j < len → (css j).toList.length = S := by
  induction len with
  | zero => exact ⟨[], [], fun _ => #[], rfl, ⟨by simp, fun h => absurd h (by omega)⟩, by simp, fun j h => absurd h (by omega), fun j h => absurd h (by omega)⟩
  | succ len ih =>
    obtain ⟨l, xs, css, hl, hr, hp, hx, hsz⟩ := ih (fun i hi => each i (by omega))
    obtain ⟨x, cs, hP, hcs, hcell⟩ := each len (by omega)
    have hxl := hr.len
    refine ⟨l ++ [x], xs ++ cs.toList, fun j => if j = len then cs else css j, by simp [hl], ⟨by rw [List.length_append, hxl, hcs, Nat.add_mul, Nat.one_mul], fun _ => ⟨a, rfl, ?_, fun q u hq => ?_⟩⟩, fun j y hj => ?_, fun j hj => ?_, fun j hj => ?_⟩
    · obtain ⟨u, hu⟩ : ∃ u, cs.toList[0]? = some u := ⟨_, List.getElem?_eq_getElem (by omega)⟩
      have := World.block_lt_of_cell? W _ (hcell 0 u hu)
      rwa [block_of_add] at this
    · rcases Nat.lt_or_ge q xs.length with h | h
      · rw [List.getElem?_append_left h] at hq
        have hlen : 0 < len := by
          rcases Nat.eq_zero_or_pos len with h0 | h0
          · subst h0; omega
          · exact h0
        obtain ⟨ad, e, -, hc⟩ := hr.2 hlen
        cases e
        exact hc q u hq
      · rw [List.getElem?_append_right h] at hq
        have := hcell _ u hq
        rw [hxl] at this
        rw [← this]
        congr 2
        omega
    · dsimp only
      rcases Nat.lt_trichotomy j len with h | h | h
      · rw [List.getElem?_append_left (by omega)] at hj
        rw [if_neg (by omega)]
        exact hp j y hj
      · subst h
        rw [List.getElem?_append_right (by omega), hl] at hj
        simp at hj
        subst hj
        rw [if_pos rfl]
        exact hP
      · rw [List.getElem?_eq_none (by simp [hl]; omega)] at hj; cases hj
    · dsimp only
      rcases Nat.lt_or_ge j len with h | h
      · rw [if_neg (by omega), ← hx j h]
        have h1 : j * S + S ≤ len * S := by rw [← Nat.succ_mul]; exact Nat.mul_le_mul_right _ (by omega)
        rw [List.drop_append_of_le_length (by omega), List.take_append_of_le_length (by rw [List.length_drop]; omega)]
      · have : j = len := by omega
        subst this
        rw [if_pos rfl, List.drop_left' hxl]
        exact List.take_of_length_le (by omega)
    · dsimp only
      rcases Nat.lt_or_ge j len with h | h
      · rw [if_neg (by omega)]; exact hsz j h
      · rw [if_pos (by omega)]; exact hcs
theorem open_vals {fuel : Nat} {v : Value} {y : DataW H × List MemPlace} (hf : DataW.trod enc Try.prog W 0 (fun _ => true) true fuel 35 [v] = some y) (hwy : ∀ u ∈ DataW.weights Try.prog 35 y.1, u ≤ reachBytes) :
    ∃ (A : Option Addr) (c : Nat) (l : List Val) (xs : List Value) (css : Nat → Array Value), v = .slice A l.length c ∧ Reads W W.heap.size 5 A l.length xs ∧ (∀ (j : Nat) (x : Val), l[j]? = some x → VReads W W.heap.size x (css j)) ∧ (∀ j, j < l.length → (xs.drop (j * 5)).take 5 = (css j).toList) ∧ (∀ x, x ∈ l → OkV x) ∧ l.length ≤ 2199023255488 := by
  have c5 : Try.prog.cellsOf 37 = 5 := by kernel_rfl
  have b64 : Try.prog.bytesOf 37 = 64 := by kernel_rfl
  rcases DataW.trod_slice Try.underlying35 hf with ⟨h0, -⟩ | ⟨a, len, cap, elems, rest, n', hnn, h1, hy4, -, hlc, -, hlen, hel, -, -⟩
  · simp at h0
    subst h0
    exact ⟨none, 0, [], [], fun _ => #[], rfl, Reads.none_, by simp, by simp, by simp, by simp⟩
  · have hy4d : y.1 = .slice (elems.map (·.1)) (rest.map (·.1)) := congrArg Prod.fst hy4
    rw [hy4d] at hwy
    simp at h1
    subst h1
    have hwl : (elems.length + rest.length) * 64 ≤ reachBytes := by
      refine hwy _ ?_
      unfold DataW.weights
      rw [Try.underlying35]
      dsimp only
      rw [b64, List.length_map, List.length_map]
      exact List.mem_cons_self
    have hwe : ∀ y ∈ elems, ∀ u ∈ DataW.weights Try.prog 37 y.1, u ≤ reachBytes := by
      intro y hy u hu
      refine hwy u ?_
      unfold DataW.weights
      rw [Try.underlying35]
      exact List.mem_cons_of_mem _ (List.mem_append_left _ (weightsAll_mem _ y.1 (List.mem_map_of_mem hy) u hu))
    have each : ∀ i, ∃ (p : Val × Array Value), i < len → VReads W W.heap.size p.1 p.2 ∧ OkV p.1 ∧ ∀ j u, p.2.toList[j]? = some u → W.cell? (a.add (i * 5 + j)) = some u := by
      intro i
      by_cases hi2 : i < len
      · have h5 := hel i hi2
        rw [c5] at h5
        have hie : i < elems.length := by omega
        rw [List.getElem?_eq_getElem hie] at h5
        cases hc : W.cells? 0 (a.add (i * 5)) 5 with
        | none => rw [hc] at h5; cases h5
        | some cs' =>
          rw [hc] at h5
          obtain ⟨v, ca, hca, hv, ho⟩ := open_tree n' cs' _ h5 (hwe _ (List.getElem_mem hie))
          refine ⟨(v, ca), fun _ => ⟨hv, ho, fun j u hj => ?_⟩⟩
          obtain ⟨-, hcl, hat⟩ := World.cells?_some hc
          have hj5 : j < 5 := by
            have := (List.getElem?_eq_some_iff.1 hj).1
            rw [← hca, hcl] at this
            exact this
          have := hat j hj5
          rw [add_of_add] at this
          rw [this, hca]
          exact hj
      · exact ⟨(.mk 0 0 0 [] [], #[]), fun h => absurd h hi2⟩
    obtain ⟨f, hfx⟩ := Classical.axiomOfChoice each
    have hfs : ∀ i, i < len → (f i).2.toList.length = 5 := by
      intro i hi2
      obtain ⟨_, _, _, _, _, _, _, e⟩ := (hfx i hi2).1.form
      rw [e]
      rfl
    have hr64 : len * 64 ≤ 140737488351232 := by
      have : (elems.length + rest.length) * 64 ≤ 140737488351232 := hwl
      omega
    have hll : ((List.range len).map fun i => (f i).1).length = len := by simp
    have hflat : ∀ m, m ≤ len → ((List.range m).flatMap fun i => (f i).2.toList).length = m * 5 := by
      intro m
      induction m with
      | zero => intro _; rfl
      | succ m ihm =>
        intro hm
        rw [List.range_succ, List.flatMap_append, List.length_append, ihm (by omega)]
        simp only [List.flatMap_cons, List.flatMap_nil, List.append_nil]
        rw [hfs m (by omega)]
        omega
    have hget : ∀ m, m ≤ len → ∀ i j u, i < m → (f i).2.toList[j]? = some u → ((List.range m).flatMap fun i => (f i).2.toList)[i * 5 + j]? = some u := by
      intro m
      induction m with
      | zero => intro _ i j u hi2; omega
      | succ m ihm =>
        intro hm i j u hi2 hu
        have hj5 : j < 5 := by
          have := (List.getElem?_eq_some_iff.1 hu).1
          rw [hfs i (by omega)] at this
          exact this
        rw [List.range_succ, List.flatMap_append]
        simp only [List.flatMap_cons, List.flatMap_nil, List.append_nil]
        by_cases him : i < m
        · rw [List.getElem?_append_left (by rw [hflat m (by omega)]; omega)]
          exact ihm (by omega) i j u him hu
        · have : i = m := by omega
          subst this
          rw [List.getElem?_append_right (by rw [hflat i (by omega)]; omega), hflat i (by omega), show i * 5 + j - i * 5 = j from by omega]
          exact hu
    have hreads : Reads W W.heap.size 5 (some a) len ((List.range len).flatMap fun i => (f i).2.toList) := by
      refine ⟨hflat len (Nat.le_refl _), fun hn => ⟨a, rfl, ?_, fun q u hq => ?_⟩⟩
      · have h5 := hfs 0 hn
        obtain ⟨u, hu⟩ : ∃ u, (f 0).2.toList[0]? = some u := ⟨_, List.getElem?_eq_getElem (by omega)⟩
        have := World.block_lt_of_cell? W _ ((hfx 0 hn).2.2 0 u hu)
        rwa [block_of_add] at this
      · have hql := (List.getElem?_eq_some_iff.1 hq).1
        rw [hflat len (Nat.le_refl _)] at hql
        have hi2 : q / 5 < len := by omega
        have hj : q % 5 < (f (q / 5)).2.toList.length := by rw [hfs _ hi2]; omega
        have hg := hget len (Nat.le_refl _) (q / 5) (q % 5) _ hi2 (List.getElem?_eq_getElem hj)
        rw [show q / 5 * 5 + q % 5 = q from by omega, hq] at hg
        have hcell := (hfx (q / 5) hi2).2.2 (q % 5) _ (List.getElem?_eq_getElem hj)
        rw [show q / 5 * 5 + q % 5 = q from by omega] at hcell
        rw [hcell, ← hg]
    refine ⟨some a, cap, (List.range len).map fun i => (f i).1, (List.range len).flatMap fun i => (f i).2.toList, fun i => (f i).2, by rw [hll], by rw [hll]; exact hreads, fun j v hv => ?_, fun j hj => ?_, fun v hv => ?_, by rw [hll]; omega⟩
    · rw [List.getElem?_map] at hv
      have hjl : j < len := by
        rcases Nat.lt_or_ge j len with h | h
        · exact h
        · rw [List.getElem?_eq_none (by simpa using h)] at hv; cases hv
      rw [List.getElem?_range hjl] at hv
      simp only [Option.map_some, Option.some.injEq] at hv
      subst hv
      exact (hfx j hjl).1
    · rw [hll] at hj
      apply List.ext_getElem?
      intro q
      rw [List.getElem?_take, List.getElem?_drop]
      by_cases hq : q < 5
      · rw [if_pos hq]
        have hj5 : q < (f j).2.toList.length := by rw [hfs _ hj]; exact hq
        rw [hget len (Nat.le_refl _) j q _ hj (List.getElem?_eq_getElem hj5), List.getElem?_eq_getElem hj5]
      · rw [if_neg hq, List.getElem?_eq_none (by rw [hfs _ hj]; omega)]
    · obtain ⟨i, hi2, rfl⟩ := List.mem_map.1 hv
      exact (hfx i (List.mem_range.1 hi2)).2.1

theorem u8_nat {x : Int} (h : (Lit.int .u8 x).wf = true) : ∃ n : Nat, x = (n : Int) ∧ n ≤ 255 := by
  simp [Lit.wf, IntKind.min, IntKind.max, IntKind.signed, IntKind.bits] at h
  exact ⟨x.toNat, by omega, by omega⟩
theorem trod_act {fuel : Nat} {cs : List Value} {y : DataW H × List MemPlace} (hf : DataW.trod enc Try.prog W 0 (fun _ => true) true fuel 54 cs = some y) (hwy : ∀ u ∈ DataW.weights Try.prog 54 y.1, u ≤ reachBytes) :
    ∃ (x : ActD) (ca : Array Value), ca.toList = cs ∧ ActIs W x ca := by
  have c10 : Try.prog.cellsOf 54 = 10 := by kernel_rfl
  have q0 : Try.prog.cellsOf 5 = 1 := by kernel_rfl
  have q1 : Try.prog.cellsOf 9 = 1 := by kernel_rfl
  have q2 : Try.prog.cellsOf 35 = 1 := by kernel_rfl
  have q3 : Try.prog.cellsOf 37 = 5 := by kernel_rfl
  obtain ⟨ys, n0, rfl, hd0, hl, hyl, hff⟩ := DataW.trod_struct Try.underlying54 hf
  have hdy : y.1 = .agg (ys.map (·.1)) := congrArg Prod.fst hd0
  rw [c10] at hl
  obtain ⟨a0, a1, a2, a3, a4, a5, a6, a7, a8, a9, rfl⟩ : ∃ a0 a1 a2 a3 a4 a5 a6 a7 a8 a9, cs = [a0, a1, a2, a3, a4, a5, a6, a7, a8, a9] := by
    match cs, hl with
    | [a0, a1, a2, a3, a4, a5, a6, a7, a8, a9], _ => exact ⟨a0, a1, a2, a3, a4, a5, a6, a7, a8, a9, rfl⟩
  obtain ⟨y0, y1, y2, y3, y4, y5, rfl⟩ : ∃ y0 y1 y2 y3 y4 y5, ys = [y0, y1, y2, y3, y4, y5] := by
    match ys, hyl with
    | [y0, y1, y2, y3, y4, y5], _ => exact ⟨y0, y1, y2, y3, y4, y5, rfl⟩
  have t0 : DataW.trod enc Try.prog W 0 (fun _ => true) true n0 5 (([a0, a1, a2, a3, a4, a5, a6, a7, a8, a9].drop 0).take (Try.prog.cellsOf 5)) = some y0 := hff 0 _ rfl
  have t1 : DataW.trod enc Try.prog W 0 (fun _ => true) true n0 5 (([a0, a1, a2, a3, a4, a5, a6, a7, a8, a9].drop 1).take (Try.prog.cellsOf 5)) = some y1 := hff 1 _ rfl
  have t2 : DataW.trod enc Try.prog W 0 (fun _ => true) true n0 9 (([a0, a1, a2, a3, a4, a5, a6, a7, a8, a9].drop 2).take (Try.prog.cellsOf 9)) = some y2 := hff 2 _ rfl
  have t3 : DataW.trod enc Try.prog W 0 (fun _ => true) true n0 35 (([a0, a1, a2, a3, a4, a5, a6, a7, a8, a9].drop 3).take (Try.prog.cellsOf 35)) = some y3 := hff 3 _ rfl
  have t4 : DataW.trod enc Try.prog W 0 (fun _ => true) true n0 5 (([a0, a1, a2, a3, a4, a5, a6, a7, a8, a9].drop 4).take (Try.prog.cellsOf 5)) = some y4 := hff 4 _ rfl
  have t5 : DataW.trod enc Try.prog W 0 (fun _ => true) true n0 37 (([a0, a1, a2, a3, a4, a5, a6, a7, a8, a9].drop 5).take (Try.prog.cellsOf 37)) = some y5 := hff 5 _ rfl
  rw [q0] at t0 t1 t4
  rw [q1] at t2
  rw [q2] at t3
  rw [q3] at t5
  simp only [List.drop_zero, List.take_succ_cons, List.take_zero, List.drop_succ_cons] at t0 t1 t2 t3 t4 t5
  obtain ⟨m0, e0, -, w0⟩ := DataW.trod_int Try.underlying5 t0
  obtain ⟨m1, e1, -, w1⟩ := DataW.trod_int Try.underlying5 t1
  obtain ⟨gg, e2, -, -⟩ := DataW.trod_string Try.underlying9 t2
  obtain ⟨m4, e4, -, w4⟩ := DataW.trod_int Try.underlying5 t4
  obtain ⟨m0, rfl, b0⟩ := u8_nat w0
  obtain ⟨m1, rfl, b1⟩ := u8_nat w1
  obtain ⟨m4, rfl, b4⟩ := u8_nat w4
  simp at e0 e1 e2 e4
  subst e0 e1 e2 e4
  obtain ⟨Al, cl, l, xs, css, e3, hr, hx, hxs, hok, hll⟩ := open_vals t3 (fun u hu => by
    refine hwy u ?_
    rw [hdy]
    unfold DataW.weights
    rw [Try.underlying54]
    exact DataW.weights_mem_each (j := 3) rfl rfl u hu)
  subst e3
  obtain ⟨v, ca, hca, hv, hokv⟩ := open_tree n0 _ _ t5 (fun u hu => by
    refine hwy u ?_
    rw [hdy]
    unfold DataW.weights
    rw [Try.underlying54]
    exact DataW.weights_mem_each (j := 5) rfl rfl u hu)
  obtain ⟨k, i, f, t, Av, nv, cv, rfl⟩ := hv.form
  simp at hca
  obtain ⟨rfl, rfl, rfl, rfl, rfl⟩ := hca
  exact ⟨⟨m0, m1, gg, l, m4, v⟩, #[.int .u8 (m0 : Int), .int .u8 (m1 : Int), .string gg, .slice Al l.length cl, .int .u8 (m4 : Int), .int .i64 k, .int .i64 i, .float .f64 f, .string t, .slice Av nv cv], rfl, Al, cl, k, i, f, t, Av, nv, cv, xs, css, rfl, hr, hx, hxs, hok, hll, hv, hokv, b0, b1, b4⟩
/-- A row of acts that the machine reads. -/
def RowAct (W : World) (A : Option Addr) (l : List ActD) (xs : List Value) (css : Nat → Array Value) : Prop :=
  Reads W W.heap.size 10 A l.length xs ∧ (∀ (j : Nat) (x : ActD), l[j]? = some x → ActIs W x (css j)) ∧ ∀ j, j < l.length → (xs.drop (j* 10)).take 10 = (css j).toList

theorem open_acts {r : Reach} {base : Nat} {v : Value} {d : DataW H} {p : List MemPlace} (hval : Value.okWide Try.prog W r base 47 v) (h : DataW.Trod enc Try.prog W 0 (fun _ => true) true 47 v d p) {ts : List TypeId} {ds : List (DataW H)} {j : Nat}
    (hsz : (DataW.weightsEach Try.prog ts ds).all (· ≤ reachBytes) = true) (hj : ts[j]? = some 47) (hd : ds[j]? = some d) :
    ∃ (A : Option Addr) (c : Nat) (l : List ActD) (xs : List Value) (css : Nat → Array Value), v = .slice A l.length c ∧ RowAct W A l xs css ∧ l.length ≤ c := by
  have c10 : Try.prog.cellsOf 54 = 10 := by kernel_rfl
  obtain ⟨a0, len0, cap0, rfl⟩ := okWide_slice Try.underlying47 hval
  obtain ⟨fuel, hf⟩ := h
  have hw := List.all_eq_true.1 hsz
  have hwy : ∀ u ∈ DataW.weights Try.prog 47 d, u ≤ reachBytes := fun u hu => by
    have := hw _ (DataW.weights_mem_each hj hd u hu)
    simpa using this
  rcases DataW.trod_slice Try.underlying47 hf with ⟨h0, -⟩ | ⟨a, len, cap1, elems, rest, n', hnn, h1, hy4, -, hlc, -, hlen, hel, -, -⟩
  · simp [Value.cells] at h0
    obtain ⟨rfl, rfl, rfl⟩ := h0
    exact ⟨none, 0, [], [], fun _ => #[], rfl, ⟨⟨by simp, fun h => absurd h (by simp)⟩, by simp, by simp⟩, Nat.le_refl _⟩
  · have hy4d : d = .slice (elems.map (·.1)) (rest.map (·.1)) := congrArg Prod.fst hy4
    rw [hy4d] at hwy
    simp [Value.cells] at h1
    obtain ⟨rfl, rfl, rfl⟩ := h1
    have hwe : ∀ y ∈ elems, ∀ u ∈ DataW.weights Try.prog 54 y.1, u ≤ reachBytes := by
      intro y hy u hu
      refine hwy u ?_
      unfold DataW.weights
      rw [Try.underlying47]
      exact List.mem_cons_of_mem _ (List.mem_append_left _ (weightsAll_mem _ y.1 (List.mem_map_of_mem hy) u hu))
    have each : ∀ i, i < len0 → ∃ (x : ActD) (cs : Array Value), ActIs W x cs ∧ cs.toList.length = 10 ∧ ∀ j u, cs.toList[j]? = some u → W.cell? (a.add (i* 10 + j)) = some u := by
      intro i hi2
      have h5 := hel i hi2
      rw [c10] at h5
      have hie : i < elems.length := by omega
      rw [List.getElem?_eq_getElem hie] at h5
      cases hc : W.cells? 0 (a.add (i* 10)) 10 with
      | none => rw [hc] at h5; cases h5
      | some cs' =>
        rw [hc] at h5
        obtain ⟨x, ca, hca, hx⟩ := trod_act h5 (hwe _ (List.getElem_mem hie))
        obtain ⟨-, hcl, hat⟩ := World.cells?_some hc
        refine ⟨x, ca, hx, by rw [hca]; exact hcl, fun j u hj => ?_⟩
        have hj10 : j < 10 := by
          have := (List.getElem?_eq_some_iff.1 hj).1
          rw [hca, hcl] at this
          exact this
        have := hat j hj10
        rw [add_of_add] at this
        rw [this, ← hca]
        exact hj
    obtain ⟨l, xs, css, hl, hr, hp, hx, -⟩ := rows_of (by decide) each
    subst hl
    exact ⟨some a, cap0, l, xs, css, rfl, ⟨hr, hp, hx⟩, by omega⟩
end
end Go.Proofs.Ytgdhiihfcngjbaa
