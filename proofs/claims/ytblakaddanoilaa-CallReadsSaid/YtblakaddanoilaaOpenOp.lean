/- A call that comes as an argument, opened. -/
import Derived.Test.YtblakaddanoilaaCallArg
namespace Go.Proofs.Ytblakaddanoilaa
open Go.ChangeShapes Go.WideShapes Go.ChangeAt Go.RowKit
set_option maxRecDepth 100000

section
variable {H : Type} {enc : TypeId × Value → H} {W : World}

theorem open_vals {fuel : Nat} {v : Value} {y : DataW H × List MemPlace} (hf : DataW.trod enc Try.prog W 0 (fun _ => true) true fuel 27 [v] = some y) (hwy : ∀ u ∈ DataW.weights Try.prog 27 y.1, u ≤ reachBytes) :
    ∃ (A : Option Addr) (c : Nat) (l : List Val) (xs : List Value) (css : Nat → Array Value), v = .slice A l.length c ∧ Reads W W.heap.size 5 A l.length xs ∧ (∀ (j : Nat) (x : Val), l[j]? = some x → VReads W W.heap.size x (css j)) ∧ (∀ j, j < l.length → (xs.drop (j * 5)).take 5 = (css j).toList) ∧ (∀ x, x ∈ l → OkV x) ∧ l.length ≤ 2199023255488 := by
  have c5 : Try.prog.cellsOf 43 = 5 := by kernel_rfl
  have b64 : Try.prog.bytesOf 43 = 64 := by kernel_rfl
  rcases DataW.trod_slice Try.underlying27 hf with ⟨h0, -⟩ | ⟨a, len, cap, elems, rest, n', hnn, h1, hy4, -, hlc, -, hlen, hel, -, -⟩
  · simp at h0
    subst h0
    exact ⟨none, 0, [], [], fun _ => #[], rfl, Reads.none_, by simp, by simp, by simp, by simp⟩
  · have hy4d : y.1 = .slice (elems.map (·.1)) (rest.map (·.1)) := congrArg Prod.fst hy4
    rw [hy4d] at hwy
    simp at h1
    subst h1
    have hwl : (elems.length + rest.length) * 64 ≤ reachBytes := by
      refine hwy _ ?_
      unfold DataW.weights
      rw [Try.underlying27]
      dsimp only
      rw [b64, List.length_map, List.length_map]
      exact List.mem_cons_self
    have hwe : ∀ y ∈ elems, ∀ u ∈ DataW.weights Try.prog 43 y.1, u ≤ reachBytes := by
      intro y hy u hu
      refine hwy u ?_
      unfold DataW.weights
      rw [Try.underlying27]
      exact List.mem_cons_of_mem _ (List.mem_append_left _ (weightsAll_mem _ y.1 (List.mem_map_of_mem hy) u hu))
    have each : ∀ i, ∃ (p : Val × Array Value), i < len → VReads W W.heap.size p.1 p.2 ∧ OkV p.1 ∧ ∀ j u, p.2.toList[j]? = some u → W.cell? (a.add (i * 5 + j)) = some u := by
      intro i
      by_cases hi2 : i < len
      · have h5 := hel i hi2
        rw [c5] at h5
        have hie : i < elems.length := by omega
        rw [List.getElem?_eq_getElem hie] at h5
        cases hc : W.cells? 0 (a.add (i * 5)) 5 with
        | none => rw [hc] at h5; cases h5
        | some cs' =>
          rw [hc] at h5
          obtain ⟨v, ca, hca, hv, ho⟩ := open_tree n' cs' _ h5 (hwe _ (List.getElem_mem hie))
          refine ⟨(v, ca), fun _ => ⟨hv, ho, fun j u hj => ?_⟩⟩
          obtain ⟨-, hcl, hat⟩ := World.cells?_some hc
          have hj5 : j < 5 := by
            have := (List.getElem?_eq_some_iff.1 hj).1
            rw [← hca, hcl] at this
            exact this
          have := hat j hj5
          rw [add_of_add] at this
          rw [this, hca]
          exact hj
      · exact ⟨(.mk 0 0 0 [] [], #[]), fun h => absurd h hi2⟩
    obtain ⟨f, hfx⟩ := Classical.axiomOfChoice each
    have hfs : ∀ i, i < len → (f i).2.toList.length = 5 := by
      intro i hi2
      obtain ⟨_, _, _, _, _, _, _, e⟩ := (hfx i hi2).1.form
      rw [e]
      rfl
    have hr64 : len * 64 ≤ 140737488351232 := by
      have : (elems.length + rest.length) * 64 ≤ 140737488351232 := hwl
      omega
    have hll : ((List.range len).map fun i => (f i).1).length = len := by simp
    have hflat : ∀ m, m ≤ len → ((List.range m).flatMap fun i => (f i).2.toList).length = m * 5 := by
      intro m
      induction m with
      | zero => intro _; rfl
      | succ m ihm =>
        intro hm
        rw [List.range_succ, List.flatMap_append, List.length_append, ihm (by omega)]
        simp only [List.flatMap_cons, List.flatMap_nil, List.append_nil]
        rw [hfs m (by omega)]
        omega
    have hget : ∀ m, m ≤ len → ∀ i j u, i < m → (f i).2.toList[j]? = some u → ((List.range m).flatMap fun i => (f i).2.toList)[i * 5 + j]? = some u := by
      intro m
      induction m with
      | zero => intro _ i j u hi2; omega
      | succ m ihm =>
        intro hm i j u hi2 hu
        have hj5 : j < 5 := by
          have := (List.getElem?_eq_some_iff.1 hu).1
          rw [hfs i (by omega)] at this
          exact this
        rw [List.range_succ, List.flatMap_append]
        simp only [List.flatMap_cons, List.flatMap_nil, List.append_nil]
        by_cases him : i < m
        · rw [List.getElem?_append_left (by rw [hflat m (by omega)]; omega)]
          exact ihm (by omega) i j u him hu
        · have : i = m := by omega
          subst this
          rw [List.getElem?_append_right (by rw [hflat i (by omega)]; omega), hflat i (by omega), show i * 5 + j - i * 5 = j from by omega]
          exact hu
    have hreads : Reads W W.heap.size 5 (some a) len ((List.range len).flatMap fun i => (f i).2.toList) := by
      refine ⟨hflat len (Nat.le_refl _), fun hn => ⟨a, rfl, ?_, fun q u hq => ?_⟩⟩
      · have h5 := hfs 0 hn
        obtain ⟨u, hu⟩ : ∃ u, (f 0).2.toList[0]? = some u := ⟨_, List.getElem?_eq_getElem (by omega)⟩
        have := World.block_lt_of_cell? W _ ((hfx 0 hn).2.2 0 u hu)
        rwa [block_of_add] at this
      · have hql := (List.getElem?_eq_some_iff.1 hq).1
        rw [hflat len (Nat.le_refl _)] at hql
        have hi2 : q / 5 < len := by omega
        have hj : q % 5 < (f (q / 5)).2.toList.length := by rw [hfs _ hi2]; omega
        have hg := hget len (Nat.le_refl _) (q / 5) (q % 5) _ hi2 (List.getElem?_eq_getElem hj)
        rw [show q / 5 * 5 + q % 5 = q from by omega, hq] at hg
        have hcell := (hfx (q / 5) hi2).2.2 (q % 5) _ (List.getElem?_eq_getElem hj)
        rw [show q / 5 * 5 + q % 5 = q from by omega] at hcell
        rw [hcell, ← hg]
    refine ⟨some a, cap, (List.range len).map fun i => (f i).1, (List.range len).flatMap fun i => (f i).2.toList, fun i => (f i).2, by rw [hll], by rw [hll]; exact hreads, fun j v hv => ?_, fun j hj => ?_, fun v hv => ?_, by rw [hll]; omega⟩
    · rw [List.getElem?_map] at hv
      have hjl : j < len := by
        rcases Nat.lt_or_ge j len with h | h
        · exact h
        · rw [List.getElem?_eq_none (by simpa using h)] at hv; cases hv
      rw [List.getElem?_range hjl] at hv
      simp only [Option.map_some, Option.some.injEq] at hv
      subst hv
      exact (hfx j hjl).1
    · rw [hll] at hj
      apply List.ext_getElem?
      intro q
      rw [List.getElem?_take, List.getElem?_drop]
      by_cases hq : q < 5
      · rw [if_pos hq]
        have hj5 : q < (f j).2.toList.length := by rw [hfs _ hj]; exact hq
        rw [hget len (Nat.le_refl _) j q _ hj (List.getElem?_eq_getElem hj5), List.getElem?_eq_getElem hj5]
      · rw [if_neg hq, List.getElem?_eq_none (by rw [hfs _ hj]; omega)]
    · obtain ⟨i, hi2, rfl⟩ := List.mem_map.1 hv
      exact (hfx i (List.mem_range.1 hi2)).2.1

theorem open_op {r : Reach} {base : Nat} {v : Value} {d : DataW H} {p : List MemPlace} (hval : Value.okWide Try.prog W r base 29 v) (h : DataW.Trod enc Try.prog W 0 (fun _ => true) true 29 v d p) {ts : List TypeId} {ds : List (DataW H)} {j : Nat}
    (hsz : (DataW.weightsEach Try.prog ts ds).all (· ≤ reachBytes) = true) (hj : ts[j]? = some 29) (hd : ds[j]? = some d) :
    ∃ (c s n : Nat) (g m : List UInt8) (gg mm : ByteArray) (l : List Val) (A : Option Addr) (K cc : Nat), v = .agg #[.int .u32 (c : Int), .int .u32 (s : Int), .int .u16 (n : Int), .string gg, .string mm, .slice A K cc] ∧ OpReads W W.heap.size ⟨c, s, n, g, m, l⟩ #[.int .u32 (c : Int), .int .u32 (s : Int), .int .u16 (n : Int), .string gg, .string mm, .slice A K cc] := by
  obtain ⟨ca, rfl, -⟩ := okWide_struct Try.underlying29 hval
  obtain ⟨fuel, hf⟩ := h
  have hw := List.all_eq_true.1 hsz
  have c6 : Try.prog.cellsOf 29 = 6 := by kernel_rfl
  have k0 : Try.prog.cellsOf 26 = 3 := by kernel_rfl
  have k1 : Try.prog.cellsOf 9 = 1 := by kernel_rfl
  have k2 : Try.prog.cellsOf 27 = 1 := by kernel_rfl
  have q0 : Try.prog.cellsOf 23 = 1 := by kernel_rfl
  have q1 : Try.prog.cellsOf 24 = 1 := by kernel_rfl
  obtain ⟨ys, n0, rfl, hd0, hl, hyl, hff⟩ := DataW.trod_struct Try.underlying29 hf
  have hdy : d = .agg (ys.map (·.1)) := by injection hd0
  rw [c6] at hl
  obtain ⟨cs, hcs⟩ : ∃ cs, ca.toList = cs := ⟨_, rfl⟩
  have hcc : (Value.agg ca).cells.toList = cs := hcs
  rw [hcc] at hl hff
  obtain ⟨a0, a1, a2, a3, a4, a5, rfl⟩ : ∃ a0 a1 a2 a3 a4 a5, cs = [a0, a1, a2, a3, a4, a5] := by
    match cs, hl with
    | [a0, a1, a2, a3, a4, a5], _ => exact ⟨a0, a1, a2, a3, a4, a5, rfl⟩
  obtain ⟨y0, y1, y2, y3, rfl⟩ : ∃ y0 y1 y2 y3, ys = [y0, y1, y2, y3] := by
    match ys, hyl with
    | [y0, y1, y2, y3], _ => exact ⟨y0, y1, y2, y3, rfl⟩
  have t0 : DataW.trod enc Try.prog W 0 (fun _ => true) true n0 26 (([a0, a1, a2, a3, a4, a5].drop 0).take (Try.prog.cellsOf 26)) = some y0 := hff 0 _ rfl
  have t1 : DataW.trod enc Try.prog W 0 (fun _ => true) true n0 9 (([a0, a1, a2, a3, a4, a5].drop 3).take (Try.prog.cellsOf 9)) = some y1 := hff 1 _ rfl
  have t2 : DataW.trod enc Try.prog W 0 (fun _ => true) true n0 9 (([a0, a1, a2, a3, a4, a5].drop 4).take (Try.prog.cellsOf 9)) = some y2 := hff 2 _ rfl
  have t3 : DataW.trod enc Try.prog W 0 (fun _ => true) true n0 27 (([a0, a1, a2, a3, a4, a5].drop 5).take (Try.prog.cellsOf 27)) = some y3 := hff 3 _ rfl
  rw [k0] at t0
  rw [k1] at t1 t2
  rw [k2] at t3
  simp only [List.drop_zero, List.take_succ_cons, List.take_zero, List.drop_succ_cons] at t0 t1 t2 t3
  obtain ⟨gg, e1, -, -⟩ := DataW.trod_string Try.underlying9 t1
  obtain ⟨mm, e5, -, -⟩ := DataW.trod_string Try.underlying9 t2
  obtain ⟨zs, n1, rfl, -, -, hzl, hgg⟩ := DataW.trod_struct Try.underlying26 t0
  obtain ⟨z0, z1, z2, rfl⟩ : ∃ z0 z1 z2, zs = [z0, z1, z2] := by
    match zs, hzl with
    | [z0, z1, z2], _ => exact ⟨z0, z1, z2, rfl⟩
  have u0 : DataW.trod enc Try.prog W 0 (fun _ => true) true n1 23 (([a0, a1, a2].drop 0).take (Try.prog.cellsOf 23)) = some z0 := hgg 0 _ rfl
  have u1 : DataW.trod enc Try.prog W 0 (fun _ => true) true n1 23 (([a0, a1, a2].drop 1).take (Try.prog.cellsOf 23)) = some z1 := hgg 1 _ rfl
  have u2 : DataW.trod enc Try.prog W 0 (fun _ => true) true n1 24 (([a0, a1, a2].drop 2).take (Try.prog.cellsOf 24)) = some z2 := hgg 2 _ rfl
  rw [q0] at u0 u1
  rw [q1] at u2
  simp only [List.drop_zero, List.take_succ_cons, List.take_zero, List.drop_succ_cons] at u0 u1 u2
  obtain ⟨c, e2, -, wc⟩ := DataW.trod_int Try.underlying23 u0
  obtain ⟨s, e3, -, ws⟩ := DataW.trod_int Try.underlying23 u1
  obtain ⟨n, e4, -, wn⟩ := DataW.trod_int Try.underlying24 u2
  obtain ⟨c, rfl, bc⟩ := u32_nat wc
  obtain ⟨s, rfl, bs⟩ := u32_nat ws
  obtain ⟨n, rfl, bn⟩ := u16_nat wn
  simp at e1 e2 e3 e4 e5
  subst e1 e2 e3 e4 e5
  obtain ⟨A, cc, l, xs, css, rfl, hr, hx, hxs, hok, hll⟩ := open_vals t3 (fun u hu => by
    have h1 : u ∈ DataW.weights Try.prog 29 d := by
      unfold DataW.weights
      rw [Try.underlying29, hdy]
      exact DataW.weights_mem_each (j := 3) rfl rfl u hu
    have := hw _ (DataW.weights_mem_each hj hd u h1)
    simpa using this)
  have hb : ∀ x : ByteArray, bstr x.data.toList = x := fun x => by cases x; simp [bstr]
  refine ⟨c, s, n, gg.data.toList, mm.data.toList, gg, mm, l, A, l.length, cc, ?_, ⟨A, cc, xs, css, by simp only [hb], hr, hx, hxs, hll, hok, bc, bs, bn⟩⟩
  congr 1
  apply Array.toList_inj.1
  exact hcs
end
end Go.Proofs.Ytblakaddanoilaa
