/- Values that come as arguments. -/
import Derived.Test.YtdbmffagibnibaaGreatDoorRows
import Derived.Test.YtdbmffagibnibaaGreatDoorFrame
import Derived.Test.YtdbmffagibnibaaGreatDoorVals2
set_option linter.unusedSimpArgs false
set_option linter.unusedVariables false
namespace Go.Proofs.YtdbmffagibnibaaGreatDoor
set_option maxRecDepth 100000
open Go.ChangeShapes Go.WideShapes Go.ChangeAt Go.RowKit
section
variable {H : Type} {enc : TypeId × Value → H} {W : World}

theorem trod_flt {P : Program} {t : TypeId} {k : FloatKind} {b0 : Nat} {sp : Nat → Bool} {hd : Bool} {fuel : Nat} {cs : List Value} {x : DataW H × List MemPlace} (ht : P.underlying t = some (.float k)) (h : DataW.trod enc P W b0 sp hd fuel t cs = some x) : ∃ n, cs = [.float k n] ∧ (Lit.float k n).wf = true := by
  cases fuel with
  | zero => simp [DataW.trod] at h
  | succ n =>
    unfold DataW.trod at h
    rw [ht] at h
    split at h <;> simp_all

theorem weightsAll_mem {P : Program} {e : TypeId} : ∀ (ds : List (DataW H)) (d : DataW H), d ∈ ds → ∀ n ∈ d.weights P e, n ∈ DataW.weightsAll P e ds
  | [], d, h, _, _ => by cases h
  | d0 :: ds, d, h, n, hn => by
    unfold DataW.weightsAll
    rcases List.mem_cons.1 h with rfl | h
    · exact List.mem_append_left _ hn
    · exact List.mem_append_right _ (weightsAll_mem ds d h n hn)

theorem open_tree : ∀ (fuel : Nat) (cs : List Value) (x : DataW H × List MemPlace), DataW.trod enc Tryz.prog W 0 (fun _ => true) true fuel 25 cs = some x → (∀ u ∈ DataW.weights Tryz.prog 25 x.1, u ≤ reachBytes) →
    ∃ (v : Val) (ca : Array Value), cs = ca.toList ∧ VReads W W.heap.size v ca ∧ OkV v := by
  intro fuel
  induction fuel using Nat.strongRecOn with
  | _ fuel ih =>
    intro cs x h hw
    have c5 : Tryz.prog.cellsOf 25 = 5 := by kernel_rfl
    have k0 : Tryz.prog.cellsOf 3 = 1 := by kernel_rfl
    have k1 : Tryz.prog.cellsOf 2 = 1 := by kernel_rfl
    have k2 : Tryz.prog.cellsOf 22 = 1 := by kernel_rfl
    have k3 : Tryz.prog.cellsOf 9 = 1 := by kernel_rfl
    have k4 : Tryz.prog.cellsOf 23 = 1 := by kernel_rfl
    have b64 : Tryz.prog.bytesOf 25 = 64 := by kernel_rfl
    obtain ⟨ys, n, rfl, rfl, hl, hyl, hf⟩ := DataW.trod_struct Tryz.underlying25 h
    rw [c5] at hl
    match cs, hl with
    | [a, b, c, d, e], _ =>
      have t0 : DataW.trod enc Tryz.prog W 0 (fun _ => true) true n 3 (([a, b, c, d, e].drop 0).take (Tryz.prog.cellsOf 3)) = ys[0]? := hf 0 _ rfl
      have t1 : DataW.trod enc Tryz.prog W 0 (fun _ => true) true n 2 (([a, b, c, d, e].drop 1).take (Tryz.prog.cellsOf 2)) = ys[1]? := hf 1 _ rfl
      have t2 : DataW.trod enc Tryz.prog W 0 (fun _ => true) true n 22 (([a, b, c, d, e].drop 2).take (Tryz.prog.cellsOf 22)) = ys[2]? := hf 2 _ rfl
      have t3 : DataW.trod enc Tryz.prog W 0 (fun _ => true) true n 9 (([a, b, c, d, e].drop 3).take (Tryz.prog.cellsOf 9)) = ys[3]? := hf 3 _ rfl
      have t4 : DataW.trod enc Tryz.prog W 0 (fun _ => true) true n 23 (([a, b, c, d, e].drop 4).take (Tryz.prog.cellsOf 23)) = ys[4]? := hf 4 _ rfl
      rw [k0] at t0
      rw [k1] at t1
      rw [k2] at t2
      rw [k3] at t3
      rw [k4] at t4
      simp only [List.drop_zero, List.take_succ_cons, List.take_zero, List.drop_succ_cons] at t0 t1 t2 t3 t4
      match ys, hyl with
      | [y0, y1, y2, y3, y4], _ =>
        simp only [List.getElem?_cons_zero, List.getElem?_cons_succ] at t0 t1 t2 t3 t4
        obtain ⟨m0, e0, -, w0⟩ := DataW.trod_int Tryz.underlying3 t0
        obtain ⟨m1, e1, -, w1⟩ := DataW.trod_int Tryz.underlying2 t1
        obtain ⟨m2, e2, w2⟩ := trod_flt Tryz.underlying22 t2
        obtain ⟨m3, e3, -, w3⟩ := DataW.trod_string Tryz.underlying9 t3
        simp at e0 e1 e2 e3
        subst e0 e1 e2 e3
        have hi : -9223372036854775808 ≤ m1 ∧ m1 ≤ 9223372036854775807 := by
          simp [Lit.wf, IntKind.min, IntKind.max, IntKind.signed, IntKind.bits] at w1
          omega
        have hflt : m2 < 18446744073709551616 := by
          simp [Lit.wf] at w2
          omega
        have hwy : ∀ u ∈ DataW.weights Tryz.prog 23 y4.1, u ≤ reachBytes := by
          intro u hu
          refine hw u ?_
          unfold DataW.weights
          rw [Tryz.underlying25]
          exact DataW.weights_mem_each (j := 4) rfl rfl u hu
        have hbs : bstr m3.data.toList = m3 := by simp [bstr]
        rcases DataW.trod_slice Tryz.underlying23 t4 with ⟨h0, -⟩ | ⟨a, len, cap, elems, rest, n', hnn, h1, hy4, -, hlc, -, hlen, hel, -, -⟩
        · simp at h0
          subst h0
          refine ⟨.mk m0 m1 m2 m3.data.toList [], #[.int .i64 m0, .int .i64 m1, .float .f64 m2, .string m3, .slice none 0 0], rfl, ?_, .mk hflt hi (by simp) (by simp)⟩
          have := VReads.mk (w := W) (B := W.heap.size) (k := m0) (i := m1) (f := m2) (s := m3.data.toList) (l := []) (A := none) (c := 0) (xs := []) (fun _ => #[]) (by simp) Reads.none_ (by simp) (by simp)
          rw [hbs] at this
          exact this
        · simp at h1
          subst h1
          rw [hy4] at hwy
          have hwl : (elems.length + rest.length) * 64 ≤ reachBytes := by
            refine hwy _ ?_
            unfold DataW.weights
            rw [Tryz.underlying23]
            dsimp only
            rw [b64, List.length_map, List.length_map]
            exact List.mem_cons_self
          have hwe : ∀ y ∈ elems, ∀ u ∈ DataW.weights Tryz.prog 25 y.1, u ≤ reachBytes := by
            intro y hy u hu
            refine hwy u ?_
            unfold DataW.weights
            rw [Tryz.underlying23]
            exact List.mem_cons_of_mem _ (List.mem_append_left _ (weightsAll_mem _ y.1 (List.mem_map_of_mem hy) u hu))
          have each : ∀ i, ∃ (p : Val × Array Value), i < len → VReads W W.heap.size p.1 p.2 ∧ OkV p.1 ∧ ∀ j u, p.2.toList[j]? = some u → W.cell? (a.add (i * 5 + j)) = some u := by
            intro i
            by_cases hi2 : i < len
            · have h5 := hel i hi2
              rw [c5] at h5
              have hie : i < elems.length := by omega
              rw [List.getElem?_eq_getElem hie] at h5
              cases hc : W.cells? 0 (a.add (i * 5)) 5 with
              | none => rw [hc] at h5; cases h5
              | some cs' =>
                rw [hc] at h5
                obtain ⟨v, ca, hca, hv, ho⟩ := ih n' (by omega) cs' _ h5 (hwe _ (List.getElem_mem hie))
                refine ⟨(v, ca), fun _ => ⟨hv, ho, fun j u hj => ?_⟩⟩
                obtain ⟨-, hcl, hat⟩ := World.cells?_some hc
                have hj5 : j < 5 := by
                  have := (List.getElem?_eq_some_iff.1 hj).1
                  rw [← hca, hcl] at this
                  exact this
                have := hat j hj5
                rw [add_of_add] at this
                rw [this, hca]
                exact hj
            · exact ⟨(.mk 0 0 0 [] [], #[]), fun h => absurd h hi2⟩
          obtain ⟨f, hfx⟩ := Classical.axiomOfChoice each
          have hfs : ∀ i, i < len → (f i).2.toList.length = 5 := by
            intro i hi2
            obtain ⟨_, _, _, _, _, _, _, e⟩ := (hfx i hi2).1.form
            rw [e]
            rfl
          have hr64 : len * 64 ≤ 140737488351232 := by
            have : (elems.length + rest.length) * 64 ≤ 140737488351232 := hwl
            omega
          refine ⟨.mk m0 m1 m2 m3.data.toList ((List.range len).map fun i => (f i).1), #[.int .i64 m0, .int .i64 m1, .float .f64 m2, .string m3, .slice (some a) len cap], rfl, ?_, .mk hflt hi (fun v hv => ?_) (by simp; omega)⟩
          · have hll : ((List.range len).map fun i => (f i).1).length = len := by simp
            have hflat : ∀ m, m ≤ len → ((List.range m).flatMap fun i => (f i).2.toList).length = m * 5 := by
              intro m
              induction m with
              | zero => intro _; rfl
              | succ m ihm =>
                intro hm
                rw [List.range_succ, List.flatMap_append, List.length_append, ihm (by omega)]
                simp only [List.flatMap_cons, List.flatMap_nil, List.append_nil]
                rw [hfs m (by omega)]
                omega
            have hget : ∀ m, m ≤ len → ∀ i j u, i < m → (f i).2.toList[j]? = some u → ((List.range m).flatMap fun i => (f i).2.toList)[i * 5 + j]? = some u := by
              intro m
              induction m with
              | zero => intro _ i j u hi2; omega
              | succ m ihm =>
                intro hm i j u hi2 hu
                have hj5 : j < 5 := by
                  have := (List.getElem?_eq_some_iff.1 hu).1
                  rw [hfs i (by omega)] at this
                  exact this
                rw [List.range_succ, List.flatMap_append]
                simp only [List.flatMap_cons, List.flatMap_nil, List.append_nil]
                by_cases him : i < m
                · rw [List.getElem?_append_left (by rw [hflat m (by omega)]; omega)]
                  exact ihm (by omega) i j u him hu
                · have : i = m := by omega
                  subst this
                  rw [List.getElem?_append_right (by rw [hflat i (by omega)]; omega), hflat i (by omega), show i * 5 + j - i * 5 = j from by omega]
                  exact hu
            have hreads : Reads W W.heap.size 5 (some a) len ((List.range len).flatMap fun i => (f i).2.toList) := by
              refine ⟨hflat len (Nat.le_refl _), fun hn => ⟨a, rfl, ?_, fun q u hq => ?_⟩⟩
              · have h5 := hfs 0 hn
                obtain ⟨u, hu⟩ : ∃ u, (f 0).2.toList[0]? = some u := ⟨_, List.getElem?_eq_getElem (by omega)⟩
                have := World.block_lt_of_cell? W _ ((hfx 0 hn).2.2 0 u hu)
                rwa [block_of_add] at this
              · have hql := (List.getElem?_eq_some_iff.1 hq).1
                rw [hflat len (Nat.le_refl _)] at hql
                have hi2 : q / 5 < len := by omega
                have hj : q % 5 < (f (q / 5)).2.toList.length := by rw [hfs _ hi2]; omega
                have hg := hget len (Nat.le_refl _) (q / 5) (q % 5) _ hi2 (List.getElem?_eq_getElem hj)
                rw [show q / 5 * 5 + q % 5 = q from by omega, hq] at hg
                have hcell := (hfx (q / 5) hi2).2.2 (q % 5) _ (List.getElem?_eq_getElem hj)
                rw [show q / 5 * 5 + q % 5 = q from by omega] at hcell
                rw [hcell, ← hg]
            have := VReads.mk (w := W) (B := W.heap.size) (k := m0) (i := m1) (f := m2) (s := m3.data.toList) (l := (List.range len).map fun i => (f i).1) (A := some a) (c := cap) (xs := (List.range len).flatMap fun i => (f i).2.toList) (fun i => (f i).2) (by rw [hll]; omega) (by rw [hll]; exact hreads) (fun j v hv => ?_) (fun j hj => ?_)
            · rw [hbs, hll] at this
              exact this
            · rw [List.getElem?_map] at hv
              have hjl : j < len := by
                rcases Nat.lt_or_ge j len with h | h
                · exact h
                · rw [List.getElem?_eq_none (by simpa using h)] at hv; cases hv
              rw [List.getElem?_range hjl] at hv
              simp only [Option.map_some, Option.some.injEq] at hv
              subst hv
              exact (hfx j hjl).1
            · rw [hll] at hj
              apply List.ext_getElem?
              intro q
              rw [List.getElem?_take, List.getElem?_drop]
              by_cases hq : q < 5
              · rw [if_pos hq]
                have hj5 : q < (f j).2.toList.length := by rw [hfs _ hj]; exact hq
                rw [hget len (Nat.le_refl _) j q _ hj (List.getElem?_eq_getElem hj5), List.getElem?_eq_getElem hj5]
              · rw [if_neg hq, List.getElem?_eq_none (by rw [hfs _ hj]; omega)]
          · obtain ⟨i, hi2, rfl⟩ := List.mem_map.1 hv
            exact (hfx i (List.mem_range.1 hi2)).2.1

theorem open_value {r : Reach} {base : Nat} {v : Value} {d : DataW H} {p : List MemPlace} (hval : Value.okWide Tryz.prog W r base 25 v) (h : DataW.Trod enc Tryz.prog W 0 (fun _ => true) true 25 v d p) {ts : List TypeId} {ds : List (DataW H)} {j : Nat}
    (hsz : (DataW.weightsEach Tryz.prog ts ds).all (· ≤ reachBytes) = true) (hj : ts[j]? = some 25) (hd : ds[j]? = some d) :
    ∃ (x : Val) (ca : Array Value), v = .agg ca ∧ VReads W W.heap.size x ca ∧ OkV x := by
  obtain ⟨ca, rfl, -⟩ := okWide_struct Tryz.underlying25 hval
  obtain ⟨fuel, hf⟩ := h
  obtain ⟨x, ca', hc, hv, ho⟩ := open_tree fuel _ _ hf (fun u hu => by
    have := List.all_eq_true.1 hsz _ (DataW.weights_mem_each hj hd u hu)
    simpa using this)
  refine ⟨x, ca, rfl, ?_, ho⟩
  have : ca = ca' := by
    apply Array.toList_inj.1
    exact hc
  rw [this]
  exact hv
end
end Go.Proofs.YtdbmffagibnibaaGreatDoor
namespace Go.Proofs.YtdbmffagibnibaaGreatDoor
set_option maxRecDepth 100000
open Go.ChangeShapes Go.WideShapes Go.ChangeAt Go.RowKit
theorem open_values {H : Type} {enc : TypeId × Value → H} {W : World} {r : Reach} {base : Nat} {v : Value} {d : DataW H} {p : List MemPlace} (hval : Value.okWide Tryz.prog W r base 23 v) (h : DataW.Trod enc Tryz.prog W 0 (fun _ => true) true 23 v d p) {ts : List TypeId} {ds : List (DataW H)} {j : Nat}
    (hsz : (DataW.weightsEach Tryz.prog ts ds).all (· ≤ reachBytes) = true) (hj : ts[j]? = some 23) (hd : ds[j]? = some d) :
    ∃ (A : Option Addr) (c : Nat) (l : List Val) (xs : List Value) (css : Nat → Array Value), v = .slice A l.length c ∧ Reads W W.heap.size 5 A l.length xs ∧ (∀ (j : Nat) (x : Val), l[j]? = some x → VReads W W.heap.size x (css j)) ∧ (∀ j, j < l.length → (xs.drop (j * 5)).take 5 = (css j).toList) ∧ (∀ x, x ∈ l → OkV x) ∧ l.length ≤ 140737488351232 := by
  have c5 : Tryz.prog.cellsOf 25 = 5 := by kernel_rfl
  have b64 : Tryz.prog.bytesOf 25 = 64 := by kernel_rfl
  obtain ⟨a0, len, cap, rfl⟩ := okWide_slice Tryz.underlying23 hval
  obtain ⟨fuel, hf⟩ := h
  have hwy : ∀ u ∈ DataW.weights Tryz.prog 23 d, u ≤ reachBytes := fun u hu => by
    have := List.all_eq_true.1 hsz _ (DataW.weights_mem_each hj hd u hu)
    simpa using this
  rcases DataW.trod_slice Tryz.underlying23 hf with ⟨h0, -⟩ | ⟨a, len1, cap1, elems, rest, n', hnn, h1, hy4, -, hlc, -, hlen, hel, -, -⟩
  · simp [Value.cells] at h0
    obtain ⟨rfl, rfl, rfl⟩ := h0
    exact ⟨none, 0, [], [], fun _ => #[], rfl, Reads.none_, by simp, by simp, by simp, by simp⟩
  · have hy4d : d = .slice (elems.map (·.1)) (rest.map (·.1)) := congrArg Prod.fst hy4
    rw [hy4d] at hwy
    simp [Value.cells] at h1
    obtain ⟨rfl, rfl, rfl⟩ := h1
    have hwl : (elems.length + rest.length) * 64 ≤ reachBytes := by
      refine hwy _ ?_
      unfold DataW.weights
      rw [Tryz.underlying23]
      dsimp only
      rw [b64, List.length_map, List.length_map]
      exact List.mem_cons_self
    have hwe : ∀ y ∈ elems, ∀ u ∈ DataW.weights Tryz.prog 25 y.1, u ≤ reachBytes := by
      intro y hy u hu
      refine hwy u ?_
      unfold DataW.weights
      rw [Tryz.underlying23]
      exact List.mem_cons_of_mem _ (List.mem_append_left _ (weightsAll_mem _ y.1 (List.mem_map_of_mem hy) u hu))
    have each : ∀ i, ∃ (p : Val × Array Value), i < len → VReads W W.heap.size p.1 p.2 ∧ OkV p.1 ∧ ∀ j u, p.2.toList[j]? = some u → W.cell? (a.add (i * 5 + j)) = some u := by
      intro i
      by_cases hi2 : i < len
      · have h5 := hel i hi2
        rw [c5] at h5
        have hie : i < elems.length := by omega
        rw [List.getElem?_eq_getElem hie] at h5
        cases hc : W.cells? 0 (a.add (i * 5)) 5 with
        | none => rw [hc] at h5; cases h5
        | some cs' =>
          rw [hc] at h5
          obtain ⟨v, ca, hca, hv, ho⟩ := open_tree n' cs' _ h5 (hwe _ (List.getElem_mem hie))
          refine ⟨(v, ca), fun _ => ⟨hv, ho, fun j u hj => ?_⟩⟩
          obtain ⟨-, hcl, hat⟩ := World.cells?_some hc
          have hj5 : j < 5 := by
            have := (List.getElem?_eq_some_iff.1 hj).1
            rw [← hca, hcl] at this
            exact this
          have := hat j hj5
          rw [add_of_add] at this
          rw [this, hca]
          exact hj
      · exact ⟨(.mk 0 0 0 [] [], #[]), fun h => absurd h hi2⟩
    obtain ⟨f, hfx⟩ := Classical.axiomOfChoice each
    have hfs : ∀ i, i < len → (f i).2.toList.length = 5 := by
      intro i hi2
      obtain ⟨_, _, _, _, _, _, _, e⟩ := (hfx i hi2).1.form
      rw [e]
      rfl
    have hr64 : len * 64 ≤ 140737488351232 := by
      have : (elems.length + rest.length) * 64 ≤ 140737488351232 := hwl
      omega
    have hll : ((List.range len).map fun i => (f i).1).length = len := by simp
    have hflat : ∀ m, m ≤ len → ((List.range m).flatMap fun i => (f i).2.toList).length = m * 5 := by
      intro m
      induction m with
      | zero => intro _; rfl
      | succ m ihm =>
        intro hm
        rw [List.range_succ, List.flatMap_append, List.length_append, ihm (by omega)]
        simp only [List.flatMap_cons, List.flatMap_nil, List.append_nil]
        rw [hfs m (by omega)]
        omega
    have hget : ∀ m, m ≤ len → ∀ i j u, i < m → (f i).2.toList[j]? = some u → ((List.range m).flatMap fun i => (f i).2.toList)[i * 5 + j]? = some u := by
      intro m
      induction m with
      | zero => intro _ i j u hi2; omega
      | succ m ihm =>
        intro hm i j u hi2 hu
        have hj5 : j < 5 := by
          have := (List.getElem?_eq_some_iff.1 hu).1
          rw [hfs i (by omega)] at this
          exact this
        rw [List.range_succ, List.flatMap_append]
        simp only [List.flatMap_cons, List.flatMap_nil, List.append_nil]
        by_cases him : i < m
        · rw [List.getElem?_append_left (by rw [hflat m (by omega)]; omega)]
          exact ihm (by omega) i j u him hu
        · have : i = m := by omega
          subst this
          rw [List.getElem?_append_right (by rw [hflat i (by omega)]; omega), hflat i (by omega), show i * 5 + j - i * 5 = j from by omega]
          exact hu
    have hreads : Reads W W.heap.size 5 (some a) len ((List.range len).flatMap fun i => (f i).2.toList) := by
      refine ⟨hflat len (Nat.le_refl _), fun hn => ⟨a, rfl, ?_, fun q u hq => ?_⟩⟩
      · have h5 := hfs 0 hn
        obtain ⟨u, hu⟩ : ∃ u, (f 0).2.toList[0]? = some u := ⟨_, List.getElem?_eq_getElem (by omega)⟩
        have := World.block_lt_of_cell? W _ ((hfx 0 hn).2.2 0 u hu)
        rwa [block_of_add] at this
      · have hql := (List.getElem?_eq_some_iff.1 hq).1
        rw [hflat len (Nat.le_refl _)] at hql
        have hi2 : q / 5 < len := by omega
        have hj : q % 5 < (f (q / 5)).2.toList.length := by rw [hfs _ hi2]; omega
        have hg := hget len (Nat.le_refl _) (q / 5) (q % 5) _ hi2 (List.getElem?_eq_getElem hj)
        rw [show q / 5 * 5 + q % 5 = q from by omega, hq] at hg
        have hcell := (hfx (q / 5) hi2).2.2 (q % 5) _ (List.getElem?_eq_getElem hj)
        rw [show q / 5 * 5 + q % 5 = q from by omega] at hcell
        rw [hcell, ← hg]
    refine ⟨some a, cap, (List.range len).map fun i => (f i).1, (List.range len).flatMap fun i => (f i).2.toList, fun i => (f i).2, by rw [hll], by rw [hll]; exact hreads, fun j v hv => ?_, fun j hj => ?_, fun v hv => ?_, by rw [hll]; omega⟩
    · rw [List.getElem?_map] at hv
      have hjl : j < len := by
        rcases Nat.lt_or_ge j len with h | h
        · exact h
        · rw [List.getElem?_eq_none (by simpa using h)] at hv; cases hv
      rw [List.getElem?_range hjl] at hv
      simp only [Option.map_some, Option.some.injEq] at hv
      subst hv
      exact (hfx j hjl).1
    · rw [hll] at hj
      apply List.ext_getElem?
      intro q
      rw [List.getElem?_take, List.getElem?_drop]
      by_cases hq : q < 5
      · rw [if_pos hq]
        have hj5 : q < (f j).2.toList.length := by rw [hfs _ hj]; exact hq
        rw [hget len (Nat.le_refl _) j q _ hj (List.getElem?_eq_getElem hj5), List.getElem?_eq_getElem hj5]
      · rw [if_neg hq, List.getElem?_eq_none (by rw [hfs _ hj]; omega)]
    · obtain ⟨i, hi2, rfl⟩ := List.mem_map.1 hv
      exact (hfx i (List.mem_range.1 hi2)).2.1
theorem lights_any {A : Option Addr} {c B : Nat} {l : List Val} {xs : List Value} {css : Nat → Array Value} {w w1 : World} (hr : Reads w B 5 A l.length xs) (hxs : ∀ j, j < l.length → (xs.drop (j * 5)).take 5 = (css j).toList) (hx : ∀ (j : Nat) (v : Val), l[j]? = some v → VReads w B v (css j)) (hb1 : Below B w w1) (hB1 : B ≤ w1.heap.size) (hl : l.length ≤ 140737488351232) :
    Calls Tryz.prog 20 #[.slice A l.length c] w1 (fun e w' => ∃ q, e = .returned (.bool q) ∧ (q = true → l.length ≤ 40) ∧ Below w1.heap.size w1 w') := by
  by_cases h40 : 40 < l.length
  · have h40i : (40 : Int) < (l.length : Int) := by omega
    go_enter Tryz.func20, Tryz.ntmps20
    go_wp2_with fail
    go_ret
    exact ⟨_, rfl, (fun h => nomatch h), Below.refl _ _⟩
  have h40' : l.length ≤ 40 := by omega
  have h40i : (l.length : Int) ≤ 40 := by omega
  clear h40
  go_enter Tryz.func20, Tryz.ntmps20
  go_wp2_with fail
  go_loopw [3] (fun i wr => ∃ j : Nat, j ≤ l.length ∧ i = .int .i64 (j : Int) ∧ Below w1.heap.size w1 wr) (fun i _ => l.length - (intOf i).toNat)
  case atStart => exact ⟨0, Nat.zero_le _, rfl, Below.refl _ _⟩
  case round =>
    rename_i hrel
    obtain ⟨j, hj, rfl, hb⟩ := hrel
    by_cases hlt : j < l.length
    · have hbb : Below B w wr := hb1.trans (hb.mono hB1)
      obtain ⟨ad, k', i', f', s', A', n', c', rfl, hform, hgk, g0, g1, g2, g3, g4⟩ := kid hr hx hxs hbb hlt
      have hcl := light_any (hx j l[j] hgk) wr hbb (Nat.le_trans hB1 hb.size)
      rw [hform] at hcl
      clear hform hgk
      go_wp2_with fail
      refine hcl.mono ?_
      clear hcl
      rintro e w4 ⟨q, rfl, hb4⟩
      dsimp only
      have hb4' := below_then hb4 hb
      cases q
      · go_wp2_with fail
        go_ret
        exact ⟨_, rfl, (fun h => nomatch h), hb4'⟩
      · go_wp2_with fail
        go_roundw
        case rel => exact ⟨j + 1, by omega, by simp, by assumption⟩
        case measure => simp [intOf]; omega
    · have hj' : j = l.length := by omega
      go_wp2_with fail
      go_ret
      exact ⟨_, rfl, fun _ => h40', hb⟩
end Go.Proofs.YtdbmffagibnibaaGreatDoor
