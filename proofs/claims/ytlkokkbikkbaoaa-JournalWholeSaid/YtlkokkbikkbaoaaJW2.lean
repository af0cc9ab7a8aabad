/- Rows of calls read; logs that a walk builds of calls that are there; requests that come as an argument. -/
import Derived.Test.YtlkokkbikkbaoaaSt9
import Derived.Test.YtlkokkbikkbaoaaLog
import Derived.Test.YtlkokkbikkbaoaaW6
import Derived.Test.YtlkokkbikkbaoaaB1
set_option linter.unusedSimpArgs false
set_option linter.unusedVariables false
set_option linter.unusedSimpArgs false
set_option linter.unusedVariables false
namespace Go.Proofs.Ytlkokkbikkbaoaa
open Go.RowKit
set_option maxRecDepth 100000

/-- A call of a row, as a walk finds it. -/
theorem OpsP.cells {w : World} {b c : Nat} {A : Option Addr} {os : List OpD} {xs : List Value} {css : Nat → Array Value} (h : OpsP w b A c os xs css) {j : Nat} {o : OpD} (hj : os[j]? = some o) :
    ∃ g A1 c1, A = some ⟨g, 0, none⟩ ∧ css j = #[.int .u32 (o.c : Int), .int .u32 (o.s : Int), .int .u16 (o.n : Int), .string (bstr o.g), .string (bstr o.m), .slice A1 o.l.length c1] ∧
      OpHeld w (fun x => x < b ∨ x = g) o #[.int .u32 (o.c : Int), .int .u32 (o.s : Int), .int .u16 (o.n : Int), .string (bstr o.g), .string (bstr o.m), .slice A1 o.l.length c1] ∧
      ∀ W, Below w.heap.size w W → W.cell? ⟨g, j * 6, none⟩ = some (.int .u32 (o.c : Int)) ∧ W.cell? ⟨g, j * 6 + 1, none⟩ = some (.int .u32 (o.s : Int)) ∧ W.cell? ⟨g, j * 6 + 2, none⟩ = some (.int .u16 (o.n : Int)) ∧ W.cell? ⟨g, j * 6 + 3, none⟩ = some (.string (bstr o.g)) ∧ W.cell? ⟨g, j * 6 + 4, none⟩ = some (.string (bstr o.m)) ∧ W.cell? ⟨g, j * 6 + 5, none⟩ = some (.slice A1 o.l.length c1) := by
  have hjl : j < os.length := by
    rcases Nat.lt_or_ge j os.length with h' | h'
    · exact h'
    · rw [List.getElem?_eq_none h'] at hj; cases hj
  obtain ⟨g, cur, rfl, hcur, hle, htk, -⟩ := h.ho.open_s (by omega)
  have ho := h.hx j o hj
  obtain ⟨A1, c1, ys, cs1, hcs, -⟩ := ho.reads
  have hx := h.hxs j o hj
  rw [hcs] at ho hx
  refine ⟨g, A1, c1, rfl, hcs, ho.next (T := fun _ => False) (Upd.refl _ w) (fun _ _ hf => hf.elim) (fun x _ hp => hp.elim .inl (fun e => .inr (by rw [e]; rfl))), fun W hW => ?_⟩
  have hc : ∀ t v, t < 6 → ([Value.int .u32 (o.c : Int), .int .u32 (o.s : Int), .int .u16 (o.n : Int), .string (bstr o.g), .string (bstr o.m), .slice A1 o.l.length c1] : List Value)[t]? = some v → W.cell? ⟨g, j * 6 + t, none⟩ = some v := fun t v ht hv => by
    rw [(hcur.below hW hcur.lt).cell]
    have h1 := window hx t ht
    rw [← htk, List.getElem?_take, if_pos (by omega)] at h1
    rw [show cur[j * 6 + t]? = cur.toList[j * 6 + t]? by simp, h1]
    exact hv
  exact ⟨hc 0 _ (by decide) rfl, hc 1 _ (by decide) rfl, hc 2 _ (by decide) rfl, hc 3 _ (by decide) rfl, hc 4 _ (by decide) rfl, hc 5 _ (by decide) rfl⟩

/-- A log that a walk builds, in blocks from b on. -/
structure LogW (w : World) (b : Nat) (A : Option Addr) (c : Nat) (l : List (Nat × OpD)) (xs : List Value) (css : Nat → Array Value) : Prop where
  ho : Own w 42 7 A l.length c xs
  hA : ∀ g, bOf A = some g → b ≤ g
  hx : ∀ j x, l[j]? = some x → OpHeld w (fun g => g < b ∨ some g = bOf A) x.2 (css j)
  hxs : ∀ j x, l[j]? = some x → (xs.drop (j * 7)).take 7 = Value.int .u64 (x.1 : Int) :: (css j).toList
  hv : ∀ x ∈ l, x.1 < 18446744073709551616
  one : ∀ u ∈ xs, u.oneCell' = true
theorem LogW.nil (w : World) (b : Nat) : LogW w b none 0 [] [] (fun _ => #[]) := ⟨Own.none_, by simp [bOf], by simp, by simp, by simp, by simp⟩
theorem LogW.below {w w' : World} {b : Nat} {A : Option Addr} {c : Nat} {l : List (Nat × OpD)} {xs : List Value} {css : Nat → Array Value} (h : LogW w b A c l xs css) (hb : Below w.heap.size w w') : LogW w' b A c l xs css :=
  ⟨h.ho.below hb (Nat.le_refl _), h.hA, fun j x hj => (h.hx j x hj).next (T := fun _ => False) (Upd.of_below_size hb) (fun _ _ hf => hf.elim) (fun _ _ hp => hp), h.hxs, h.hv, h.one⟩
theorem LogW.reads {w : World} {b : Nat} {A : Option Addr} {c : Nat} {l : List (Nat × OpD)} {xs : List Value} {css : Nat → Array Value} (h : LogW w b A c l xs css) : LogR w w.heap.size A c l xs css := by
  refine ⟨h.ho.reads_, h.ho.le_cap, fun e => ?_, fun j x hj => (h.hx j x hj).reads, h.hxs, h.hv, h.one⟩
  rcases h.ho.2 with ⟨_, _, hc⟩ | ⟨g, cur, hA, _⟩
  · exact hc
  · rw [e] at hA; cases hA
theorem LogW.first {w : World} {b k : Nat} {A : Option Addr} {c : Nat} {l : List (Nat × OpD)} {xs : List Value} {css : Nat → Array Value} (h : LogW w b A c l xs css) (hk : k ≤ l.length) : LogW w b A k (l.take k) (xs.take (k * 7)) css := by
  have hl : (l.take k).length = k := by rw [List.length_take]; omega
  have hc := h.ho.le_cap
  refine ⟨by rw [hl]; exact (h.ho.first hk).clip (Nat.le_refl _) (by omega), h.hA, fun j x hj => ?_, fun j x hj => ?_, fun x hx => h.hv x (List.mem_of_mem_take hx), fun u hu => h.one u (List.mem_of_mem_take hu)⟩
  · rw [List.getElem?_take] at hj
    split at hj
    · exact h.hx j x hj
    · cases hj
  · rw [List.getElem?_take] at hj
    split at hj
    · rename_i hjk
      rw [← h.hxs j x hj, List.drop_take, List.take_take, Nat.min_eq_left (by omega)]
    · cases hj
theorem LogW.push {w w7 w8 : World} {b c8 v : Nat} {A8 : Option Addr} {o : OpD} {cs : Array Value} {A : Option Addr} {c : Nat} {l : List (Nat × OpD)} {xs : List Value} {css : Nat → Array Value} (h : LogW w b A c l xs css) (hbw : b ≤ w.heap.size) (hb : Below w.heap.size w w7)
    (ho8 : Own w8 42 7 A8 (l.length + 1) c8 (xs ++ (Value.int .u64 (v : Int) :: cs.toList))) (hg8 : w7.grownBy w8 (bOf A)) (hat : bOf A8 = bOf A ∨ bOf A8 = some w7.heap.size) (hop : OpHeld w8 (fun g => g < b ∨ some g = bOf A8) o cs) (hv : v < 18446744073709551616) :
    LogW w8 b A8 c8 (l ++ [(v, o)]) (xs ++ (Value.int .u64 (v : Int) :: cs.toList)) (fun k => if k = l.length then cs else css k) := by
  have hlx := h.ho.len
  have h7 := hb.size
  have hu7 : Upd (fun g => some g = bOf A) w7 w8 := (Upd.refl _ w7).grown hg8 (fun k e _ => e.symm)
  have hu : Upd (fun g => some g = bOf A) w w8 := (Upd.of_below_size hb).trans hu7 (fun _ _ e => e)
  have hcs : cs.toList.length = 6 := by
    obtain ⟨_, _, _, _, rfl, _⟩ := hop.reads
    rfl
  have hone : ∀ u ∈ cs.toList, u.oneCell' = true := by
    obtain ⟨_, _, _, _, rfl, _⟩ := hop.reads
    intro u hu
    simp at hu
    rcases hu with rfl | rfl | rfl | rfl | rfl | rfl <;> rfl
  refine ⟨by rw [List.length_append]; exact ho8, fun g hg => ?_, fun j x hj => ?_, fun j x hj => ?_, fun x hx => ?_, fun u hu' => ?_⟩
  · rcases hat with e | e <;> rw [e] at hg
    · exact h.hA g hg
    · cases hg; omega
  · rcases Nat.lt_trichotomy j l.length with hjl | hjl | hjl
    · rw [if_neg (by omega)]
      rw [List.getElem?_append_left hjl] at hj
      refine (h.hx j x hj).next hu (fun g _ e => .inr e) (fun g hg hp => ?_)
      rcases hp with hp | hp
      · exact .inl hp
      · rcases hat with e | e <;> rw [e] at hp
        · exact .inr hp
        · cases hp; omega
    · subst hjl
      rw [if_pos rfl]
      simp at hj
      subst hj
      exact hop
    · rw [List.getElem?_eq_none (by simp; omega)] at hj; cases hj
  · rcases Nat.lt_trichotomy j l.length with hjl | hjl | hjl
    · rw [if_neg (by omega)]
      rw [List.getElem?_append_left hjl] at hj
      rw [← h.hxs j x hj, List.drop_append_of_le_length (by omega), List.take_append_of_le_length (by rw [List.length_drop]; omega)]
    · subst hjl
      rw [if_pos rfl]
      simp at hj
      subst hj
      rw [List.drop_left' hlx]
      exact List.take_of_length_le (by simp [hcs])
    · rw [List.getElem?_eq_none (by simp; omega)] at hj; cases hj
  · rcases List.mem_append.1 hx with hx | hx
    · exact h.hv x hx
    · cases List.mem_singleton.1 hx; exact hv
  · rcases List.mem_append.1 hu' with hu' | hu'
    · exact h.one u hu'
    · rcases List.mem_cons.1 hu' with rfl | hu'
      · rfl
      · exact hone u hu'
end Go.Proofs.Ytlkokkbikkbaoaa
namespace Go.Proofs.Ytlkokkbikkbaoaa
open Go.ChangeShapes Go.WideShapes Go.ChangeAt Go.RowKit
set_option maxRecDepth 100000
section
variable {H : Type} {enc : TypeId × Value → H} {W : World}
theorem rows_of {{α : Type}} {{W : World}} {{S : Nat}} (hS : 0 < S) {{P : α → Array Value → Prop}} {{a : Addr}} {{len : Nat}} (each : ∀ i, i < len → ∃ (x : α) (cs : Array Value), P x cs ∧ cs.toList.length = S ∧ ∀ j u, cs.toList[j]? = some u → W.cell? (a.add (i * S + j)) = some u) :
    ∃ (l : List α) (xs : List Value) (css : Nat → Array Value), l.length = len ∧ Reads W W.heap.size S (some a) len xs ∧ (∀ j x, l[j]? = some x → P x (css j)) ∧ (∀ j, j < len → (xs.drop (j * S)).take S = (css j).toList) ∧ ∀ j, j < len → (css j).toList.length = S := by
  induction len with
  | zero => exact ⟨[], [], fun _ => #[], rfl, ⟨by simp, fun h => absurd h (by omega)⟩, by simp, fun j h => absurd h (by omega), fun j h => absurd h (by omega)⟩
  | succ len ih =>
    obtain ⟨l, xs, css, hl, hr, hp, hx, hsz⟩ := ih (fun i hi => each i (by omega))
    obtain ⟨x, cs, hP, hcs, hcell⟩ := each len (by omega)
    have hxl := hr.len
    refine ⟨l ++ [x], xs ++ cs.toList, fun j => if j = len then cs else css j, by simp [hl], ⟨by rw [List.length_append, hxl, hcs, Nat.add_mul, Nat.one_mul], fun _ => ⟨a, rfl, ?_, fun q u hq => ?_⟩⟩, fun j y hj => ?_, fun j hj => ?_, fun j hj => ?_⟩
    · obtain ⟨u, hu⟩ : ∃ u, cs.toList[0]? = some u := ⟨_, List.getElem?_eq_getElem (by omega)⟩
      have := World.block_lt_of_cell? W _ (hcell 0 u hu)
      rwa [block_of_add] at this
    · rcases Nat.lt_or_ge q xs.length with h | h
      · rw [List.getElem?_append_left h] at hq
        have hlen : 0 < len := by
          rcases Nat.eq_zero_or_pos len with h0 | h0
          · subst h0; omega
          · exact h0
        obtain ⟨ad, e, -, hc⟩ := hr.2 hlen
        cases e
        exact hc q u hq
      · rw [List.getElem?_append_right h] at hq
        have := hcell _ u hq
        rw [hxl] at this
        rw [← this]
        congr 2
        omega
    · dsimp only
      rcases Nat.lt_trichotomy j len with h | h | h
      · rw [List.getElem?_append_left (by omega)] at hj
        rw [if_neg (by omega)]
        exact hp j y hj
      · subst h
        rw [List.getElem?_append_right (by omega), hl] at hj
        simp at hj
        subst hj
        rw [if_pos rfl]
        exact hP
      · rw [List.getElem?_eq_none (by simp [hl]; omega)] at hj; cases hj
    · dsimp only
      rcases Nat.lt_or_ge j len with h | h
      · rw [if_neg (by omega), ← hx j h]
        have h1 : j * S + S ≤ len * S := by rw [← Nat.succ_mul]; exact Nat.mul_le_mul_right _ (by omega)
        rw [List.drop_append_of_le_length (by omega), List.take_append_of_le_length (by rw [List.length_drop]; omega)]
      · have : j = len := by omega
        subst this
        rw [if_pos rfl, List.drop_left' hxl]
        exact List.take_of_length_le (by omega)
    · dsimp only
      rcases Nat.lt_or_ge j len with h | h
      · rw [if_neg (by omega)]; exact hsz j h
      · rw [if_pos (by omega)]; exact hcs
theorem u8_in {x : Int} (h : (Lit.int .u8 x).wf = true) : 0 ≤ x ∧ x ≤ 255 := by
  simp [Lit.wf, IntKind.min, IntKind.max, IntKind.signed, IntKind.bits] at h
  omega
theorem i16_in {x : Int} (h : (Lit.int .i16 x).wf = true) : -32768 ≤ x ∧ x ≤ 32767 := by
  simp [Lit.wf, IntKind.min, IntKind.max, IntKind.signed, IntKind.bits] at h
  omega
theorem trod_rq {fuel : Nat} {cs : List Value} {y : DataW H × List MemPlace} (hf : DataW.trod enc Try.prog W 0 (fun _ => true) true fuel 47 cs = some y) :
    ∃ (r : RqD) (ca : Array Value), ca.toList = cs ∧ RqIs r ca := by
  have c5 : Try.prog.cellsOf 47 = 5 := by kernel_rfl
  have q0 : Try.prog.cellsOf 5 = 1 := by kernel_rfl
  have q1 : Try.prog.cellsOf 44 = 1 := by kernel_rfl
  have q2 : Try.prog.cellsOf 45 = 1 := by kernel_rfl
  obtain ⟨ys, n0, rfl, -, hl, hyl, hff⟩ := DataW.trod_struct Try.underlying47 hf
  rw [c5] at hl
  obtain ⟨a0, a1, a2, a3, a4, rfl⟩ : ∃ a0 a1 a2 a3 a4, cs = [a0, a1, a2, a3, a4] := by
    match cs, hl with
    | [a0, a1, a2, a3, a4], _ => exact ⟨a0, a1, a2, a3, a4, rfl⟩
  obtain ⟨y0, y1, y2, y3, y4, rfl⟩ : ∃ y0 y1 y2 y3 y4, ys = [y0, y1, y2, y3, y4] := by
    match ys, hyl with
    | [y0, y1, y2, y3, y4], _ => exact ⟨y0, y1, y2, y3, y4, rfl⟩
  have t0 : DataW.trod enc Try.prog W 0 (fun _ => true) true n0 5 (([a0, a1, a2, a3, a4].drop 0).take (Try.prog.cellsOf 5)) = some y0 := hff 0 _ rfl
  have t1 : DataW.trod enc Try.prog W 0 (fun _ => true) true n0 5 (([a0, a1, a2, a3, a4].drop 1).take (Try.prog.cellsOf 5)) = some y1 := hff 1 _ rfl
  have t2 : DataW.trod enc Try.prog W 0 (fun _ => true) true n0 5 (([a0, a1, a2, a3, a4].drop 2).take (Try.prog.cellsOf 5)) = some y2 := hff 2 _ rfl
  have t3 : DataW.trod enc Try.prog W 0 (fun _ => true) true n0 44 (([a0, a1, a2, a3, a4].drop 3).take (Try.prog.cellsOf 44)) = some y3 := hff 3 _ rfl
  have t4 : DataW.trod enc Try.prog W 0 (fun _ => true) true n0 45 (([a0, a1, a2, a3, a4].drop 4).take (Try.prog.cellsOf 45)) = some y4 := hff 4 _ rfl
  rw [q0] at t0 t1 t2
  rw [q1] at t3
  rw [q2] at t4
  simp only [List.drop_zero, List.take_succ_cons, List.take_zero, List.drop_succ_cons] at t0 t1 t2 t3 t4
  obtain ⟨G, e0, -, wG⟩ := DataW.trod_int Try.underlying5 t0
  obtain ⟨M, e1, -, wM⟩ := DataW.trod_int Try.underlying5 t1
  obtain ⟨K, e2, -, wK⟩ := DataW.trod_int Try.underlying5 t2
  obtain ⟨N, e3, -, wN⟩ := DataW.trod_int Try.underlying44 t3
  obtain ⟨F, e4, wF⟩ := trod_flt Try.underlying45 t4
  simp at e0 e1 e2 e3 e4
  subst e0 e1 e2 e3 e4
  have hF : F < 18446744073709551616 := by simpa [Lit.wf] using wF
  exact ⟨⟨G, M, K, N, F⟩, #[.int .u8 G, .int .u8 M, .int .u8 K, .int .i16 N, .float .f64 F], rfl, rfl, (u8_in wG).1, (u8_in wG).2, (u8_in wM).1, (u8_in wM).2, (u8_in wK).1, (u8_in wK).2, (i16_in wN).1, (i16_in wN).2, hF⟩

theorem open_reqs {r : Reach} {base : Nat} {v : Value} {d : DataW H} {p : List MemPlace} (hval : Value.okWide Try.prog W r base 22 v) (h : DataW.Trod enc Try.prog W 0 (fun _ => true) true 22 v d p) {ts : List TypeId} {ds : List (DataW H)} {j : Nat}
    (_ : (DataW.weightsEach Try.prog ts ds).all (· ≤ reachBytes) = true) (_ : ts[j]? = some 22) (_ : ds[j]? = some d) :
    ∃ (A : Option Addr) (c : Nat) (l : List RqD) (xs : List Value) (css : Nat → Array Value), v = .slice A l.length c ∧ RowRq W W.heap.size A l xs css ∧ l.length ≤ c := by
  have c5 : Try.prog.cellsOf 47 = 5 := by kernel_rfl
  obtain ⟨a0, len0, cap0, rfl⟩ := okWide_slice Try.underlying22 hval
  obtain ⟨fuel, hf⟩ := h
  rcases DataW.trod_slice Try.underlying22 hf with ⟨h0, -⟩ | ⟨a, len, cap1, elems, rest, n', hnn, h1, hy4, -, hlc, -, hlen, hel, -, -⟩
  · simp [Value.cells] at h0
    obtain ⟨rfl, rfl, rfl⟩ := h0
    exact ⟨none, 0, [], [], fun _ => #[], rfl, ⟨⟨by simp, fun h => absurd h (by simp)⟩, by simp, by simp⟩, Nat.le_refl _⟩
  · simp [Value.cells] at h1
    obtain ⟨rfl, rfl, rfl⟩ := h1
    have each : ∀ i, i < len0 → ∃ (x : RqD) (cs : Array Value), RqIs x cs ∧ cs.toList.length = 5 ∧ ∀ j u, cs.toList[j]? = some u → W.cell? (a.add (i * 5 + j)) = some u := by
      intro i hi2
      have h5 := hel i hi2
      rw [c5] at h5
      have hie : i < elems.length := by omega
      rw [List.getElem?_eq_getElem hie] at h5
      cases hc : W.cells? 0 (a.add (i * 5)) 5 with
      | none => rw [hc] at h5; cases h5
      | some cs' =>
        rw [hc] at h5
        obtain ⟨x, ca, hca, hx⟩ := trod_rq h5
        obtain ⟨-, hcl, hat⟩ := World.cells?_some hc
        refine ⟨x, ca, hx, by rw [hca]; exact hcl, fun j u hj => ?_⟩
        have hj9 : j < 5 := by
          have := (List.getElem?_eq_some_iff.1 hj).1
          rw [hca, hcl] at this
          exact this
        have := hat j hj9
        rw [add_of_add] at this
        rw [this, ← hca]
        exact hj
    obtain ⟨l, xs, css, hl, hr, hp, hx, -⟩ := rows_of (by decide) each
    subst hl
    exact ⟨some a, cap0, l, xs, css, rfl, ⟨hr, hp, hx⟩, by omega⟩
end
end Go.Proofs.Ytlkokkbikkbaoaa
