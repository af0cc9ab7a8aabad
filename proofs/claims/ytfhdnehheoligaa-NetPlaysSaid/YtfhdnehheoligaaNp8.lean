/- Both nets side by side; the script of NetPlays, opened. -/
import Derived.Test.YtfhdnehheoligaaNp7
import Derived.Test.YtfhdnehheoligaaFrame
set_option linter.unusedSimpArgs false
set_option linter.unusedVariables false
namespace Go.Proofs.Ytfhdnehheoligaa
open Go.RowKit
set_option maxRecDepth 100000

structure TwoN (b : Nat) (w0 w : World) (G G2 : Nat) (F F2 K : Nat → Prop) (m : Nat) (l : List PkD) (m2 : Nat) (l2 : List PkD) : Prop where
  S : NetS b w F 47 G m l
  Y : NetS b w F2 30 G2 m2 l2
  hF : ∀ y, F y → ¬ F2 y
  hK : ∀ y, K y → y < w.heap.size ∧ ¬ F y ∧ ¬ F2 y
  hb : Below b w0 w
  hbw : b ≤ w.heap.size
section
variable {b : Nat} {w0 w w' : World} {G G2 : Nat} {F F2 K S : Nat → Prop} {m m2 m' : Nat} {l l2 l' : List PkD}
theorem TwoN.below (h : TwoN b w0 w G G2 F F2 K m l m2 l2) (hb : Below w.heap.size w w') : TwoN b w0 w' G G2 F F2 K m l m2 l2 :=
  ⟨h.S.below hb, h.Y.below hb, h.hF, fun y hy => ⟨Nat.lt_of_lt_of_le (h.hK y hy).1 hb.size, (h.hK y hy).2⟩, h.hb.trans (hb.mono h.hbw), Nat.le_trans h.hbw hb.size⟩
theorem TwoN.prog (h : TwoN b w0 w G G2 F F2 K m l m2 l2) (hC : Chg b w w' F 47 G m' l') : ∃ F', TwoN b w0 w' G G2 F' F2 K m' l' m2 l2 ∧ Upd (fun y => ¬ K y) w w' := by
  obtain ⟨hu, F', hS, hF'⟩ := hC
  have hsz := hu.size
  have hbw := h.hbw
  refine ⟨F', ⟨hS, h.Y.keep hu (fun y hy => ⟨(h.S.ft y hy).2, h.hF y hy⟩), fun y hy => ?_, fun y hy => ?_, h.hb.trans (hu.below h.hbw (fun k hk e => by have := (h.S.ft k e).2; omega)), by omega⟩, hu.mono (fun y _ hf hk => (h.hK y hk).2.1 hf)⟩
  · rcases hF' y hy with e1 | e1
    · exact h.hF y e1
    · exact fun e2 => by have := (h.Y.ft y e2).1; omega
  · have hk := h.hK y hy
    refine ⟨by omega, fun hf => ?_, hk.2.2⟩
    rcases hF' y hf with e1 | e1
    · exact hk.2.1 e1
    · omega
theorem TwoN.doc (h : TwoN b w0 w G G2 F F2 K m l m2 l2) (hC : Chg b w w' F2 30 G2 m' l') : ∃ F2', TwoN b w0 w' G G2 F F2' K m l m' l' ∧ Upd (fun y => ¬ K y) w w' := by
  obtain ⟨hu, F', hY, hF'⟩ := hC
  have hsz := hu.size
  have hbw := h.hbw
  refine ⟨F', ⟨h.S.keep hu (fun y hy => ⟨(h.Y.ft y hy).2, fun hf => h.hF y hf hy⟩), hY, fun y hy e1 => ?_, fun y hy => ?_, h.hb.trans (hu.below h.hbw (fun k hk e => by have := (h.Y.ft k e).2; omega)), by omega⟩, hu.mono (fun y _ hf hk => (h.hK y hk).2.2 hf)⟩
  · rcases hF' y e1 with e2 | e2
    · exact h.hF y hy e2
    · have := (h.S.ft y hy).1; omega
  · have hk := h.hK y hy
    refine ⟨by omega, hk.2.1, fun hf => ?_⟩
    rcases hF' y hf with e1 | e1
    · exact hk.2.2 e1
    · omega
theorem TwoN.put (h : TwoN b w0 w G G2 F F2 K m l m2 l2) (hu : Upd S w w') (hS : ∀ y, S y → K y ∧ b ≤ y) : TwoN b w0 w' G G2 F F2 K m l m2 l2 :=
  ⟨h.S.keep hu (fun y hs => ⟨(hS y hs).2, (h.hK y (hS y hs).1).2.1⟩), h.Y.keep hu (fun y hs => ⟨(hS y hs).2, (h.hK y (hS y hs).1).2.2⟩), h.hF, fun y hy => ⟨Nat.lt_of_lt_of_le (h.hK y hy).1 hu.size, (h.hK y hy).2⟩, h.hb.trans (hu.below h.hbw (fun k hk e => by have := (hS k e).2; omega)), Nat.le_trans h.hbw hu.size⟩
/-- More blocks that are kept: such as are new. -/
theorem TwoN.keepK {K' : Nat → Prop} {wp : World} (h : TwoN b w0 w G G2 F F2 K m l m2 l2) (hb : Below w.heap.size w w') (hK : ∀ y, K' y → K y ∨ (w.heap.size ≤ y ∧ y < w'.heap.size)) : TwoN b w0 w' G G2 F F2 K' m l m2 l2 := by
  have h' := h.below hb
  refine ⟨h'.S, h'.Y, h'.hF, fun y hy => ?_, h'.hb, h'.hbw⟩
  rcases hK y hy with e | e
  · exact h'.hK y e
  · exact ⟨e.2, fun hf => by have := (h.S.ft y hf).1; omega, fun hf => by have := (h.Y.ft y hf).1; omega⟩
theorem TwoN.free (h : TwoN b w0 w G G2 F F2 K m l m2 l2) : TwoN b w0 w G G2 F F2 (fun _ => False) m l m2 l2 := ⟨h.S, h.Y, h.hF, fun _ hf => hf.elim, h.hb, h.hbw⟩
end
theorem nd_new (b : Nat) (w : World) (hb : b ≤ w.heap.size) : NetS b (w.alloc (.cells #[.slice none 0 0, .int .u64 0] 30)) (fun y => y = w.heap.size) 30 w.heap.size 0 [] :=
  ⟨none, 0, [], fun _ => #[], fun _ => False, Blk.new w _ _, Own.none_, by simp, by simp, fun y hy => ⟨hy.elim id (fun e => by cases e), fun h => h⟩, fun _ h => h.elim, fun y hy => by subst hy; simp; omega, by simp; omega, by decide, by simp, by simp, by decide⟩
end Go.Proofs.Ytfhdnehheoligaa
namespace Go.Proofs.Ytfhdnehheoligaa
open Go.ChangeShapes Go.WideShapes Go.ChangeAt Go.RowKit
set_option maxRecDepth 100000
structure ActD where
  what : Nat
  n : Int
  mask : Nat
  p : PkD
def ActIs (W : World) (x : ActD) (cs : Array Value) : Prop :=
  ∃ (B : Option Addr) (cB : Nat), cs = #[.int .u8 (x.what : Int), .int .i64 x.n, .int .u64 (x.mask : Int), .int .i64 x.p.f, .int .i64 x.p.t, .slice B x.p.b.length cB] ∧ Reads W W.heap.size 1 B x.p.b.length (bys x.p.b) ∧ x.what ≤ 255 ∧ (-9223372036854775808 ≤ x.n ∧ x.n ≤ 9223372036854775807) ∧ x.mask < 18446744073709551616 ∧ x.p.b.length ≤ cB
section
variable {H : Type} {enc : TypeId × Value → H} {W : World}
theorem rows_of {α : Type} {W : World} {S : Nat} (hS : 0 < S) {P : α → Array Value → Prop} {a : Addr} {len : Nat} (each : ∀ i, i < len → ∃ (x : α) (cs : Array Value), P x cs ∧ cs.toList.length = S ∧ ∀ j u, cs.toList[j]? = some u → W.cell? (a.add (i * S + j)) = some u) :
    ∃ (l : List α) (xs : List Value) (css : Nat → Array Value), l.length = len ∧ Reads W W.heap.size S (some a) len xs ∧ (∀ j x, l[j]? = some x → P x (css j)) ∧ (∀ j, j < len → (xs.drop (j * S)).take S = (css j).toList) ∧ ∀ j, j < len → (css j).toList.length = S := by
  induction len with
  | zero => exact ⟨[], [], fun _ => #[], rfl, ⟨by simp, fun h => absurd h (by omega)⟩, by simp, fun j h => absurd h (by omega), fun j h => absurd h (by omega)⟩
  | succ len ih =>
    obtain ⟨l, xs, css, hl, hr, hp, hx, hsz⟩ := ih (fun i hi => each i (by omega))
    obtain ⟨x, cs, hP, hcs, hcell⟩ := each len (by omega)
    have hxl := hr.len
    refine ⟨l ++ [x], xs ++ cs.toList, fun j => if j = len then cs else css j, by simp [hl], ⟨by rw [List.length_append, hxl, hcs, Nat.add_mul, Nat.one_mul], fun _ => ⟨a, rfl, ?_, fun q u hq => ?_⟩⟩, fun j y hj => ?_, fun j hj => ?_, fun j hj => ?_⟩
    · obtain ⟨u, hu⟩ : ∃ u, cs.toList[0]? = some u := ⟨_, List.getElem?_eq_getElem (by omega)⟩
      have := World.block_lt_of_cell? W _ (hcell 0 u hu)
      rwa [block_of_add] at this
    · rcases Nat.lt_or_ge q xs.length with h | h
      · rw [List.getElem?_append_left h] at hq
        have hlen : 0 < len := by
          rcases Nat.eq_zero_or_pos len with h0 | h0
          · subst h0; omega
          · exact h0
        obtain ⟨ad, e, -, hc⟩ := hr.2 hlen
        cases e
        exact hc q u hq
      · rw [List.getElem?_append_right h] at hq
        have := hcell _ u hq
        rw [hxl] at this
        rw [← this]
        congr 2
        omega
    · dsimp only
      rcases Nat.lt_trichotomy j len with h | h | h
      · rw [List.getElem?_append_left (by omega)] at hj
        rw [if_neg (by omega)]
        exact hp j y hj
      · subst h
        rw [List.getElem?_append_right (by omega), hl] at hj
        simp at hj
        subst hj
        rw [if_pos rfl]
        exact hP
      · rw [List.getElem?_eq_none (by simp [hl]; omega)] at hj; cases hj
    · dsimp only
      rcases Nat.lt_or_ge j len with h | h
      · rw [if_neg (by omega), ← hx j h]
        have h1 : j * S + S ≤ len * S := by rw [← Nat.succ_mul]; exact Nat.mul_le_mul_right _ (by omega)
        rw [List.drop_append_of_le_length (by omega), List.take_append_of_le_length (by rw [List.length_drop]; omega)]
      · have : j = len := by omega
        subst this
        rw [if_pos rfl, List.drop_left' hxl]
        exact List.take_of_length_le (by omega)
    · dsimp only
      rcases Nat.lt_or_ge j len with h | h
      · rw [if_neg (by omega)]; exact hsz j h
      · rw [if_pos (by omega)]; exact hcs
theorem u8_nat {x : Int} (h : (Lit.int .u8 x).wf = true) : ∃ n : Nat, x = (n : Int) ∧ n ≤ 255 := by
  simp [Lit.wf, IntKind.min, IntKind.max, IntKind.signed, IntKind.bits] at h
  exact ⟨x.toNat, by omega, by omega⟩
theorem u64_nat {x : Int} (h : (Lit.int .u64 x).wf = true) : ∃ n : Nat, x = (n : Int) ∧ n < 18446744073709551616 := by
  simp [Lit.wf, IntKind.min, IntKind.max, IntKind.signed, IntKind.bits] at h
  exact ⟨x.toNat, by omega, by omega⟩
theorem i64_in {x : Int} (h : (Lit.int .i64 x).wf = true) : -9223372036854775808 ≤ x ∧ x ≤ 9223372036854775807 := by
  simp [Lit.wf, IntKind.min, IntKind.max, IntKind.signed, IntKind.bits] at h
  omega
theorem trod_act {fuel : Nat} {cs : List Value} {y : DataW H × List MemPlace} (hf : DataW.trod enc Try.prog W 0 (fun _ => true) true fuel 35 cs = some y) :
    ∃ (x : ActD) (ca : Array Value), ca.toList = cs ∧ ActIs W x ca := by
  have c6 : Try.prog.cellsOf 35 = 6 := by kernel_rfl
  have q0 : Try.prog.cellsOf 5 = 1 := by kernel_rfl
  have q1 : Try.prog.cellsOf 3 = 1 := by kernel_rfl
  have q2 : Try.prog.cellsOf 28 = 1 := by kernel_rfl
  have q3 : Try.prog.cellsOf 33 = 3 := by kernel_rfl
  have q4 : Try.prog.cellsOf 31 = 1 := by kernel_rfl
  obtain ⟨ys, n0, rfl, hd0, hl, hyl, hff⟩ := DataW.trod_struct Try.underlying35 hf
  rw [c6] at hl
  obtain ⟨a0, a1, a2, a3, a4, a5, rfl⟩ : ∃ a0 a1 a2 a3 a4 a5, cs = [a0, a1, a2, a3, a4, a5] := by
    match cs, hl with
    | [a0, a1, a2, a3, a4, a5], _ => exact ⟨a0, a1, a2, a3, a4, a5, rfl⟩
  obtain ⟨y0, y1, y2, y3, rfl⟩ : ∃ y0 y1 y2 y3, ys = [y0, y1, y2, y3] := by
    match ys, hyl with
    | [y0, y1, y2, y3], _ => exact ⟨y0, y1, y2, y3, rfl⟩
  have t0 : DataW.trod enc Try.prog W 0 (fun _ => true) true n0 5 (([a0, a1, a2, a3, a4, a5].drop 0).take (Try.prog.cellsOf 5)) = some y0 := hff 0 _ rfl
  have t1 : DataW.trod enc Try.prog W 0 (fun _ => true) true n0 3 (([a0, a1, a2, a3, a4, a5].drop 1).take (Try.prog.cellsOf 3)) = some y1 := hff 1 _ rfl
  have t2 : DataW.trod enc Try.prog W 0 (fun _ => true) true n0 28 (([a0, a1, a2, a3, a4, a5].drop 2).take (Try.prog.cellsOf 28)) = some y2 := hff 2 _ rfl
  have t3 : DataW.trod enc Try.prog W 0 (fun _ => true) true n0 33 (([a0, a1, a2, a3, a4, a5].drop 3).take (Try.prog.cellsOf 33)) = some y3 := hff 3 _ rfl
  rw [q0] at t0
  rw [q1] at t1
  rw [q2] at t2
  rw [q3] at t3
  simp only [List.drop_zero, List.take_succ_cons, List.take_zero, List.drop_succ_cons] at t0 t1 t2 t3
  obtain ⟨m0, e0, -, w0⟩ := DataW.trod_int Try.underlying5 t0
  obtain ⟨m1, e1, -, w1⟩ := DataW.trod_int Try.underlying3 t1
  obtain ⟨m2, e2, -, w2⟩ := DataW.trod_int Try.underlying28 t2
  obtain ⟨m0, rfl, b0⟩ := u8_nat w0
  obtain ⟨m2, rfl, b2⟩ := u64_nat w2
  have b1 := i64_in w1
  simp at e0 e1 e2
  subst e0 e1 e2
  obtain ⟨zs, n1, rfl, -, -, hzl, hgg⟩ := DataW.trod_struct Try.underlying33 t3
  obtain ⟨z0, z1, z2, rfl⟩ : ∃ z0 z1 z2, zs = [z0, z1, z2] := by
    match zs, hzl with
    | [z0, z1, z2], _ => exact ⟨z0, z1, z2, rfl⟩
  have u0 : DataW.trod enc Try.prog W 0 (fun _ => true) true n1 3 (([a3, a4, a5].drop 0).take (Try.prog.cellsOf 3)) = some z0 := hgg 0 _ rfl
  have u1 : DataW.trod enc Try.prog W 0 (fun _ => true) true n1 3 (([a3, a4, a5].drop 1).take (Try.prog.cellsOf 3)) = some z1 := hgg 1 _ rfl
  have u2 : DataW.trod enc Try.prog W 0 (fun _ => true) true n1 31 (([a3, a4, a5].drop 2).take (Try.prog.cellsOf 31)) = some z2 := hgg 2 _ rfl
  rw [q1] at u0 u1
  rw [q4] at u2
  simp only [List.drop_zero, List.take_succ_cons, List.take_zero, List.drop_succ_cons] at u0 u1 u2
  obtain ⟨pf, e3, -, -⟩ := DataW.trod_int Try.underlying3 u0
  obtain ⟨pt, e4, -, -⟩ := DataW.trod_int Try.underlying3 u1
  simp at e3 e4
  subst e3 e4
  obtain ⟨B, cB, bs, rfl, hr, hle, -⟩ := bytes_of_trod Try.underlying31 Try.underlying5 (by kernel_rfl) u2 (fun _ => rfl)
  exact ⟨⟨m0, m1, m2, ⟨pf, pt, bs⟩⟩, #[.int .u8 (m0 : Int), .int .i64 m1, .int .u64 (m2 : Int), .int .i64 pf, .int .i64 pt, .slice B bs.length cB], rfl, B, cB, rfl, hr, b0, b1, b2, hle⟩
/-- A row of acts that the machine reads. -/
def RowAct (W : World) (A : Option Addr) (l : List ActD) (xs : List Value) (css : Nat → Array Value) : Prop :=
  Reads W W.heap.size 6 A l.length xs ∧ (∀ (j : Nat) (x : ActD), l[j]? = some x → ActIs W x (css j)) ∧ ∀ j, j < l.length → (xs.drop (j* 6)).take 6 = (css j).toList

theorem open_acts {r : Reach} {base : Nat} {v : Value} {d : DataW H} {p : List MemPlace} (hval : Value.okWide Try.prog W r base 22 v) (h : DataW.Trod enc Try.prog W 0 (fun _ => true) true 22 v d p) {ts : List TypeId} {ds : List (DataW H)} {j : Nat}
    (hsz : (DataW.weightsEach Try.prog ts ds).all (· ≤ reachBytes) = true) (hj : ts[j]? = some 22) (hd : ds[j]? = some d) :
    ∃ (A : Option Addr) (c : Nat) (l : List ActD) (xs : List Value) (css : Nat → Array Value), v = .slice A l.length c ∧ RowAct W A l xs css ∧ l.length ≤ c := by
  have c6 : Try.prog.cellsOf 35 = 6 := by kernel_rfl
  obtain ⟨a0, len0, cap0, rfl⟩ := okWide_slice Try.underlying22 hval
  obtain ⟨fuel, hf⟩ := h
  have hw := List.all_eq_true.1 hsz
  have hwy : ∀ u ∈ DataW.weights Try.prog 22 d, u ≤ reachBytes := fun u hu => by
    have := hw _ (DataW.weights_mem_each hj hd u hu)
    simpa using this
  rcases DataW.trod_slice Try.underlying22 hf with ⟨h0, -⟩ | ⟨a, len, cap1, elems, rest, n', hnn, h1, hy4, -, hlc, -, hlen, hel, -, -⟩
  · simp [Value.cells] at h0
    obtain ⟨rfl, rfl, rfl⟩ := h0
    exact ⟨none, 0, [], [], fun _ => #[], rfl, ⟨⟨by simp, fun h => absurd h (by simp)⟩, by simp, by simp⟩, Nat.le_refl _⟩
  · have hy4d : d = .slice (elems.map (·.1)) (rest.map (·.1)) := congrArg Prod.fst hy4
    rw [hy4d] at hwy
    simp [Value.cells] at h1
    obtain ⟨rfl, rfl, rfl⟩ := h1
    have each : ∀ i, i < len0 → ∃ (x : ActD) (cs : Array Value), ActIs W x cs ∧ cs.toList.length = 6 ∧ ∀ j u, cs.toList[j]? = some u → W.cell? (a.add (i* 6 + j)) = some u := by
      intro i hi2
      have h5 := hel i hi2
      rw [c6] at h5
      have hie : i < elems.length := by omega
      rw [List.getElem?_eq_getElem hie] at h5
      cases hc : W.cells? 0 (a.add (i* 6)) 6 with
      | none => rw [hc] at h5; cases h5
      | some cs' =>
        rw [hc] at h5
        obtain ⟨x, ca, hca, hx⟩ := trod_act h5
        obtain ⟨-, hcl, hat⟩ := World.cells?_some hc
        refine ⟨x, ca, hx, by rw [hca]; exact hcl, fun j u hj => ?_⟩
        have hj6 : j < 6 := by
          have := (List.getElem?_eq_some_iff.1 hj).1
          rw [hca, hcl] at this
          exact this
        have := hat j hj6
        rw [add_of_add] at this
        rw [this, ← hca]
        exact hj
    obtain ⟨l, xs, css, hl, hr, hp, hx, -⟩ := rows_of (by decide) each
    subst hl
    exact ⟨some a, cap0, l, xs, css, rfl, ⟨hr, hp, hx⟩, by omega⟩
end
end Go.Proofs.Ytfhdnehheoligaa
