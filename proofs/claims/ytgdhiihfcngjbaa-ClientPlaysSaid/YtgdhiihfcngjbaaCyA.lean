/- The document's stub: its rows beside one another. -/
import Derived.Test.YtgdhiihfcngjbaaCl13
import Derived.Test.YtgdhiihfcngjbaaCl14
import Derived.Test.YtgdhiihfcngjbaaDelete
set_option linter.unusedSimpArgs false
set_option linter.unusedVariables false
set_option linter.unusedSimpArgs false
set_option linter.unusedVariables false
namespace Go.Proofs.Ytgdhiihfcngjbaa
open Go.RowKit
set_option maxRecDepth 100000

structure RowsY where
  A : Option Addr
  c : Nat
  A3 : Option Addr
  c3 : Nat
  A4 : Option Addr
  c4 : Nat
  A2 : Option Addr
  c2 : Nat
  xs : List Value
  xs2 : List Value
  css : Nat → Array Value
  css2 : Nat → Array Value
/-- The blocks that its functions write. -/
def OwnR (r : RowsY) (g y : Nat) : Prop := y = g ∨ bOf r.A = some y ∨ bOf r.A3 = some y ∨ bOf r.A4 = some y ∨ bOf r.A2 = some y
def agesR (l : List OpnD) : List Value := l.map fun x => .int .i64 (x.age : Int)
def nowsR (l : List OpnD) : List Value := l.map fun x => .bool x.now
structure StubY (w : World) (F : Nat → Prop) (g : Nat) (d : CliD) (r : RowsY) : Prop where
  blk : Blk w g 52 #[.int .u32 (d.id : Int), .int .u32 (d.seq : Int), .slice r.A d.op.length r.c, .slice r.A3 d.op.length r.c3, .slice r.A4 d.op.length r.c4, .slice r.A2 d.rp.length r.c2]
  ho : Own w 62 6 r.A d.op.length r.c r.xs
  ha : Own w 3 1 r.A3 d.op.length r.c3 (agesR d.op)
  hg : Own w 4 1 r.A4 d.op.length r.c4 (nowsR d.op)
  hr : Own w 39 9 r.A2 d.rp.length r.c2 r.xs2
  hx : ∀ j x, d.op[j]? = some x → OpHeld w (fun y => ¬ F y ∨ OwnR r g y) x.o (r.css j)
  hxs : ∀ j x, d.op[j]? = some x → (r.xs.drop (j * 6)).take 6 = (r.css j).toList
  rx : ∀ j x, d.rp[j]? = some x → VOwn w (fun y => F y ∧ ¬ OwnR r g y) x.v (r.css2 j)
  rxs : ∀ j x, d.rp[j]? = some x → (r.xs2.drop (j * 9)).take 9 = repL x (r.css2 j)
  fo : ∀ y, OwnR r g y → F y
  ft : ∀ y, F y → y < w.heap.size
  hid : d.id < 4294967296
  hsq : d.seq ≤ 1000000
  hn : d.op.length ≤ 4
  hr4 : d.rp.length ≤ 1000000
def StubYS (w : World) (F : Nat → Prop) (g : Nat) (d : CliD) : Prop := ∃ r, StubY w F g d r
def CliY (w w' : World) (F : Nat → Prop) (g : Nat) (d : CliD) : Prop := Upd F w w' ∧ ∃ F', StubYS w' F' g d ∧ ∀ y, F' y → F y ∨ w.heap.size ≤ y
section
variable {w w' : World} {F S : Nat → Prop} {g : Nat} {d : CliD} {r r' : RowsY}
theorem StubY.keep (h : StubY w F g d r) (hu : Upd S w w') (hS : ∀ y, F y → ¬ S y) : StubY w' F g d r := by
  have hs : ∀ y, OwnR r g y → ¬ S y := fun y hy => hS y (h.fo y hy)
  exact ⟨h.blk.upd hu (hs g (.inl rfl)), h.ho.upd hu (fun y hy => hs y (.inr (.inl hy))), h.ha.upd hu (fun y hy => hs y (.inr (.inr (.inl hy)))), h.hg.upd hu (fun y hy => hs y (.inr (.inr (.inr (.inl hy))))), h.hr.upd hu (fun y hy => hs y (.inr (.inr (.inr (.inr hy))))), fun j x hj => (h.hx j x hj).next hu (fun y _ hy => .inl (fun hf => hS y hf hy)) (fun y _ hp => hp), h.hxs, fun j x hj => (h.rx j x hj).upd hu (fun y hy => hS y hy.1), h.rxs, h.fo, fun y hy => Nat.lt_of_lt_of_le (h.ft y hy) hu.size, h.hid, h.hsq, h.hn, h.hr4⟩
theorem StubYS.keep (h : StubYS w F g d) (hu : Upd S w w') (hS : ∀ y, F y → ¬ S y) : StubYS w' F g d := by
  obtain ⟨r, h⟩ := h
  exact ⟨r, h.keep hu hS⟩
theorem StubY.below (h : StubY w F g d r) (hb : Below w.heap.size w w') : StubY w' F g d r := h.keep (Upd.of_below_size (S := fun _ => False) hb) (fun _ _ hf => hf)
theorem StubYS.below (h : StubYS w F g d) (hb : Below w.heap.size w w') : StubYS w' F g d := h.keep (Upd.of_below_size (S := fun _ => False) hb) (fun _ _ hf => hf)
theorem StubYS.ft (h : StubYS w F g d) : ∀ y, F y → y < w.heap.size := by obtain ⟨r, h⟩ := h; exact h.ft
theorem StubYS.hn (h : StubYS w F g d) : d.op.length ≤ 4 := by obtain ⟨r, h⟩ := h; exact h.hn
/-- What its rows point to stays, whatever is written into its rows; the new rows are the old ones or new. -/
theorem StubY.next (h : StubY w F g d r) (hu : Upd (OwnR r g) w w') (hr' : ∀ y, OwnR r' g y → OwnR r g y ∨ w.heap.size ≤ y) :
    (∀ j x, d.op[j]? = some x → OpHeld w' (fun y => ¬ (F y ∨ (w.heap.size ≤ y ∧ y < w'.heap.size)) ∨ OwnR r' g y) x.o (r.css j)) ∧ (∀ j x, d.rp[j]? = some x → VOwn w' (fun y => (F y ∨ (w.heap.size ≤ y ∧ y < w'.heap.size)) ∧ ¬ OwnR r' g y) x.v (r.css2 j)) := by
  refine ⟨fun j x hj => (h.hx j x hj).next hu (fun y _ hy => .inr hy) (fun y hy hp => ?_), fun j x hj => ((h.rx j x hj).upd hu (fun y hy => hy.2)).mono (fun y _ hy => ⟨.inl hy.1, fun e => ?_⟩)⟩
  · rcases hp with hp | hp
    · exact .inl (fun hf => hp (.inl hf))
    · rcases hr' y hp with e | e
      · exact .inr e
      · omega
  · rcases hr' y e with e' | e'
    · exact hy.2 e'
    · have := h.ft y hy.1; omega
/-- An open call, cell by cell. -/
theorem StubY.cells (h : StubY w F g d r) {j : Nat} {x : OpnD} (hj : d.op[j]? = some x) :
    ∃ gA A1 c1, r.A = some ⟨gA, 0, none⟩ ∧ r.css j = #[.int .u32 (x.o.c : Int), .int .u32 (x.o.s : Int), .int .u16 (x.o.n : Int), .string (bstr x.o.g), .string (bstr x.o.m), .slice A1 x.o.l.length c1] ∧
      w.cell? ⟨gA, j * 6, none⟩ = some (.int .u32 (x.o.c : Int)) ∧ w.cell? ⟨gA, j * 6 + 1, none⟩ = some (.int .u32 (x.o.s : Int)) ∧ w.cell? ⟨gA, j * 6 + 2, none⟩ = some (.int .u16 (x.o.n : Int)) ∧ w.cell? ⟨gA, j * 6 + 3, none⟩ = some (.string (bstr x.o.g)) ∧ w.cell? ⟨gA, j * 6 + 4, none⟩ = some (.string (bstr x.o.m)) ∧ w.cell? ⟨gA, j * 6 + 5, none⟩ = some (.slice A1 x.o.l.length c1) := by
  have hjl : j < d.op.length := atLt hj
  obtain ⟨gA, cur, hA, hcur, hle, htk, -⟩ := h.ho.open_s (by omega)
  obtain ⟨A1, c1, ys, cs1, hcs, -⟩ := (h.hx j x hj).reads
  have hx := h.hxs j x hj
  rw [hcs] at hx
  have hc : ∀ t v, t < 6 → ([Value.int .u32 (x.o.c : Int), .int .u32 (x.o.s : Int), .int .u16 (x.o.n : Int), .string (bstr x.o.g), .string (bstr x.o.m), .slice A1 x.o.l.length c1] : List Value)[t]? = some v → w.cell? ⟨gA, j * 6 + t, none⟩ = some v := fun t v ht hv => by
    rw [hcur.cell]
    have h1 := window hx t ht
    rw [← htk, List.getElem?_take, if_pos (by omega)] at h1
    rw [show cur[j * 6 + t]? = cur.toList[j * 6 + t]? by simp, h1]
    exact hv
  exact ⟨gA, A1, c1, hA, hcs, hc 0 _ (by decide) rfl, hc 1 _ (by decide) rfl, hc 2 _ (by decide) rfl, hc 3 _ (by decide) rfl, hc 4 _ (by decide) rfl, hc 5 _ (by decide) rfl⟩
/-- Age and mark of an open call. -/
theorem StubY.age (h : StubY w F g d r) {j : Nat} {x : OpnD} (hj : d.op[j]? = some x) : ∃ g3 cur, r.A3 = some ⟨g3, 0, none⟩ ∧ Blk w g3 3 cur ∧ w.cell? ⟨g3, j, none⟩ = some (.int .i64 (x.age : Int)) := by
  have hjl : j < d.op.length := atLt hj
  obtain ⟨g3, cur, hA, hcur, hle, htk, -⟩ := h.ha.open_s (by omega)
  refine ⟨g3, cur, hA, hcur, ?_⟩
  rw [hcur.cell]
  have h1 : (agesR d.op)[j]? = some (.int .i64 (x.age : Int)) := by unfold agesR; rw [List.getElem?_map, hj]; rfl
  rw [← htk, List.getElem?_take, if_pos (by omega)] at h1
  rw [show cur[j]? = cur.toList[j]? by simp, h1]
theorem StubY.now (h : StubY w F g d r) {j : Nat} {x : OpnD} (hj : d.op[j]? = some x) : ∃ g4 cur, r.A4 = some ⟨g4, 0, none⟩ ∧ Blk w g4 4 cur ∧ w.cell? ⟨g4, j, none⟩ = some (.bool x.now) := by
  have hjl : j < d.op.length := atLt hj
  obtain ⟨g4, cur, hA, hcur, hle, htk, -⟩ := h.hg.open_s (by omega)
  refine ⟨g4, cur, hA, hcur, ?_⟩
  rw [hcur.cell]
  have h1 : (nowsR d.op)[j]? = some (.bool x.now) := by unfold nowsR; rw [List.getElem?_map, hj]; rfl
  rw [← htk, List.getElem?_take, if_pos (by omega)] at h1
  rw [show cur[j]? = cur.toList[j]? by simp, h1]
theorem Own.ne_b {e e' : TypeId} {sz n c g : Nat} {A : Option Addr} {xs : List Value} {cs : Array Value} (h : Own w e sz A n c xs) (hb : Blk w g e' cs) (hne : e ≠ e') : ∀ y, bOf A = some y → y ≠ g := fun y hy e1 => by
  rcases h.2 with ⟨rfl, -⟩ | ⟨gA, cur, rfl, hb', -⟩
  · cases hy
  · cases hy; exact hb'.ne_ hb hne e1
end
end Go.Proofs.Ytgdhiihfcngjbaa
set_option linter.unusedSimpArgs false
set_option linter.unusedVariables false
namespace Go.Proofs.Ytgdhiihfcngjbaa
open Go.RowKit
set_option maxRecDepth 100000

theorem info_int : (Try.prog.info? 3).map (fun i => (i.zero, i.size, i.bytes)) = some (some (.int .i64 0), 1, 8) := by kernel_rfl
theorem info_bool : (Try.prog.info? 4).map (fun i => (i.zero, i.size, i.bytes)) = some (some (.bool false), 1, 1) := by kernel_rfl
theorem StubY.one {w : World} {F : Nat → Prop} {g : Nat} {d : CliD} {r : RowsY} (h : StubY w F g d r) : ∀ u ∈ r.xs, u.oneCell' = true := by
  intro u hu
  obtain ⟨q, hq⟩ := List.getElem?_of_mem hu
  have hlx := h.ho.len
  have hql : q < r.xs.length := atLt hq
  have hj : q / 6 < d.op.length := by omega
  have hx : d.op[q / 6]? = some d.op[q / 6] := List.getElem?_eq_getElem hj
  obtain ⟨_, A1, c1, _, hcs, -⟩ := h.cells hx
  have hw := h.hxs _ _ hx
  rw [hcs] at hw
  have h1 := window hw (q % 6) (by omega)
  rw [show q / 6 * 6 + q % 6 = q by omega, hq] at h1
  have hm : u ∈ ([Value.int .u32 (d.op[q / 6].o.c : Int), .int .u32 (d.op[q / 6].o.s : Int), .int .u16 (d.op[q / 6].o.n : Int), .string (bstr d.op[q / 6].o.g), .string (bstr d.op[q / 6].o.m), .slice A1 d.op[q / 6].o.l.length c1] : List Value) := List.mem_of_getElem? h1.symm
  simp only [List.mem_cons, List.not_mem_nil, or_false] at hm
  rcases hm with rfl | rfl | rfl | rfl | rfl | rfl <;> rfl
theorem ages_one (l : List OpnD) : ∀ u ∈ agesR l, u.oneCell' = true := by
  intro u hu
  obtain ⟨x, -, rfl⟩ := List.mem_map.1 hu
  rfl
theorem nows_one (l : List OpnD) : ∀ u ∈ nowsR l, u.oneCell' = true := by
  intro u hu
  obtain ⟨x, -, rfl⟩ := List.mem_map.1 hu
  rfl
/-- A value that stays a value while blocks of P are written. -/
def VHeld (w : World) (P : Nat → Prop) (v : Val) (cs : Array Value) : Prop := ∀ (S : Nat → Prop) (W : World), Upd S w W → (∀ y, S y → P y) → VReads W W.heap.size v cs
theorem del_window6 {xs : List Value} {i j : Nat} (hx : (i + 1) * 6 ≤ xs.length) : ((xs.take (i * 6) ++ xs.drop ((i + 1) * 6)).drop (j * 6)).take 6 = (xs.drop ((if j < i then j else j + 1) * 6)).take 6 := by
  have hl : (xs.take (i * 6)).length = i * 6 := by rw [List.length_take]; omega
  by_cases h : j < i
  · rw [if_pos h, List.drop_append_of_le_length (by omega), List.take_append_of_le_length (by rw [List.length_drop]; omega), List.drop_take, List.take_take, Nat.min_eq_left (by omega)]
  · rw [if_neg h, List.drop_append, hl, List.drop_eq_nil_of_le (by omega), List.nil_append, List.drop_drop]
    congr 2
    omega
set_option maxHeartbeats 12800000 in
theorem cy_cut {w : World} {F : Nat → Prop} {g : Nat} {d : CliD} {r : RowsY} {j rc rs rn : Nat} {er k i : Int} {f : Nat} {s : ByteArray} {Av : Option Addr} {nv cv : Nat} {v : Val} (h : StubY w F g d r) (hv : VHeld w F v #[.int .i64 k, .int .i64 i, .float .f64 f, .string s, .slice Av nv cv]) (hok : OkV v) (hj : j < d.op.length) (hr4 : d.rp.length < 1000000) :
    Calls Try.prog 36 #[.pointer (some ⟨g, 0, none⟩), .int .i64 (j : Int), .agg #[.int .u32 (rc : Int), .int .u32 (rs : Int), .int .u16 (rn : Int), .int .i64 er, .int .i64 k, .int .i64 i, .float .f64 f, .string s, .slice Av nv cv]] w (fun e w' => e = .returned (.tuple #[]) ∧ CliY w w' F g ⟨d.id, d.seq, d.op.eraseIdx j, d.rp ++ [⟨rc, rs, rn, er, cleanV v⟩]⟩) := by
  have hsf := fun a k x m w => run_store_float (P := Try.prog) a k x m w
  obtain ⟨iL0, iL1, iL2, iL3, iL4⟩ := info_parts info_op
  obtain ⟨iA0, iA1, iA2, iA3, iA4⟩ := info_parts info_int
  obtain ⟨iB0, iB1, iB2, iB3, iB4⟩ := info_parts info_bool
  obtain ⟨iR0, iR1, iR2, iR3, iR4⟩ := info_parts info_reply
  obtain ⟨N, hN⟩ : ∃ q, d.op.length = q := ⟨_, rfl⟩
  obtain ⟨M, hM⟩ : ∃ q, d.rp.length = q := ⟨_, rfl⟩
  obtain ⟨n1, hn1⟩ : ∃ q, N - 1 = q := ⟨_, rfl⟩
  obtain ⟨I, hI⟩ : ∃ q, d.id = q := ⟨_, rfl⟩
  obtain ⟨Q, hQ⟩ : ∃ q, d.seq = q := ⟨_, rfl⟩
  have hone := h.one
  have hn4 := h.hn
  have hbgw := h.blk
  have howw := h.ho
  have haww := h.ha
  have hgww := h.hg
  have hrww := h.hr
  obtain ⟨ages, hages⟩ : ∃ q, agesR d.op = q := ⟨_, rfl⟩
  obtain ⟨nows, hnows⟩ : ∃ q, nowsR d.op = q := ⟨_, rfl⟩
  have hao := ages_one d.op
  have hno := nows_one d.op
  rw [hages] at haww hao
  rw [hnows] at hgww hno
  rw [hN, hM, hI, hQ] at hbgw
  rw [hN] at howw haww hgww hn4 hj
  rw [hM] at hrww hr4
  obtain ⟨gA, cur, hA, -⟩ := howw.open_s (by omega)
  obtain ⟨gA3, cur3, hA3, -⟩ := haww.open_s (by omega)
  obtain ⟨gA4, cur4, hA4, -⟩ := hgww.open_s (by omega)
  have hOgA : OwnR r g gA := .inr (.inl (by rw [hA]; rfl))
  have hOgA3 : OwnR r g gA3 := .inr (.inr (.inl (by rw [hA3]; rfl)))
  have hOgA4 : OwnR r g gA4 := .inr (.inr (.inr (.inl (by rw [hA4]; rfl))))
  have hOA2 : ∀ y, bOf r.A2 = some y → OwnR r g y := fun y hy => .inr (.inr (.inr (.inr hy)))
  have hltF : ∀ y, OwnR r g y → y < w.heap.size := fun y hy => h.ft y (h.fo y hy)
  have hggA : gA ≠ g := howw.ne_b hbgw (by decide) gA (by rw [hA]; rfl)
  have hggA3 : gA3 ≠ g := haww.ne_b hbgw (by decide) gA3 (by rw [hA3]; rfl)
  have hggA4 : gA4 ≠ g := hgww.ne_b hbgw (by decide) gA4 (by rw [hA4]; rfl)
  have hgA2 : ∀ y, bOf r.A2 = some y → y ≠ g := hrww.ne_b hbgw (by decide)
  have n34 : gA3 ≠ gA4 := fun e => haww.ne_own hgww (by decide) gA3 (by rw [hA3]; rfl) (by rw [hA4, e]; rfl)
  have nA3 : gA ≠ gA3 := fun e => howw.ne_own haww (by decide) gA (by rw [hA]; rfl) (by rw [hA3, e]; rfl)
  have nA4 : gA ≠ gA4 := fun e => howw.ne_own hgww (by decide) gA (by rw [hA]; rfl) (by rw [hA4, e]; rfl)
  have nA2 : ∀ y, bOf r.A2 = some y → y ≠ gA := fun y hy e => howw.ne_own hrww (by decide) gA (by rw [hA]; rfl) (by rw [← e]; exact hy)
  have nA32 : ∀ y, bOf r.A2 = some y → y ≠ gA3 := fun y hy e => haww.ne_own hrww (by decide) gA3 (by rw [hA3]; rfl) (by rw [← e]; exact hy)
  have nA42 : ∀ y, bOf r.A2 = some y → y ≠ gA4 := fun y hy e => hgww.ne_own hrww (by decide) gA4 (by rw [hA4]; rfl) (by rw [← e]; exact hy)
  rw [hA] at hbgw howw
  rw [hA3] at hbgw haww
  rw [hA4] at hbgw hgww
  have hfinA : ∀ y, bOf r.A = some y ↔ y = gA := fun y => by rw [hA]; exact ⟨fun e => (Option.some.inj e).symm, fun e => by rw [e]; rfl⟩
  obtain ⟨p, hp⟩ : ∃ y, w.heap.size = y := ⟨_, rfl⟩
  have hcapL := howw.le_cap
  have hcapA := haww.le_cap
  have hcapG := hgww.le_cap
  obtain ⟨A2, hA2⟩ : ∃ q, r.A2 = q := ⟨_, rfl⟩
  obtain ⟨c, hc⟩ : ∃ q, r.c = q := ⟨_, rfl⟩
  obtain ⟨c3, hc3⟩ : ∃ q, r.c3 = q := ⟨_, rfl⟩
  obtain ⟨c4, hc4⟩ : ∃ q, r.c4 = q := ⟨_, rfl⟩
  obtain ⟨c2, hc2⟩ : ∃ q, r.c2 = q := ⟨_, rfl⟩
  obtain ⟨xs, hxs⟩ : ∃ q, r.xs = q := ⟨_, rfl⟩
  obtain ⟨xs2, hxs2⟩ : ∃ q, r.xs2 = q := ⟨_, rfl⟩
  rw [hA2] at hOA2 hgA2 nA2 nA32 nA42 hrww hbgw
  rw [hc] at howw hcapL hbgw
  rw [hc3] at haww hcapA hbgw
  rw [hc4] at hgww hcapG hbgw
  rw [hc2] at hrww hbgw
  rw [hxs] at howw hone
  rw [hxs2] at hrww
  have hb1 := (Below.refl w.heap.size w).alloc (Nat.le_refl _) (.cells #[.int .u32 (rc : Int), .int .u32 (rs : Int), .int .u16 (rn : Int), .int .i64 er, .int .i64 k, .int .i64 i, .float .f64 f, .string s, .slice Av nv cv] 39)
  have hxw1 := Blk.new w 39 #[.int .u32 (rc : Int), .int .u32 (rs : Int), .int .u16 (rn : Int), .int .i64 er, .int .i64 k, .int .i64 i, .float .f64 f, .string s, .slice Av nv cv]
  have hpg : ¬ p = g := fun e => by have := hltF g (.inl rfl); omega
  have hpgA : ¬ p = gA := fun e => by have := hltF gA hOgA; omega
  have hpgA3 : ¬ p = gA3 := fun e => by have := hltF gA3 hOgA3; omega
  have hpgA4 : ¬ p = gA4 := fun e => by have := hltF gA4 hOgA4; omega
  have hpA2 : ∀ y, bOf A2 = some y → y ≠ p := fun y hy e => by have := hltF y (hOA2 y hy); omega
  rw [hp] at hxw1
  have hj0 : (0 : Int) ≤ (j : Int) := by omega
  have hjj : (j : Int) ≤ (j : Int) := Int.le_refl _
  have b1 : (j : Int) + 1 ≤ (N : Int) := by omega
  have b6 : j + 1 ≤ N := by omega
  have b8 : (0 : Int) ≤ (j : Int) + 1 := by omega
  have b9 : ((j : Int) + 1).toNat = j + 1 := by omega
  have b10 : j ≤ N := by omega
  have wj : IntKind.i64.wrap ((j : Int) + 1) = (j : Int) + 1 := by rw [IntKind.wrap_i64]; omega
  have hfo := h.fo
  have hagesE : agesR (d.op.eraseIdx j) = ages.take (j * 1) ++ ages.drop ((j + 1) * 1) := by
    rw [← hages]; unfold agesR; rw [List.eraseIdx_eq_take_drop_succ, List.map_append, List.map_take, List.map_drop, Nat.mul_one, Nat.mul_one]
  have hnowsE : nowsR (d.op.eraseIdx j) = nows.take (j * 1) ++ nows.drop ((j + 1) * 1) := by
    rw [← hnows]; unfold nowsR; rw [List.eraseIdx_eq_take_drop_succ, List.map_append, List.map_take, List.map_drop, Nat.mul_one, Nat.mul_one]
  replace hagesE := Lib.hid hagesE
  replace hnowsE := Lib.hid hnowsE
  replace hfo := Lib.hid hfo
  replace hv := Lib.hid hv
  replace h := Lib.hid h
  replace hltF := Lib.hid hltF
  go_enter Try.func36, Try.ntmps36
  go_upto_region 1 with (fail)
  have hUw1 : Upd (OwnR r g) w (w.alloc (.cells #[.int .u32 (rc : Int), .int .u32 (rs : Int), .int .u16 (rn : Int), .int .i64 er, .int .i64 k, .int .i64 i, .float .f64 f, .string s, .slice Av nv cv] 39)) := Upd.of_below_size hb1
  have hbgw1 := hbgw.below hb1 (hltF.out g (.inl rfl))
  have ownLw1 := howw.below hb1 (Nat.le_refl _)
  have ownAw1 := haww.below hb1 (Nat.le_refl _)
  have ownGw1 := hgww.below hb1 (Nat.le_refl _)
  have ownDw1 := hrww.below hb1 (Nat.le_refl _)
  generalize w.alloc (.cells #[.int .u32 (rc : Int), .int .u32 (rs : Int), .int .u16 (rn : Int), .int .i64 er, .int .i64 k, .int .i64 i, .float .f64 f, .string s, .slice Av nv cv] 39) = w1 at *
  try rw [hp]
  clear hbgw howw haww hgww hrww
  have hSz2 : Blk w1.drew g 52 #[.int .u32 (I : Int), .int .u32 (Q : Int), (.slice (some ⟨gA, 0, none⟩) N c), (.slice (some ⟨gA3, 0, none⟩) N c3), (.slice (some ⟨gA4, 0, none⟩) N c4), (.slice A2 M c2)] := (hbgw1).drewN 1
  have b2z2 : (j : Int) ≤ (c : Int) := by omega
  have b3z2 : j ≤ c := by omega
  have b4z2 : (N : Int) ≤ (c : Int) := by omega
  have b5z2 : N ≤ c := by omega
  refine wp_region_lex (fun W => Blk W g 52 #[.int .u32 (I : Int), .int .u32 (Q : Int), (.slice (some ⟨gA, 0, none⟩) N c), (.slice (some ⟨gA3, 0, none⟩) N c3), (.slice (some ⟨gA4, 0, none⟩) N c4), (.slice A2 M c2)]) [4, 11] [15, 18] [0, 1, 2, 3, 4, 5, 6, 7, 8, 9, 10, 11, 12, 13, 14, 15, 16, 17, 18] (by kernel_rfl) rfl (by kernel_rfl) (by kernel_rfl) (fun _ _ d _ _ h => by cases d <;> exact h) ?_
  repeat (first | (refine lexG_take _ ?_ rfl rfl rfl rfl (fun _ => ?_) ?_; rotate_left; (focus (go_simp; with_reducible rfl)); try simp only [Act.put, List.setIfInBounds_toArray, List.set_cons_zero, List.set_cons_succ]) | (refine lexG_held _ ?_ rfl rfl rfl rfl (by assumption) (fun _ hSw => ?_) ?_; rotate_left; (focus (have h1 := hSw.cell 2; clear hSw; go_simp; with_reducible rfl)); try simp only [Act.put, List.setIfInBounds_toArray, List.set_cons_zero, List.set_cons_succ]) | (refine lexG_skip _ rfl rfl (by assumption) ?_; try simp only [Act.put, List.setIfInBounds_toArray, List.set_cons_zero, List.set_cons_succ]))
  have hsrcz2 := (ownLw1.reads_.cut (k := j + 1) (cap := c) (by omega) (by omega)).drew
  have eAz2 : (if c = j + 1 then some (⟨gA, 0, none⟩ : Addr) else Option.map (fun x : Addr => x.add ((j + 1) * 6)) (some (⟨gA, 0, none⟩ : Addr))) = (if c = j + 1 then some (⟨gA, 0, none⟩ : Addr) else some (⟨gA, (j + 1) * 6, none⟩ : Addr)) := by
    split
    · rfl
    · simp [Addr.add]
  rw [eAz2] at hsrcz2
  clear eAz2
  generalize (if c = j + 1 then some (⟨gA, 0, none⟩ : Addr) else some (⟨gA, (j + 1) * 6, none⟩ : Addr)) = AAz2 at *
  have hownz2 := ((ownLw1.first (k := j) (by omega)).clip (Nat.le_refl j) (by omega)).drew
  refine lexG_now _ rfl rfl rfl (fun K0 hK => ?_)
  refine wp_append_mine _ _ 42 42 rfl 62 iL0 _ 6 72 Try.underlying42 iL1 iL2 iL3 iL4 rfl rfl hownz2 rfl (Src.ofReads Try.underlying42 _ hsrcz2 (fun u hu => hone u (List.mem_of_mem_drop hu))) (by unfold maxLen; omega) (by omega) (fun A8 c8 w8 ho8 hg8 hat8 => ?_)
  have eNz2 : j + (N - (j + 1)) = n1 := by omega
  rw [eNz2] at ho8 ⊢
  have hu8 : Upd (fun z => z = gA) w1 w8 := (Upd.of_below_size (Below.refl w1.heap.size w1).drew).grown hg8 (fun y e _ => (Option.some.inj e).symm)
  have hA8 : ∀ y, bOf A8 = some y → y = gA ∨ w.heap.size ≤ y := fun y hy => by
    rcases hat8 with e | e
    · rw [e] at hy; exact .inl (Option.some.inj hy).symm
    · have h1 : w1.drew.heap.size = y := by rw [e] at hy; injection hy
      have h2 : w1.drew.heap.size = w1.heap.size := rfl
      have h3 := hUw1.size
      exact .inr (by omega)
  have hbg8 := hbgw1.upd hu8 (fun e => hggA e.symm)
  refine hK _ _ _ (fun _ h => h) hbg8 ?_
  clear hK K0
  try simp only [Act.put, List.setIfInBounds_toArray, List.set_cons_zero, List.set_cons_succ]
  repeat (first | (refine lexG_take _ ?_ rfl rfl rfl rfl (fun _ => ?_) ?_; rotate_left; (focus (go_simp; with_reducible rfl)); try simp only [Act.put, List.setIfInBounds_toArray, List.set_cons_zero, List.set_cons_succ]) | (refine lexG_held _ ?_ rfl rfl rfl rfl (by assumption) (fun _ hSw => ?_) ?_; rotate_left; (focus (have h1 := hSw.cell 2; clear hSw; go_simp; with_reducible rfl)); try simp only [Act.put, List.setIfInBounds_toArray, List.set_cons_zero, List.set_cons_succ]) | (refine lexG_skip _ rfl rfl (by assumption) ?_; try simp only [Act.put, List.setIfInBounds_toArray, List.set_cons_zero, List.set_cons_succ]))
  have kz2 := hbg8.cell 2
  have fz2 := hbg8.frozen 2
  refine lexG_nowF _ rfl rfl rfl (by kernel_rfl) (fun K0 hK => ?_)
  go_wp2_with fail
  try simp only [Act.put, List.setIfInBounds_toArray, List.set_cons_zero, List.set_cons_succ]
  refine lexG_nil ?_
  go_upto_region 2 with (fail)
  have hbgw2 : Blk (w8.setCell ⟨g, 2, none⟩ (.slice A8 n1 c8)) g 52 #[.int .u32 (I : Int), .int .u32 (Q : Int), (.slice A8 n1 c8), (.slice (some ⟨gA3, 0, none⟩) N c3), (.slice (some ⟨gA4, 0, none⟩) N c4), (.slice A2 M c2)] := hbg8.set_ 2 _
  have hu9 : Upd (fun z => z = g) w8 (w8.setCell ⟨g, 2, none⟩ (.slice A8 n1 c8)) := (Upd.refl (fun z => z = g) w8).setCell (p := ⟨g, 2, none⟩) (fun _ => rfl) _
  have hnez2 := ho8.ne_b hbg8 (by decide)
  have ownA8w2 := ho8.upd hu9 (fun y hy e => hnez2 y hy e)
  have huw2 : Upd (fun z => z = g ∨ z = gA) w1 (w8.setCell ⟨g, 2, none⟩ (.slice A8 n1 c8)) := (hu8.mono (fun _ _ e => .inr e)).trans (hu9.mono (fun _ _ e => .inl e)) (fun _ _ e => e)
  generalize w8.setCell ⟨g, 2, none⟩ (.slice A8 n1 c8) = w2 at *
  have ownAw2 := ownAw1.upd (huw2) (fun y hy e => by cases hy; rcases e with e | e; exact hggA3 e; exact nA3 e.symm)
  have ownGw2 := ownGw1.upd (huw2) (fun y hy e => by cases hy; rcases e with e | e; exact hggA4 e; exact nA4 e.symm)
  have ownDw2 := ownDw1.upd (huw2) (fun y hy e => by rcases e with e | e; exact hgA2 y hy e; exact nA2 y hy e)
  have hUw2 : Upd (OwnR r g) w w2 := hUw1.trans huw2 (fun y _ e => by rcases e with e | e <;> subst e; exact .inl rfl; exact hOgA)
  have hxw2 := hxw1.upd huw2 (fun e => by rcases e with e | e; exact hpg e; exact hpgA e)
  clear hSz2 hsrcz2 hownz2 kz2 fz2 hbg8 hu8 hu9 ho8 hg8 hat8 hbgw1 hxw1 b2z2 b3z2 b4z2 b5z2
  clear ownLw1
  have hSz3 : Blk w2.drew g 52 #[.int .u32 (I : Int), .int .u32 (Q : Int), (.slice A8 n1 c8), (.slice (some ⟨gA3, 0, none⟩) N c3), (.slice (some ⟨gA4, 0, none⟩) N c4), (.slice A2 M c2)] := (hbgw2).drewN 1
  have b2z3 : (j : Int) ≤ (c3 : Int) := by omega
  have b3z3 : j ≤ c3 := by omega
  have b4z3 : (N : Int) ≤ (c3 : Int) := by omega
  have b5z3 : N ≤ c3 := by omega
  refine wp_region_lex (fun W => Blk W g 52 #[.int .u32 (I : Int), .int .u32 (Q : Int), (.slice A8 n1 c8), (.slice (some ⟨gA3, 0, none⟩) N c3), (.slice (some ⟨gA4, 0, none⟩) N c4), (.slice A2 M c2)]) [4, 11] [15, 18] [0, 1, 2, 3, 4, 5, 6, 7, 8, 9, 10, 11, 12, 13, 14, 15, 16, 17, 18] (by kernel_rfl) rfl (by kernel_rfl) (by kernel_rfl) (fun _ _ d _ _ h => by cases d <;> exact h) ?_
  repeat (first | (refine lexG_take _ ?_ rfl rfl rfl rfl (fun _ => ?_) ?_; rotate_left; (focus (go_simp; with_reducible rfl)); try simp only [Act.put, List.setIfInBounds_toArray, List.set_cons_zero, List.set_cons_succ]) | (refine lexG_held _ ?_ rfl rfl rfl rfl (by assumption) (fun _ hSw => ?_) ?_; rotate_left; (focus (have h1 := hSw.cell 3; clear hSw; go_simp; with_reducible rfl)); try simp only [Act.put, List.setIfInBounds_toArray, List.set_cons_zero, List.set_cons_succ]) | (refine lexG_skip _ rfl rfl (by assumption) ?_; try simp only [Act.put, List.setIfInBounds_toArray, List.set_cons_zero, List.set_cons_succ]))
  have hsrcz3 := (ownAw2.reads_.cut (k := j + 1) (cap := c3) (by omega) (by omega)).drew
  have eAz3 : (if c3 = j + 1 then some (⟨gA3, 0, none⟩ : Addr) else Option.map (fun x : Addr => x.add ((j + 1) * 1)) (some (⟨gA3, 0, none⟩ : Addr))) = (if c3 = j + 1 then some (⟨gA3, 0, none⟩ : Addr) else some (⟨gA3, j + 1, none⟩ : Addr)) := by
    split
    · rfl
    · simp [Addr.add]
  rw [eAz3] at hsrcz3
  clear eAz3
  generalize (if c3 = j + 1 then some (⟨gA3, 0, none⟩ : Addr) else some (⟨gA3, j + 1, none⟩ : Addr)) = AAz3 at *
  have hownz3 := ((ownAw2.first (k := j) (by omega)).clip (Nat.le_refl j) (by omega)).drew
  refine lexG_now _ rfl rfl rfl (fun K0 hK => ?_)
  refine wp_append_mine _ _ 49 49 rfl 3 iA0 _ 1 8 Try.underlying49 iA1 iA2 iA3 iA4 rfl rfl hownz3 rfl (Src.ofReads Try.underlying49 _ hsrcz3 (fun u hu => hao u (List.mem_of_mem_drop hu))) (by unfold maxLen; omega) (by omega) (fun A9 c9 w8 ho8 hg8 hat8 => ?_)
  have eNz3 : j + (N - (j + 1)) = n1 := by omega
  rw [eNz3] at ho8 ⊢
  have hu8 : Upd (fun z => z = gA3) w2 w8 := (Upd.of_below_size (Below.refl w2.heap.size w2).drew).grown hg8 (fun y e _ => (Option.some.inj e).symm)
  have hA9 : ∀ y, bOf A9 = some y → y = gA3 ∨ w.heap.size ≤ y := fun y hy => by
    rcases hat8 with e | e
    · rw [e] at hy; exact .inl (Option.some.inj hy).symm
    · have h1 : w2.drew.heap.size = y := by rw [e] at hy; injection hy
      have h2 : w2.drew.heap.size = w2.heap.size := rfl
      have h3 := hUw2.size
      exact .inr (by omega)
  have hbg8 := hbgw2.upd hu8 (fun e => hggA3 e.symm)
  refine hK _ _ _ (fun _ h => h) hbg8 ?_
  clear hK K0
  try simp only [Act.put, List.setIfInBounds_toArray, List.set_cons_zero, List.set_cons_succ]
  repeat (first | (refine lexG_take _ ?_ rfl rfl rfl rfl (fun _ => ?_) ?_; rotate_left; (focus (go_simp; with_reducible rfl)); try simp only [Act.put, List.setIfInBounds_toArray, List.set_cons_zero, List.set_cons_succ]) | (refine lexG_held _ ?_ rfl rfl rfl rfl (by assumption) (fun _ hSw => ?_) ?_; rotate_left; (focus (have h1 := hSw.cell 3; clear hSw; go_simp; with_reducible rfl)); try simp only [Act.put, List.setIfInBounds_toArray, List.set_cons_zero, List.set_cons_succ]) | (refine lexG_skip _ rfl rfl (by assumption) ?_; try simp only [Act.put, List.setIfInBounds_toArray, List.set_cons_zero, List.set_cons_succ]))
  have kz3 := hbg8.cell 3
  have fz3 := hbg8.frozen 3
  refine lexG_nowF _ rfl rfl rfl (by kernel_rfl) (fun K0 hK => ?_)
  go_wp2_with fail
  try simp only [Act.put, List.setIfInBounds_toArray, List.set_cons_zero, List.set_cons_succ]
  refine lexG_nil ?_
  go_upto_region 3 with (fail)
  have hbgw3 : Blk (w8.setCell ⟨g, 3, none⟩ (.slice A9 n1 c9)) g 52 #[.int .u32 (I : Int), .int .u32 (Q : Int), (.slice A8 n1 c8), (.slice A9 n1 c9), (.slice (some ⟨gA4, 0, none⟩) N c4), (.slice A2 M c2)] := hbg8.set_ 3 _
  have hu9 : Upd (fun z => z = g) w8 (w8.setCell ⟨g, 3, none⟩ (.slice A9 n1 c9)) := (Upd.refl (fun z => z = g) w8).setCell (p := ⟨g, 3, none⟩) (fun _ => rfl) _
  have hnez3 := ho8.ne_b hbg8 (by decide)
  have ownA9w3 := ho8.upd hu9 (fun y hy e => hnez3 y hy e)
  have huw3 : Upd (fun z => z = g ∨ z = gA3) w2 (w8.setCell ⟨g, 3, none⟩ (.slice A9 n1 c9)) := (hu8.mono (fun _ _ e => .inr e)).trans (hu9.mono (fun _ _ e => .inl e)) (fun _ _ e => e)
  generalize w8.setCell ⟨g, 3, none⟩ (.slice A9 n1 c9) = w3 at *
  have ownA8w3 := ownA8w2.upd (huw3) (fun y hy e => by rcases hA8 y hy with e1 | e1 <;> rcases e with e | e; exact hggA (e1.symm.trans e); exact nA3 (e1.symm.trans e); (have := hltF.out g (.inl rfl); omega); (have := hltF.out gA3 hOgA3; omega))
  have ownGw3 := ownGw2.upd (huw3) (fun y hy e => by cases hy; rcases e with e | e; exact hggA4 e; exact n34 e.symm)
  have ownDw3 := ownDw2.upd (huw3) (fun y hy e => by rcases e with e | e; exact hgA2 y hy e; exact nA32 y hy e)
  have hUw3 : Upd (OwnR r g) w w3 := hUw2.trans huw3 (fun y _ e => by rcases e with e | e <;> subst e; exact .inl rfl; exact hOgA3)
  have hxw3 := hxw2.upd huw3 (fun e => by rcases e with e | e; exact hpg e; exact hpgA3 e)
  clear hSz3 hsrcz3 hownz3 kz3 fz3 hbg8 hu8 hu9 ho8 hg8 hat8 hbgw2 hxw2 b2z3 b3z3 b4z3 b5z3
  clear ownAw2 ownA8w2 ownGw2 ownDw2
  have hSz4 : Blk w3.drew g 52 #[.int .u32 (I : Int), .int .u32 (Q : Int), (.slice A8 n1 c8), (.slice A9 n1 c9), (.slice (some ⟨gA4, 0, none⟩) N c4), (.slice A2 M c2)] := (hbgw3).drewN 1
  have b2z4 : (j : Int) ≤ (c4 : Int) := by omega
  have b3z4 : j ≤ c4 := by omega
  have b4z4 : (N : Int) ≤ (c4 : Int) := by omega
  have b5z4 : N ≤ c4 := by omega
  refine wp_region_lex (fun W => Blk W g 52 #[.int .u32 (I : Int), .int .u32 (Q : Int), (.slice A8 n1 c8), (.slice A9 n1 c9), (.slice (some ⟨gA4, 0, none⟩) N c4), (.slice A2 M c2)]) [4, 11] [15, 18] [0, 1, 2, 3, 4, 5, 6, 7, 8, 9, 10, 11, 12, 13, 14, 15, 16, 17, 18] (by kernel_rfl) rfl (by kernel_rfl) (by kernel_rfl) (fun _ _ d _ _ h => by cases d <;> exact h) ?_
  repeat (first | (refine lexG_take _ ?_ rfl rfl rfl rfl (fun _ => ?_) ?_; rotate_left; (focus (go_simp; with_reducible rfl)); try simp only [Act.put, List.setIfInBounds_toArray, List.set_cons_zero, List.set_cons_succ]) | (refine lexG_held _ ?_ rfl rfl rfl rfl (by assumption) (fun _ hSw => ?_) ?_; rotate_left; (focus (have h1 := hSw.cell 4; clear hSw; go_simp; with_reducible rfl)); try simp only [Act.put, List.setIfInBounds_toArray, List.set_cons_zero, List.set_cons_succ]) | (refine lexG_skip _ rfl rfl (by assumption) ?_; try simp only [Act.put, List.setIfInBounds_toArray, List.set_cons_zero, List.set_cons_succ]))
  have hsrcz4 := (ownGw3.reads_.cut (k := j + 1) (cap := c4) (by omega) (by omega)).drew
  have eAz4 : (if c4 = j + 1 then some (⟨gA4, 0, none⟩ : Addr) else Option.map (fun x : Addr => x.add ((j + 1) * 1)) (some (⟨gA4, 0, none⟩ : Addr))) = (if c4 = j + 1 then some (⟨gA4, 0, none⟩ : Addr) else some (⟨gA4, j + 1, none⟩ : Addr)) := by
    split
    · rfl
    · simp [Addr.add]
  rw [eAz4] at hsrcz4
  clear eAz4
  generalize (if c4 = j + 1 then some (⟨gA4, 0, none⟩ : Addr) else some (⟨gA4, j + 1, none⟩ : Addr)) = AAz4 at *
  have hownz4 := ((ownGw3.first (k := j) (by omega)).clip (Nat.le_refl j) (by omega)).drew
  refine lexG_now _ rfl rfl rfl (fun K0 hK => ?_)
  refine wp_append_mine _ _ 50 50 rfl 4 iB0 _ 1 1 Try.underlying50 iB1 iB2 iB3 iB4 rfl rfl hownz4 rfl (Src.ofReads Try.underlying50 _ hsrcz4 (fun u hu => hno u (List.mem_of_mem_drop hu))) (by unfold maxLen; omega) (by omega) (fun A10 c10 w8 ho8 hg8 hat8 => ?_)
  have eNz4 : j + (N - (j + 1)) = n1 := by omega
  rw [eNz4] at ho8 ⊢
  have hu8 : Upd (fun z => z = gA4) w3 w8 := (Upd.of_below_size (Below.refl w3.heap.size w3).drew).grown hg8 (fun y e _ => (Option.some.inj e).symm)
  have hA10 : ∀ y, bOf A10 = some y → y = gA4 ∨ w.heap.size ≤ y := fun y hy => by
    rcases hat8 with e | e
    · rw [e] at hy; exact .inl (Option.some.inj hy).symm
    · have h1 : w3.drew.heap.size = y := by rw [e] at hy; injection hy
      have h2 : w3.drew.heap.size = w3.heap.size := rfl
      have h3 := hUw3.size
      exact .inr (by omega)
  have hbg8 := hbgw3.upd hu8 (fun e => hggA4 e.symm)
  refine hK _ _ _ (fun _ h => h) hbg8 ?_
  clear hK K0
  try simp only [Act.put, List.setIfInBounds_toArray, List.set_cons_zero, List.set_cons_succ]
  repeat (first | (refine lexG_take _ ?_ rfl rfl rfl rfl (fun _ => ?_) ?_; rotate_left; (focus (go_simp; with_reducible rfl)); try simp only [Act.put, List.setIfInBounds_toArray, List.set_cons_zero, List.set_cons_succ]) | (refine lexG_held _ ?_ rfl rfl rfl rfl (by assumption) (fun _ hSw => ?_) ?_; rotate_left; (focus (have h1 := hSw.cell 4; clear hSw; go_simp; with_reducible rfl)); try simp only [Act.put, List.setIfInBounds_toArray, List.set_cons_zero, List.set_cons_succ]) | (refine lexG_skip _ rfl rfl (by assumption) ?_; try simp only [Act.put, List.setIfInBounds_toArray, List.set_cons_zero, List.set_cons_succ]))
  have kz4 := hbg8.cell 4
  have fz4 := hbg8.frozen 4
  refine lexG_nowF _ rfl rfl rfl (by kernel_rfl) (fun K0 hK => ?_)
  go_wp2_with fail
  try simp only [Act.put, List.setIfInBounds_toArray, List.set_cons_zero, List.set_cons_succ]
  refine lexG_nil ?_
  go_upto_region 4 with (fail)
  have hbgw4 : Blk (w8.setCell ⟨g, 4, none⟩ (.slice A10 n1 c10)) g 52 #[.int .u32 (I : Int), .int .u32 (Q : Int), (.slice A8 n1 c8), (.slice A9 n1 c9), (.slice A10 n1 c10), (.slice A2 M c2)] := hbg8.set_ 4 _
  have hu9 : Upd (fun z => z = g) w8 (w8.setCell ⟨g, 4, none⟩ (.slice A10 n1 c10)) := (Upd.refl (fun z => z = g) w8).setCell (p := ⟨g, 4, none⟩) (fun _ => rfl) _
  have hnez4 := ho8.ne_b hbg8 (by decide)
  have ownA10w4 := ho8.upd hu9 (fun y hy e => hnez4 y hy e)
  have huw4 : Upd (fun z => z = g ∨ z = gA4) w3 (w8.setCell ⟨g, 4, none⟩ (.slice A10 n1 c10)) := (hu8.mono (fun _ _ e => .inr e)).trans (hu9.mono (fun _ _ e => .inl e)) (fun _ _ e => e)
  generalize w8.setCell ⟨g, 4, none⟩ (.slice A10 n1 c10) = w4 at *
  have ownA8w4 := ownA8w3.upd (huw4) (fun y hy e => by rcases hA8 y hy with e1 | e1 <;> rcases e with e | e; exact hggA (e1.symm.trans e); exact nA4 (e1.symm.trans e); (have := hltF.out g (.inl rfl); omega); (have := hltF.out gA4 hOgA4; omega))
  have ownA9w4 := ownA9w3.upd (huw4) (fun y hy e => by rcases hA9 y hy with e1 | e1 <;> rcases e with e | e; exact hggA3 (e1.symm.trans e); exact n34 (e1.symm.trans e); (have := hltF.out g (.inl rfl); omega); (have := hltF.out gA4 hOgA4; omega))
  have ownDw4 := ownDw3.upd (huw4) (fun y hy e => by rcases e with e | e; exact hgA2 y hy e; exact nA42 y hy e)
  have hUw4 : Upd (OwnR r g) w w4 := hUw3.trans huw4 (fun y _ e => by rcases e with e | e <;> subst e; exact .inl rfl; exact hOgA4)
  have hxw4 := hxw3.upd huw4 (fun e => by rcases e with e | e; exact hpg e; exact hpgA4 e)
  clear hSz4 hsrcz4 hownz4 kz4 fz4 hbg8 hu8 hu9 ho8 hg8 hat8 hbgw3 hxw3 b2z4 b3z4 b4z4 b5z4
  clear ownGw3 ownA8w3 ownA9w3 ownDw3
  have nA8 : ∀ y, bOf A8 = some y → ¬ (y = g ∨ y = p ∨ bOf A2 = some y) := fun y hy e => by
    rcases e with e | e | e
    · exact ownA8w4.ne_b hbgw4 (by decide) y hy e
    · exact ownA8w4.ne_b hxw4 (by decide) y hy e
    · exact ownA8w4.ne_own ownDw4 (by decide) y hy e
  have nA9 : ∀ y, bOf A9 = some y → ¬ (y = g ∨ y = p ∨ bOf A2 = some y) := fun y hy e => by
    rcases e with e | e | e
    · exact ownA9w4.ne_b hbgw4 (by decide) y hy e
    · exact ownA9w4.ne_b hxw4 (by decide) y hy e
    · exact ownA9w4.ne_own ownDw4 (by decide) y hy e
  have nA10 : ∀ y, bOf A10 = some y → ¬ (y = g ∨ y = p ∨ bOf A2 = some y) := fun y hy e => by
    rcases e with e | e | e
    · exact ownA10w4.ne_b hbgw4 (by decide) y hy e
    · exact ownA10w4.ne_b hxw4 (by decide) y hy e
    · exact ownA10w4.ne_own ownDw4 (by decide) y hy e
  have ltA8 : ∀ y, bOf A8 = some y → y < w4.heap.size := fun y hy => ownA8w4.lt hy
  have ltA9 : ∀ y, bOf A9 = some y → y < w4.heap.size := fun y hy => ownA9w4.lt hy
  have ltA10 : ∀ y, bOf A10 = some y → y < w4.heap.size := fun y hy => ownA10w4.lt hy
  have ltA2 : ∀ y, bOf A2 = some y → y < w.heap.size := fun y hy => hltF.out y (hOA2 y hy)
  have hs4 := hUw4.size
  have hpl := hxw4.lt
  have hv4 := hv.out (OwnR r g) w4 hUw4 (fun y hy => hfo.out y hy)
  have hcl := ref_clean_s hv4 w4 (short_of_ok hok) (Below.refl _ _) (Nat.le_refl _)
  have p4 := hxw4.cell 4
  have p5 := hxw4.cell 5
  have p6 := hxw4.cell 6
  have p7 := hxw4.cell 7
  have p8 := hxw4.cell 8
  replace hcl := Lib.hid hcl
  replace hv4 := Lib.hid hv4
  replace nA8 := Lib.hid nA8
  replace nA9 := Lib.hid nA9
  replace nA10 := Lib.hid nA10
  replace hA8 := Lib.hid hA8
  replace hA9 := Lib.hid hA9
  replace hA10 := Lib.hid hA10
  replace ownA8w4 := Lib.hid ownA8w4
  replace ownA9w4 := Lib.hid ownA9w4
  replace ownA10w4 := Lib.hid ownA10w4
  replace hUw4 := Lib.hid hUw4
  clear huw2 huw3 huw4 hUw1 hUw2 hUw3
  go_wp2_with fail
  refine hcl.out.mono ?_
  clear hcl
  rintro e w5 ⟨cs5, rfl, hv5, hb45⟩
  obtain ⟨k', i', f', s', Av', nv', cv', rfl⟩ := hv5.reads.form
  try dsimp only
  have hx5 := hxw4.below hb45 hxw4.lt
  have hbg5 := hbgw4.below hb45 hbgw4.lt
  have hD5 := ownDw4.below hb45 (Nat.le_refl _)
  clear p4 p5 p6 p7 p8 hxw4 hbgw4 ownDw4
  have p4 := hx5.cell 4
  have p5 := hx5.cell 5
  have p6 := hx5.cell 6
  have p7 := hx5.cell 7
  have p8 := hx5.cell 8
  have f4 := hx5.frozen 4
  have f5 := hx5.frozen 5
  have f6 := hx5.frozen 6
  have f7 := hx5.frozen 7
  have f8 := hx5.frozen 8
  replace hv5 := Lib.hid hv5
  go_upto_region 5 with (fail)
  have hx6 : Blk (((((w5.setCell ⟨p, 4, none⟩ (.int .i64 k')).setCell ⟨p, 5, none⟩ (.int .i64 i')).setCell ⟨p, 6, none⟩ (.float .f64 f')).setCell ⟨p, 7, none⟩ (.string s')).setCell ⟨p, 8, none⟩ (.slice Av' nv' cv')) p 39 #[.int .u32 (rc : Int), .int .u32 (rs : Int), .int .u16 (rn : Int), .int .i64 er, .int .i64 k', .int .i64 i', .float .f64 f', .string s', .slice Av' nv' cv'] := (((((hx5.set_ 4 (.int .i64 k')).set_ 5 (.int .i64 i')).set_ 6 (.float .f64 f')).set_ 7 (.string s')).set_ 8 (.slice Av' nv' cv'))
  have u6 : Upd (fun z => z = p) w5 (((((w5.setCell ⟨p, 4, none⟩ (.int .i64 k')).setCell ⟨p, 5, none⟩ (.int .i64 i')).setCell ⟨p, 6, none⟩ (.float .f64 f')).setCell ⟨p, 7, none⟩ (.string s')).setCell ⟨p, 8, none⟩ (.slice Av' nv' cv')) := ((((((Upd.refl (fun z => z = p) w5).setCell (p := ⟨p, 4, none⟩) (fun _ => rfl) (.int .i64 k')).setCell (p := ⟨p, 5, none⟩) (fun _ => rfl) (.int .i64 i')).setCell (p := ⟨p, 6, none⟩) (fun _ => rfl) (.float .f64 f')).setCell (p := ⟨p, 7, none⟩) (fun _ => rfl) (.string s')).setCell (p := ⟨p, 8, none⟩) (fun _ => rfl) (.slice Av' nv' cv'))
  generalize (((((w5.setCell ⟨p, 4, none⟩ (.int .i64 k')).setCell ⟨p, 5, none⟩ (.int .i64 i')).setCell ⟨p, 6, none⟩ (.float .f64 f')).setCell ⟨p, 7, none⟩ (.string s')).setCell ⟨p, 8, none⟩ (.slice Av' nv' cv')) = w6 at *
  clear p4 p5 p6 p7 p8 f4 f5 f6 f7 f8 hx5
  have hbg6 := hbg5.upd u6 (fun e => hpg e.symm)
  have hD6 := hD5.upd u6 (fun y hy e => hpA2 y hy e)
  have hS0 : Blk w6.drew g 52 #[.int .u32 (I : Int), .int .u32 (Q : Int), (.slice A8 n1 c8), (.slice A9 n1 c9), (.slice A10 n1 c10), (.slice A2 M c2)] ∧ Blk w6.drew p 39 #[.int .u32 (rc : Int), .int .u32 (rs : Int), .int .u16 (rn : Int), .int .i64 er, .int .i64 k', .int .i64 i', .float .f64 f', .string s', .slice Av' nv' cv'] := ⟨hbg6.drewN 1, hx6.drewN 1⟩
  clear hbg5 hD5
  refine wp_region_lex (fun W => Blk W g 52 #[.int .u32 (I : Int), .int .u32 (Q : Int), (.slice A8 n1 c8), (.slice A9 n1 c9), (.slice A10 n1 c10), (.slice A2 M c2)] ∧ Blk W p 39 #[.int .u32 (rc : Int), .int .u32 (rs : Int), .int .u16 (rn : Int), .int .i64 er, .int .i64 k', .int .i64 i', .float .f64 f', .string s', .slice Av' nv' cv']) [4, 5] [6, 7, 10] [0, 1, 2, 3, 4, 5, 6, 7, 8, 9, 10] (by kernel_rfl) rfl (by kernel_rfl) (by kernel_rfl) (fun _ _ d _ _ h => by cases d <;> exact h) ?_
  repeat (first | (refine lexG_take _ ?_ rfl rfl rfl rfl (fun _ => ?_) ?_; rotate_left; (focus (go_simp; with_reducible rfl)); try simp only [Act.put, List.setIfInBounds_toArray, List.set_cons_zero, List.set_cons_succ]) | (refine lexG_held _ ?_ rfl rfl rfl rfl (by assumption) (fun _ hSw => ?_) ?_; rotate_left; (focus (have h1 := hSw.1.cell 5; have h2 := hSw.2.cells9; clear hSw; go_simp; with_reducible rfl)); try simp only [Act.put, List.setIfInBounds_toArray, List.set_cons_zero, List.set_cons_succ]) | (refine lexG_skip _ rfl rfl (by assumption) ?_; try simp only [Act.put, List.setIfInBounds_toArray, List.set_cons_zero, List.set_cons_succ]))
  have hsrc := (Reads.lit (size := 9) w6 #[.int .u32 (rc : Int), .int .u32 (rs : Int), .int .u16 (rn : Int), .int .i64 er, .int .i64 k', .int .i64 i', .float .f64 f', .string s', .slice Av' nv' cv'] 39 (0, 0) 1 [.int .u32 (rc : Int), .int .u32 (rs : Int), .int .u16 (rn : Int), .int .i64 er, .int .i64 k', .int .i64 i', .float .f64 f', .string s', .slice Av' nv' cv'] rfl rfl).drew
  have hb67 := ((Below.refl w6.heap.size w6).alloc (Nat.le_refl _) (.cells #[.int .u32 (rc : Int), .int .u32 (rs : Int), .int .u16 (rn : Int), .int .i64 er, .int .i64 k', .int .i64 i', .float .f64 f', .string s', .slice Av' nv' cv'] 39)).drew
  refine lexG_now _ rfl rfl rfl (fun K0 hK => ?_)
  go_wp2_with fail
  generalize (w6.alloc (.cells #[.int .u32 (rc : Int), .int .u32 (rs : Int), .int .u16 (rn : Int), .int .i64 er, .int .i64 k', .int .i64 i', .float .f64 f', .string s', .slice Av' nv' cv'] 39)).drew = w7 at *
  have hbg7 := hbg6.below hb67 hbg6.lt
  have hx7 := hx6.below hb67 hx6.lt
  have hD7 := hD6.below hb67 (Nat.le_refl _)
  refine hK _ _ _ (fun _ h => h) ⟨hbg7, hx7⟩ ?_
  clear hK K0
  try simp only [Act.put, List.setIfInBounds_toArray, List.set_cons_zero, List.set_cons_succ]
  repeat (first | (refine lexG_take _ ?_ rfl rfl rfl rfl (fun _ => ?_) ?_; rotate_left; (focus (go_simp; with_reducible rfl)); try simp only [Act.put, List.setIfInBounds_toArray, List.set_cons_zero, List.set_cons_succ]) | (refine lexG_held _ ?_ rfl rfl rfl rfl (by assumption) (fun _ hSw => ?_) ?_; rotate_left; (focus (have h1 := hSw.1.cell 5; have h2 := hSw.2.cells9; clear hSw; go_simp; with_reducible rfl)); try simp only [Act.put, List.setIfInBounds_toArray, List.set_cons_zero, List.set_cons_succ]) | (refine lexG_skip _ rfl rfl (by assumption) ?_; try simp only [Act.put, List.setIfInBounds_toArray, List.set_cons_zero, List.set_cons_succ]))
  refine lexG_now _ rfl rfl rfl (fun K0 hK => ?_)
  refine wp_append_mine _ _ 44 44 rfl 39 iR0 _ 9 88 Try.underlying44 iR1 iR2 iR3 iR4 rfl rfl hD7 rfl (Src.ofReads Try.underlying44 _ hsrc (by intro u hu; simp only [List.mem_cons, List.not_mem_nil, or_false] at hu; rcases hu with rfl | rfl | rfl | rfl | rfl | rfl | rfl | rfl | rfl <;> rfl)) (by unfold maxLen; omega) (by omega) (fun A11 c11 w8 ho8 hg8 hat8 => ?_)
  have hu8 : Upd (fun z => bOf A2 = some z) w7 w8 := (Upd.refl (fun z => bOf A2 = some z) _).grown hg8 (fun y e _ => e)
  have hbg8 := hbg7.upd hu8 (fun e => hgA2 g e rfl)
  have hx8 := hx7.upd hu8 (fun e => hpA2 p e rfl)
  refine hK _ _ _ (fun _ h => h) ⟨hbg8, hx8⟩ ?_
  clear hK K0
  try simp only [Act.put, List.setIfInBounds_toArray, List.set_cons_zero, List.set_cons_succ]
  repeat (first | (refine lexG_take _ ?_ rfl rfl rfl rfl (fun _ => ?_) ?_; rotate_left; (focus (go_simp; with_reducible rfl)); try simp only [Act.put, List.setIfInBounds_toArray, List.set_cons_zero, List.set_cons_succ]) | (refine lexG_held _ ?_ rfl rfl rfl rfl (by assumption) (fun _ hSw => ?_) ?_; rotate_left; (focus (have h1 := hSw.1.cell 5; have h2 := hSw.2.cells9; clear hSw; go_simp; with_reducible rfl)); try simp only [Act.put, List.setIfInBounds_toArray, List.set_cons_zero, List.set_cons_succ]) | (refine lexG_skip _ rfl rfl (by assumption) ?_; try simp only [Act.put, List.setIfInBounds_toArray, List.set_cons_zero, List.set_cons_succ]))
  have k5 := hbg8.cell 5
  have f5 := hbg8.frozen 5
  refine lexG_nowF _ rfl rfl rfl (by kernel_rfl) (fun K0 hK => ?_)
  go_wp2_with fail
  try simp only [Act.put, List.setIfInBounds_toArray, List.set_cons_zero, List.set_cons_succ]
  refine lexG_nil ?_
  have hbgE : Blk (w8.setCell ⟨g, 5, none⟩ (.slice A11 (M + 1) c11)) g 52 #[.int .u32 (I : Int), .int .u32 (Q : Int), (.slice A8 n1 c8), (.slice A9 n1 c9), (.slice A10 n1 c10), (.slice A11 (M + 1) c11)] := hbg8.set_ 5 _
  have u9 : Upd (fun z => z = g) w8 (w8.setCell ⟨g, 5, none⟩ (.slice A11 (M + 1) c11)) := (Upd.refl (fun z => z = g) w8).setCell (p := ⟨g, 5, none⟩) (fun _ => rfl) _
  have hneD := ho8.ne_b hbg8 (by decide)
  have hDE := ho8.upd u9 (fun y hy e => hneD y hy e)
  generalize w8.setCell ⟨g, 5, none⟩ (.slice A11 (M + 1) c11) = wE at *
  (try simp only [Exit.inBlock, Exit.then])
  refine bodyPost_end (results_none rfl _ _ _) rfl ?_
  refine ⟨rfl, ?_⟩
  have h' := h.out
  have s45 := hb45.size
  have s56 := u6.size
  have s67 := hb67.size
  have s78 := hu8.size
  have s8E := u9.size
  have hu4E : Upd (fun z => z = g ∨ z = p ∨ bOf A2 = some z) w4 wE := ((((Upd.of_below_size hb45).trans (u6.mono (T := fun z => z = g ∨ z = p ∨ bOf A2 = some z) (fun _ _ e => .inr (.inl e))) (fun _ _ e => e)).trans (Upd.of_below_size (S := fun z => z = g ∨ z = p ∨ bOf A2 = some z) hb67) (fun _ _ e => e)).trans (hu8.mono (T := fun z => z = g ∨ z = p ∨ bOf A2 = some z) (fun _ _ e => .inr (.inr e))) (fun _ _ e => e)).trans (u9.mono (T := fun z => z = g ∨ z = p ∨ bOf A2 = some z) (fun _ _ e => .inl e)) (fun _ _ e => e)
  have hu5E : Upd (fun z => z = g ∨ z = p ∨ bOf A2 = some z) w5 wE := (((u6.mono (T := fun z => z = g ∨ z = p ∨ bOf A2 = some z) (fun _ _ e => .inr (.inl e))).trans (Upd.of_below_size (S := fun z => z = g ∨ z = p ∨ bOf A2 = some z) hb67) (fun _ _ e => e)).trans (hu8.mono (T := fun z => z = g ∨ z = p ∨ bOf A2 = some z) (fun _ _ e => .inr (.inr e))) (fun _ _ e => e)).trans (u9.mono (T := fun z => z = g ∨ z = p ∨ bOf A2 = some z) (fun _ _ e => .inl e)) (fun _ _ e => e)
  have oL := ownA8w4.out.upd hu4E nA8.out
  have oA := ownA9w4.out.upd hu4E nA9.out
  have oG := ownA10w4.out.upd hu4E nA10.out
  have hUE : Upd (OwnR r g) w wE := hUw4.out.trans hu4E (fun y hy e => by
    rcases e with e | e | e
    · exact .inl e
    · omega
    · exact hOA2 y e)
  obtain ⟨r', hr'⟩ : ∃ q : RowsY, q = ⟨A8, c8, A9, c9, A10, c10, A11, c11, xs.take (j * 6) ++ xs.drop ((j + 1) * 6), xs2 ++ [.int .u32 (rc : Int), .int .u32 (rs : Int), .int .u16 (rn : Int), .int .i64 er, .int .i64 k', .int .i64 i', .float .f64 f', .string s', .slice Av' nv' cv'], fun q => r.css (if q < j then q else q + 1), fun q => if q = M then #[.int .i64 k', .int .i64 i', .float .f64 f', .string s', .slice Av' nv' cv'] else r.css2 q⟩ := ⟨_, rfl⟩
  have hO' : ∀ y, OwnR r' g y → y = g ∨ bOf A8 = some y ∨ bOf A9 = some y ∨ bOf A10 = some y ∨ bOf A11 = some y := fun y hy => by rw [hr'] at hy; exact hy
  have hOr : ∀ y, OwnR r' g y → OwnR r g y ∨ w.heap.size ≤ y := fun y hy => by
    rcases hO' y hy with e | e | e | e | e
    · exact .inl (.inl e)
    · rcases hA8.out y e with e | e
      · exact .inl (by rw [e]; exact hOgA)
      · exact .inr e
    · rcases hA9.out y e with e | e
      · exact .inl (by rw [e]; exact hOgA3)
      · exact .inr e
    · rcases hA10.out y e with e | e
      · exact .inl (by rw [e]; exact hOgA4)
      · exact .inr e
    · rcases hat8 with e2 | e2
      · exact .inl (hOA2 y (e2 ▸ e))
      · have h1 : w7.heap.size = y := by rw [e2] at e; injection e
        exact .inr (by omega)
  obtain ⟨hX, hR⟩ := h'.next hUE hOr
  have hlx := h'.ho.len
  rw [hxs, hN] at hlx
  have hlr := h'.hr.len
  rw [hxs2, hM] at hlr
  have hle : (d.op.eraseIdx j).length = n1 := by rw [List.length_eraseIdx, hN, if_pos hj]; exact hn1
  have hlp : (d.rp ++ [(⟨rc, rs, rn, er, cleanV v⟩ : RplD)]).length = M + 1 := by rw [List.length_append, hM]; rfl
  have hOlt : ∀ y, OwnR r' g y → y < wE.heap.size := fun y hy => by
    rcases hO' y hy with e | e | e | e | e
    · have := hltF.out g (.inl rfl); omega
    · have := ltA8 y e; omega
    · have := ltA9 y e; omega
    · have := ltA10 y e; omega
    · have := hDE.lt e; omega
  refine ⟨hUE.mono (fun y _ e => hfo.out y e), fun y => F y ∨ (w.heap.size ≤ y ∧ y < wE.heap.size), ⟨r', ?_⟩, fun y hy => hy.elim .inl (fun e => .inr e.1)⟩
  refine ⟨?blk, ?ho, ?ha, ?hg, ?hr, ?hx, ?hxs, ?rx, ?rxs, ?fo, ?ft, h'.hid, h'.hsq, ?hn, ?hr4⟩
  case blk => rw [hr']; show Blk wE g 52 #[.int .u32 (d.id : Int), .int .u32 (d.seq : Int), .slice A8 (d.op.eraseIdx j).length c8, .slice A9 (d.op.eraseIdx j).length c9, .slice A10 (d.op.eraseIdx j).length c10, .slice A11 (d.rp ++ [(⟨rc, rs, rn, er, cleanV v⟩ : RplD)]).length c11]; rw [hle, hlp, hI, hQ]; exact hbgE
  case ho => rw [hr']; show Own wE 62 6 A8 (d.op.eraseIdx j).length c8 _; rw [hle]; exact oL
  case ha => rw [hr']; show Own wE 3 1 A9 (d.op.eraseIdx j).length c9 (agesR (d.op.eraseIdx j)); rw [hle, hagesE.out]; exact oA
  case hg => rw [hr']; show Own wE 4 1 A10 (d.op.eraseIdx j).length c10 (nowsR (d.op.eraseIdx j)); rw [hle, hnowsE.out]; exact oG
  case hr => rw [hr']; show Own wE 39 9 A11 (d.rp ++ [(⟨rc, rs, rn, er, cleanV v⟩ : RplD)]).length c11 _; rw [hlp]; exact hDE
  case hx =>
    intro q x hq
    dsimp only at hq
    rw [erase_at] at hq
    have h1 := hX _ x hq
    rw [show r'.css q = r.css (if q < j then q else q + 1) by rw [hr']]
    exact h1
  case hxs =>
    intro q x hq
    dsimp only at hq
    rw [erase_at] at hq
    rw [show r'.css q = r.css (if q < j then q else q + 1) by rw [hr'], show r'.xs = xs.take (j * 6) ++ xs.drop ((j + 1) * 6) by rw [hr'], del_window6 (by omega), ← hxs]
    exact h'.hxs _ x hq
  case rx =>
    intro q x hq
    dsimp only at hq
    rcases Nat.lt_trichotomy q M with hl | hl | hl
    · rw [show r'.css2 q = r.css2 q by rw [hr']; exact if_neg (by omega)]
      rw [List.getElem?_append_left (by omega)] at hq
      exact hR q x hq
    · subst hl
      rw [show r'.css2 q = #[.int .i64 k', .int .i64 i', .float .f64 f', .string s', .slice Av' nv' cv'] by rw [hr']; exact if_pos rfl]
      rw [List.getElem?_append_right (by omega), hM, Nat.sub_self] at hq
      simp at hq
      subst hq
      refine (((hv5.out.mono (Q := fun y => w4.heap.size ≤ y ∧ y < w5.heap.size) (fun y h1 h2 => ⟨h2, h1⟩)).upd hu5E (fun y hy e => ?_)).mono (fun y h1 hy => ⟨.inr ⟨by have := hy.1; omega, h1⟩, fun e => ?_⟩))
      · have h1 := hy.1
        rcases e with e | e | e
        · have := hltF.out g (.inl rfl); omega
        · omega
        · have := ltA2 y e; omega
      · have h1 : w4.heap.size ≤ y := hy.1
        have h2 : y < w5.heap.size := hy.2
        rcases hO' y e with e | e | e | e | e
        · have := hltF.out g (.inl rfl); omega
        · have := ltA8 y e; omega
        · have := ltA9 y e; omega
        · have := ltA10 y e; omega
        · rcases hat8 with e2 | e2
          · have := ltA2 y (e2 ▸ e); omega
          · have h3 : w7.heap.size = y := by rw [e2] at e; injection e
            omega
    · rw [List.getElem?_eq_none (by rw [hlp]; omega)] at hq; cases hq
  case rxs =>
    intro q x hq
    dsimp only at hq
    rcases Nat.lt_trichotomy q M with hl | hl | hl
    · rw [show r'.css2 q = r.css2 q by rw [hr']; exact if_neg (by omega), show r'.xs2 = xs2 ++ [.int .u32 (rc : Int), .int .u32 (rs : Int), .int .u16 (rn : Int), .int .i64 er, .int .i64 k', .int .i64 i', .float .f64 f', .string s', .slice Av' nv' cv'] by rw [hr']]
      rw [List.getElem?_append_left (by omega)] at hq
      rw [← h'.rxs q x hq, hxs2, List.drop_append_of_le_length (by omega), List.take_append_of_le_length (by rw [List.length_drop]; omega)]
    · subst hl
      rw [show r'.css2 q = #[.int .i64 k', .int .i64 i', .float .f64 f', .string s', .slice Av' nv' cv'] by rw [hr']; exact if_pos rfl, show r'.xs2 = xs2 ++ [.int .u32 (rc : Int), .int .u32 (rs : Int), .int .u16 (rn : Int), .int .i64 er, .int .i64 k', .int .i64 i', .float .f64 f', .string s', .slice Av' nv' cv'] by rw [hr']]
      rw [List.getElem?_append_right (by omega), hM, Nat.sub_self] at hq
      simp at hq
      subst hq
      rw [List.drop_left' hlr]
      rfl
    · rw [List.getElem?_eq_none (by rw [hlp]; omega)] at hq; cases hq
  case fo =>
    intro y hy
    rcases hOr y hy with e | e
    · exact .inl (hfo.out y e)
    · exact .inr ⟨e, hOlt y hy⟩
  case ft =>
    intro y hy
    rcases hy with hy | hy
    · have := h'.ft y hy; have := hUE.size; omega
    · exact hy.2
  case hn => show (d.op.eraseIdx j).length ≤ 4; omega
  case hr4 => show (d.rp ++ [(⟨rc, rs, rn, er, cleanV v⟩ : RplD)]).length ≤ 1000000; omega
end Go.Proofs.Ytgdhiihfcngjbaa
set_option linter.unusedSimpArgs false
set_option linter.unusedVariables false
namespace Go.Proofs.Ytgdhiihfcngjbaa
open Go.RowKit
set_option maxRecDepth 100000

theorem VHeld.up {w W : World} {P T : Nat → Prop} {v : Val} {cs : Array Value} (h : VHeld w P v cs) (hu : Upd T w W) (hT : ∀ y, T y → P y) : VHeld W P v cs := fun S W' hW hS =>
  h P W' ((hu.mono (T := P) (fun y _ e => hT y e)).trans hW (fun y _ e => hS y e)) (fun _ hp => hp)
theorem VHeld.reads {w : World} {P : Nat → Prop} {v : Val} {cs : Array Value} (h : VHeld w P v cs) : VReads w w.heap.size v cs := h P w (Upd.refl _ _) (fun _ hp => hp)
theorem VHeld.mono {w : World} {P P' : Nat → Prop} {v : Val} {cs : Array Value} (h : VHeld w P v cs) (hP : ∀ y, P' y → P y) : VHeld w P' v cs := fun S W hW hS => h S W hW (fun y hy => hP y (hS y hy))
theorem zero_held (w : World) (P : Nat → Prop) : VHeld w P zeroV #[.int .i64 0, .int .i64 0, .float .f64 0, .string ⟨#[]⟩, .slice none 0 0] := fun _ W _ _ => zero_reads W
set_option maxHeartbeats 6400000 in
theorem cy_recv {w : World} {F : Nat → Prop} {g : Nat} {d : CliD} {rc rs rn : Nat} {er k i : Int} {f : Nat} {s : ByteArray} {Av : Option Addr} {nv cv : Nat} {v : Val} (h : StubYS w F g d) (hv : VHeld w F v #[.int .i64 k, .int .i64 i, .float .f64 f, .string s, .slice Av nv cv]) (hok : OkV v) (hr4 : d.rp.length < 1000000) :
    Calls Try.prog 19 #[.pointer (some ⟨g, 0, none⟩), .agg #[.int .u32 (rc : Int), .int .u32 (rs : Int), .int .u16 (rn : Int), .int .i64 er, .int .i64 k, .int .i64 i, .float .f64 f, .string s, .slice Av nv cv]] w (fun e w' => e = .returned (.bool (recvD d ⟨rc, rs, rn, er, cleanV v⟩).2) ∧ CliY w w' F g (recvD d ⟨rc, rs, rn, er, cleanV v⟩).1) := by
  have hsf := fun a k x m w => run_store_float (P := Try.prog) a k x m w
  obtain ⟨r, h⟩ := h
  obtain ⟨R, hR⟩ : ∃ q, recvD d ⟨rc, rs, rn, er, cleanV v⟩ = q := ⟨_, rfl⟩
  rw [hR]
  obtain ⟨N, hN⟩ : ∃ q, d.op.length = q := ⟨_, rfl⟩
  have hn4 := h.hn
  rw [hN] at hn4
  have hb1 := (Below.refl w.heap.size w).alloc (Nat.le_refl _) (.cells #[.int .u32 (rc : Int), .int .u32 (rs : Int), .int .u16 (rn : Int), .int .i64 er, .int .i64 k, .int .i64 i, .float .f64 f, .string s, .slice Av nv cv] 39)
  have hx1 := Blk.new w 39 #[.int .u32 (rc : Int), .int .u32 (rs : Int), .int .u16 (rn : Int), .int .i64 er, .int .i64 k, .int .i64 i, .float .f64 f, .string s, .slice Av nv cv]
  obtain ⟨p, hp⟩ : ∃ y, w.heap.size = y := ⟨_, rfl⟩
  rw [hp] at hx1
  have hgl := h.blk.lt
  have hft := h.ft
  have hfo := h.fo
  replace h := Lib.hid h
  replace hv := Lib.hid hv
  replace hR := Lib.hid hR
  replace hN := Lib.hid hN
  replace hft := Lib.hid hft
  replace hfo := Lib.hid hfo
  go_enter Try.func19, Try.ntmps19
  go_upto_if 1 with (fail)
  generalize w.alloc (.cells #[.int .u32 (rc : Int), .int .u32 (rs : Int), .int .u16 (rn : Int), .int .i64 er, .int .i64 k, .int .i64 i, .float .f64 f, .string s, .slice Av nv cv] 39) = w1 at *
  try rw [hp]
  go_loopw [5] (fun z wr => ∃ K : Nat, K ≤ N ∧ z = .int .i64 (K : Int) ∧ (∀ y ∈ d.op.take K, isId rc rs rn y = false) ∧ Below w.heap.size w wr ∧ Blk wr p 39 #[.int .u32 (rc : Int), .int .u32 (rs : Int), .int .u16 (rn : Int), .int .i64 er, .int .i64 k, .int .i64 i, .float .f64 f, .string s, .slice Av nv cv]) (fun z _ => N - (intOf z).toNat)
  case atStart => exact ⟨0, Nat.zero_le _, rfl, by simp, hb1, hx1⟩
  case round =>
    clear hb1 hx1
    rename_i hrel
    obtain ⟨K, hk, rfl, hany, hb, hx⟩ := hrel
    have hY := h.out.below hb
    have hg2 : wr.cell? ⟨g, 2, none⟩ = some (.slice r.A N r.c) := by rw [← hN.out]; exact hY.blk.cell 2
    obtain ⟨A, hA⟩ : ∃ q, r.A = q := ⟨_, rfl⟩
    obtain ⟨c, hc⟩ : ∃ q, r.c = q := ⟨_, rfl⟩
    rw [hA, hc] at hg2
    replace hA := Lib.hid hA
    replace hc := Lib.hid hc
    have hxl := hx.lt
    by_cases hlt : K < N
    · have hgk : d.op[K]? = some (d.op[K]'(by rw [hN.out]; exact hlt)) := List.getElem?_eq_getElem _
      generalize d.op[K]'(by rw [hN.out]; exact hlt) = x at hgk
      have htk : d.op.take (K + 1) = d.op.take K ++ [x] := by rw [List.take_add_one, hgk]; rfl
      obtain ⟨gA, A1, c1, hgA, -, g0, g1, g2, -, -, -⟩ := hY.cells hgk
      have e1 : A = some ⟨gA, 0, none⟩ := hA.out.symm.trans hgA
      subst e1
      have hd : decide ((K : Int) < (N : Int)) = true := decide_eq_true (by omega)
      have hkw : IntKind.i64.wrap ((K : Int) + 1) = (K : Int) + 1 := by rw [IntKind.wrap_i64]; omega
      have hcap : N ≤ c := by have := hY.ho.le_cap; rw [hN.out, hc.out] at this; exact this
      obtain ⟨xo, xage, xnow⟩ := x
      obtain ⟨xc, xs_, xn, xg, xm, xl⟩ := xo
      dsimp only at g0 g1 g2
      have q0 := hx.cell 0
      have q1 := hx.cell 1
      have q2 := hx.cell 2
      obtain ⟨q, hq⟩ : ∃ q, isId rc rs rn ⟨⟨xc, xs_, xn, xg, xm, xl⟩, xage, xnow⟩ = q := ⟨_, rfl⟩
      have hif : ∀ W : World, (if (xc : Int) = (rc : Int) then if (xs_ : Int) = (rs : Int) then if (xn : Int) = (rn : Int) then Result.ok (Next.value (Value.bool true)) W else Result.ok (Next.value (Value.bool false)) W else Result.ok (Next.value (Value.bool false)) W else Result.ok (Next.value (Value.bool false)) W) = Result.ok (Next.value (Value.bool q)) W := fun W => by
        rw [← hq]
        unfold isId
        dsimp only
        by_cases a1 : xc = rc
        · by_cases a2 : xs_ = rs
          · by_cases a3 : xn = rn
            · simp [a1, a2, a3]
            · rw [if_pos (by omega), if_pos (by omega), if_neg (by omega)]; simp [a3]
          · rw [if_pos (by omega), if_neg (by omega)]; simp [a2]
        · rw [if_neg (by omega)]; simp [a1]
      have hSP : (wr.drew.cell? ⟨g, 2, none⟩ = some (.slice (some ⟨gA, 0, none⟩) N c) ∧ wr.drew.cell? ⟨gA, K * 6, none⟩ = some (.int .u32 (xc : Int)) ∧ wr.drew.cell? ⟨gA, K * 6 + 1, none⟩ = some (.int .u32 (xs_ : Int)) ∧ wr.drew.cell? ⟨gA, K * 6 + 2, none⟩ = some (.int .u16 (xn : Int)) ∧ wr.drew.cell? ⟨p, 0, none⟩ = some (.int .u32 (rc : Int)) ∧ wr.drew.cell? ⟨p, 1, none⟩ = some (.int .u32 (rs : Int)) ∧ wr.drew.cell? ⟨p, 2, none⟩ = some (.int .u16 (rn : Int))) := ⟨hg2, g0, g1, g2, q0, q1, q2⟩
      replace hany := Lib.hid hany
      replace htk := Lib.hid htk
      replace hq := Lib.hid hq
      replace hgk := Lib.hid hgk
      replace hY := Lib.hid hY
      clear hgA
      go_upto_region 4 with (fail)
      clear g0 g1 g2 q0 q1 q2 hg2
      refine wp_region_lex (fun W => (W.cell? ⟨g, 2, none⟩ = some (.slice (some ⟨gA, 0, none⟩) N c) ∧ W.cell? ⟨gA, K * 6, none⟩ = some (.int .u32 (xc : Int)) ∧ W.cell? ⟨gA, K * 6 + 1, none⟩ = some (.int .u32 (xs_ : Int)) ∧ W.cell? ⟨gA, K * 6 + 2, none⟩ = some (.int .u16 (xn : Int)) ∧ W.cell? ⟨p, 0, none⟩ = some (.int .u32 (rc : Int)) ∧ W.cell? ⟨p, 1, none⟩ = some (.int .u32 (rs : Int)) ∧ W.cell? ⟨p, 2, none⟩ = some (.int .u16 (rn : Int)))) [3, 7, 9] [] [0, 1, 2, 3, 4, 5, 6, 7, 8, 9, 10] (by kernel_rfl) rfl (by kernel_rfl) (by kernel_rfl) (fun _ _ d _ _ h => by cases d <;> exact h) ?_
      repeat (first | (refine lexG_take _ ?_ rfl rfl rfl rfl (fun _ => ?_) ?_; rotate_left; (focus (go_simp; with_reducible rfl)); try simp only [Act.put, List.setIfInBounds_toArray, List.set_cons_zero, List.set_cons_succ]) | (refine lexG_held _ ?_ rfl rfl rfl rfl (by assumption) (fun _ hSw => ?_) ?_; rotate_left; (focus (have h1 := hSw.1; have h2 := hSw.2.1; have h3 := hSw.2.2.1; have h4 := hSw.2.2.2.1; have h5 := hSw.2.2.2.2.1; have h6 := hSw.2.2.2.2.2.1; have h7 := hSw.2.2.2.2.2.2; clear hSw; go_simp; with_reducible rfl)); try simp only [Act.put, List.setIfInBounds_toArray, List.set_cons_zero, List.set_cons_succ]) | (refine lexG_skip _ rfl rfl (by assumption) ?_; try simp only [Act.put, List.setIfInBounds_toArray, List.set_cons_zero, List.set_cons_succ]))
      refine lexG_nil ?_
      clear hif hSP
      have hbd : Below w.heap.size w wr.drew := hb.drew
      have hxd : Blk wr.drew p 39 #[.int .u32 (rc : Int), .int .u32 (rs : Int), .int .u16 (rn : Int), .int .i64 er, .int .i64 k, .int .i64 i, .float .f64 f, .string s, .slice Av nv cv] := hx.drewN 1
      generalize wr.drew = w4 at *
      cases q
      · go_wp2_with fail
        go_roundw
        case rel => exact ⟨K + 1, by omega, by simp, fun y hy => by
          rw [htk.out] at hy
          rcases List.mem_append.1 hy with h' | h'
          · exact hany.out y h'
          · cases List.mem_singleton.1 h'; exact hq.out, hbd, hxd⟩
        case measure => simp [intOf]; omega
      · have hfnd : FoundO d.op rc rs rn (K : Int) := .inr ⟨K, _, rfl, hgk.out, hq.out, hany.out⟩
        have hidx : d.op.findIdx? (isId rc rs rn) = some K := by
          rcases hfnd.idx with ⟨e, -⟩ | ⟨j, e, -, hj⟩
          · omega
          · rw [show K = j by omega]; exact hj
        have hRv := hR.out
        unfold recvD at hRv
        rw [show d.op.findIdx? (isId rc rs rn) = some K from hidx] at hRv
        have p0 := hxd.cell 0
        have p1 := hxd.cell 1
        have p2 := hxd.cell 2
        have p3 := hxd.cell 3
        have p4 := hxd.cell 4
        have p5 := hxd.cell 5
        have p6 := hxd.cell 6
        have p7 := hxd.cell 7
        have p8 := hxd.cell 8
        clear hfnd hidx
        by_cases h41 : er = 41
        · have hRd : R = (d, false) := by rw [← hRv]; simp [h41]
          have e41 : (er == 41) = true := by simp [h41]
          subst hRd
          clear hRv h41
          go_wp2_with fail
          go_ret
          exact ⟨rfl, Upd.of_below_size hbd, F, ⟨r, h.out.below hbd⟩, fun _ hf => .inl hf⟩
        · have e41 : (er == 41) = false := by simp [h41]
          by_cases h42 : er = 42
          · have hRd : R = (d, false) := by rw [← hRv]; simp [h42]
            have e42 : (er == 42) = true := by simp [h42]
            subst hRd
            clear hRv h41 h42
            go_wp2_with fail
            go_ret
            exact ⟨rfl, Upd.of_below_size hbd, F, ⟨r, h.out.below hbd⟩, fun _ hf => .inl hf⟩
          · have e42 : (er == 42) = false := by simp [h42]
            have hRd : R = (⟨d.id, d.seq, d.op.eraseIdx K, d.rp ++ [⟨rc, rs, rn, er, cleanV v⟩]⟩, true) := by rw [← hRv]; simp [h41, h42]
            have hcut := cy_cut (rc := rc) (rs := rs) (rn := rn) (er := er) (h.out.below hbd) (hv.out.up (T := fun _ => False) (Upd.of_below_size hbd) (fun _ hf => hf.elim)) hok (by rw [hN.out]; exact hlt) hr4
            subst hRd
            clear hRv h41 h42
            replace hcut := Lib.hid hcut
            go_wp2_with fail
            refine hcut.out.mono ?_
            clear hcut
            rintro e w5 ⟨rfl, hu5, F', hS5, hF5⟩
            try dsimp only
            have hs4 := hbd.size
            go_wp2_with fail
            go_ret
            exact ⟨rfl, (Upd.of_below_size hbd).trans hu5 (fun _ _ e => e), F', hS5, fun y hy => (hF5 y hy).elim .inl (fun e => .inr (by omega))⟩
    · have hk' : K = N := by omega
      subst hk'
      have hd : decide ((K : Int) < (K : Int)) = false := decide_eq_false (by omega)
      have hal : ∀ y ∈ d.op, isId rc rs rn y = false := fun y hy => hany y (by rw [List.take_of_length_le (by rw [hN.out]; omega)]; exact hy)
      have hRd : R = (d, false) := by
        rw [← hR.out]
        unfold recvD
        rw [show d.op.findIdx? (isId rc rs rn) = none from List.findIdx?_eq_none_iff.2 hal]
      subst hRd
      clear hany hal hY
      go_wp2_with fail
      go_ret
      exact ⟨rfl, Upd.of_below_size hb, F, ⟨r, h.out.below hb⟩, fun _ hf => .inl hf⟩
end Go.Proofs.Ytgdhiihfcngjbaa
