/- Packets that wait: the state of both nets. -/
import Derived.Test.YtfhdnehheoligaaBytes
import Derived.Test.YtfhdnehheoligaaMore
set_option linter.unusedSimpArgs false
set_option linter.unusedVariables false
namespace Go.Proofs.Ytfhdnehheoligaa
open Go.RowKit
set_option maxRecDepth 100000

def Says (w : World) (v : Value) (e : Ending) (w' : World) : Prop := e = .returned v ∧ Below w.heap.size w w'
theorem Own.open_s {w : World} {t : TypeId} {sz n c : Nat} {A : Option Addr} {xs : List Value} (h : Own w t sz A n c xs) (hn : 0 < n) : ∃ g cur, A = some ⟨g, 0, none⟩ ∧ Blk w g t cur ∧ n * sz ≤ cur.size ∧ cur.toList.take (n * sz) = xs ∧
    ∀ w' cur', Blk w' g t cur' → cur'.size = cur.size → Own w' t sz A n c (cur'.toList.take (n * sz)) := by
  rcases h.2 with ⟨_, h0, _⟩ | ⟨g, cur, rfl, hg, hnc, hcm, hcs, htake⟩
  · omega
  · have hle : n * sz ≤ cur.size := Nat.le_trans (Nat.mul_le_mul_right _ hnc) hcs
    refine ⟨g, cur, rfl, hg, hle, htake, fun w' cur' hb hs => ⟨?_, .inr ⟨g, cur', rfl, hb, hnc, hcm, by omega, rfl⟩⟩⟩
    rw [List.length_take, Array.length_toList, hs]
    omega
theorem window {xs L : List Value} {a m : Nat} (h : (xs.drop a).take m = L) (i : Nat) (hi : i < m) : xs[a + i]? = L[i]? := by
  rw [← h, List.getElem?_take, if_pos hi, List.getElem?_drop]
theorem results_ct {P : Program} {fn : Func} {p u : Tmp} {ty : TypeId} (h : fn.results = #[.cell p ty, .tmp u]) (tmps : Array Value) (w : World) (g : Nat) (t : TypeId) (cs : Array Value) (fr : Nat × Nat) (d : TypeDesc) (v : Value)
    (hp : tmps.getD p undef = .pointer (some ⟨g, 0, none⟩)) (hv : tmps.getD u undef = v) (hg : w.heap[g]? = some (.cells cs t fr))
    (hu : P.underlying ty = some d) (hd : (match d with | .struct _ | .array _ _ => true | _ => false) = true) (hi : (P.info? ty).map (·.size) = some cs.size) :
    (results fn tmps).run P w = .ok (.tuple #[.agg cs, v]) w := by
  have hp' : tmps[p]?.getD undef = .pointer (some ⟨g, 0, none⟩) := by simpa using hp
  have hv' : tmps[u]?.getD undef = v := by simpa using hv
  simp [results, h, hp', hv', asAddr, run_loadVar_row w g t ty cs fr d hg hu hd hi]

theorem info_pk : (Try.prog.info? 33).map (fun i => (i.zero, i.size, i.bytes)) = some (some (.agg #[.int .i64 0, .int .i64 0, .slice none 0 0]), 3, 40) := by kernel_rfl
theorem erase_at {α : Type} (l : List α) (i j : Nat) : (l.eraseIdx i)[j]? = l[if j < i then j else j + 1]? := by
  rw [List.getElem?_eraseIdx]
  split <;> rfl
theorem del_window3 {xs : List Value} {i j : Nat} (hx : (i + 1) * 3 ≤ xs.length) : ((xs.take (i * 3) ++ xs.drop ((i + 1) * 3)).drop (j * 3)).take 3 = (xs.drop ((if j < i then j else j + 1) * 3)).take 3 := by
  have hl : (xs.take (i * 3)).length = i * 3 := by rw [List.length_take]; omega
  by_cases h : j < i
  · rw [if_pos h, List.drop_append_of_le_length (by omega), List.take_append_of_le_length (by rw [List.length_drop]; omega), List.drop_take, List.take_take, Nat.min_eq_left (by omega)]
  · rw [if_neg h, List.drop_append, hl, List.drop_eq_nil_of_le (by omega), List.nil_append, List.drop_drop]
    congr 2
    omega
structure PkD where
  f : Int
  t : Int
  b : List UInt8
def PkReads (W : World) (p : PkD) (cs : Array Value) : Prop := ∃ B c, cs = #[.int .i64 p.f, .int .i64 p.t, .slice B p.b.length c] ∧ Reads W W.heap.size 1 B p.b.length (bys p.b)
/-- A packet that stays while blocks of P are written. -/
def PkHeld (w : World) (P : Nat → Prop) (p : PkD) (cs : Array Value) : Prop := ∀ (S : Nat → Prop) (W : World), Upd S w W → (∀ y, S y → P y) → PkReads W p cs
theorem PkHeld.next {w w2 : World} {P P' T : Nat → Prop} {p : PkD} {cs : Array Value} (h : PkHeld w P p cs) (hu : Upd T w w2) (hT : ∀ g, g < w.heap.size → T g → P g) (hP : ∀ g, g < w.heap.size → P' g → P g) : PkHeld w2 P' p cs :=
  fun S W hW hS => h (fun g => g < w.heap.size ∧ (S g ∨ T g)) W ((hu.mono (T := fun g => g < w.heap.size ∧ (S g ∨ T g)) (fun k hk ht => ⟨hk, .inr ht⟩)).trans hW (fun i hi hs => ⟨hi, .inl hs⟩))
    (fun g hg => hg.2.elim (fun hs => hP g hg.1 (hS g hs)) (fun ht => hT g hg.1 ht))
theorem PkHeld.reads {w : World} {P : Nat → Prop} {p : PkD} {cs : Array Value} (h : PkHeld w P p cs) : PkReads w p cs := h (fun _ => False) w (Upd.refl _ w) (fun _ hf => hf.elim)
/-- A packet whose bytes are in a row of its own. -/
theorem held_own {w : World} {f t : Int} {b : List UInt8} {B : Option Addr} {c : Nat} {P : Nat → Prop} (h : Own w 5 1 B b.length c (bys b)) (hP : ∀ y, bOf B = some y → ¬ P y) : PkHeld w P ⟨f, t, b⟩ #[.int .i64 f, .int .i64 t, .slice B b.length c] :=
  fun S W hu hS => ⟨B, c, rfl, (h.upd hu (fun y hy hs => hP y hy (hS y hs))).reads_⟩

/-- A net at block g: F holds of its blocks; what its packets' bytes lie in is C: its own blocks, or such as lie below b. -/
structure NetX (b : Nat) (w : World) (F : Nat → Prop) (ty : TypeId) (g : Nat) (mask : Nat) (l : List PkD) (A : Option Addr) (c : Nat) (xs : List Value) (css : Nat → Array Value) (C : Nat → Prop) : Prop where
  blk : Blk w g ty #[.slice A l.length c, .int .u64 (mask : Int)]
  ho : Own w 33 3 A l.length c xs
  hx : ∀ j p, l[j]? = some p → PkHeld w (fun y => ¬ C y) p (css j)
  hxs : ∀ j p, l[j]? = some p → (xs.drop (j * 3)).take 3 = (css j).toList
  fo : ∀ y, y = g ∨ bOf A = some y → F y ∧ ¬ C y
  fc : ∀ y, C y → F y ∨ y < b
  ft : ∀ y, F y → y < w.heap.size ∧ b ≤ y
  hb : b ≤ w.heap.size
  hm : mask < 18446744073709551616
  hl : l.length ≤ 1000
  hp : ∀ p ∈ l, p.b.length ≤ 1000
  hty : ty ≠ 33
def NetS (b : Nat) (w : World) (F : Nat → Prop) (ty : TypeId) (g mask : Nat) (l : List PkD) : Prop := ∃ A c xs css C, NetX b w F ty g mask l A c xs css C
def Chg (b : Nat) (w w' : World) (F : Nat → Prop) (ty : TypeId) (g mask : Nat) (l : List PkD) : Prop := Upd F w w' ∧ ∃ F', NetS b w' F' ty g mask l ∧ ∀ y, F' y → F y ∨ w.heap.size ≤ y
section
variable {b : Nat} {w w' : World} {F S : Nat → Prop} {ty : TypeId} {g mask : Nat} {l : List PkD} {A : Option Addr} {c : Nat} {xs : List Value} {css : Nat → Array Value} {C : Nat → Prop}
theorem NetX.keep (h : NetX b w F ty g mask l A c xs css C) (hu : Upd S w w') (hS : ∀ y, S y → b ≤ y ∧ ¬ F y) : NetX b w' F ty g mask l A c xs css C := by
  have hs : ∀ y, F y → ¬ S y := fun y hy hs => (hS y hs).2 hy
  refine ⟨h.blk.upd hu (hs g (h.fo g (.inl rfl)).1), h.ho.upd hu (fun y hy => hs y (h.fo y (.inr hy)).1), fun j p hj => (h.hx j p hj).next hu (fun y _ hy hc => ?_) (fun _ _ hp => hp), h.hxs, h.fo, h.fc, fun y hy => ⟨Nat.lt_of_lt_of_le (h.ft y hy).1 hu.size, (h.ft y hy).2⟩, Nat.le_trans h.hb hu.size, h.hm, h.hl, h.hp, h.hty⟩
  rcases h.fc y hc with e | e
  · exact (hS y hy).2 e
  · have := (hS y hy).1; omega
theorem NetS.keep (h : NetS b w F ty g mask l) (hu : Upd S w w') (hS : ∀ y, S y → b ≤ y ∧ ¬ F y) : NetS b w' F ty g mask l := by
  obtain ⟨A, c, xs, css, C, h⟩ := h
  exact ⟨A, c, xs, css, C, h.keep hu hS⟩
theorem NetX.below (h : NetX b w F ty g mask l A c xs css C) (hb : Below w.heap.size w w') : NetX b w' F ty g mask l A c xs css C := h.keep (Upd.of_below_size (S := fun _ => False) hb) (fun _ hf => hf.elim)
theorem NetS.below (h : NetS b w F ty g mask l) (hb : Below w.heap.size w w') : NetS b w' F ty g mask l := h.keep (Upd.of_below_size (S := fun _ => False) hb) (fun _ hf => hf.elim)
theorem NetS.ft (h : NetS b w F ty g mask l) : ∀ y, F y → y < w.heap.size ∧ b ≤ y := by obtain ⟨_, _, _, _, _, h⟩ := h; exact h.ft
theorem NetX.neA (h : NetX b w F ty g mask l A c xs css C) : ∀ y, bOf A = some y → y ≠ g := fun y hy e => by
  rcases h.ho.2 with ⟨rfl, -⟩ | ⟨gA, cur, rfl, hb, -⟩
  · cases hy
  · cases hy; exact hb.ne_ h.blk h.hty.symm e
theorem lt_at {α : Type} {l : List α} {k : Nat} {x : α} (h : l[k]? = some x) : k < l.length := by
  rcases Nat.lt_or_ge k l.length with h' | h'
  · exact h'
  · rw [List.getElem?_eq_none h'] at h; cases h
/-- A packet of the row, cell by cell. -/
theorem NetX.cells (h : NetX b w F ty g mask l A c xs css C) {j : Nat} {p : PkD} (hj : l[j]? = some p) :
    ∃ gA B cB, A = some ⟨gA, 0, none⟩ ∧ css j = #[.int .i64 p.f, .int .i64 p.t, .slice B p.b.length cB] ∧ w.cell? ⟨gA, j * 3, none⟩ = some (.int .i64 p.f) ∧ w.cell? ⟨gA, j * 3 + 1, none⟩ = some (.int .i64 p.t) ∧ w.cell? ⟨gA, j * 3 + 2, none⟩ = some (.slice B p.b.length cB) ∧ Reads w w.heap.size 1 B p.b.length (bys p.b) := by
  have hjl := lt_at hj
  obtain ⟨gA, cur, rfl, hcur, hle, htk, -⟩ := h.ho.open_s (by omega)
  obtain ⟨B, cB, hcs, hr⟩ := (h.hx j p hj).reads
  have hx := h.hxs j p hj
  rw [hcs] at hx
  have hc : ∀ t v, t < 3 → ([Value.int .i64 p.f, .int .i64 p.t, .slice B p.b.length cB] : List Value)[t]? = some v → w.cell? ⟨gA, j * 3 + t, none⟩ = some v := fun t v ht hv => by
    rw [hcur.cell]
    have h1 := window hx t ht
    rw [← htk, List.getElem?_take, if_pos (by omega)] at h1
    rw [show cur[j * 3 + t]? = cur.toList[j * 3 + t]? by simp, h1]
    exact hv
  exact ⟨gA, B, cB, rfl, hcs, hc 0 _ (by decide) rfl, hc 1 _ (by decide) rfl, hc 2 _ (by decide) rfl, hr⟩
theorem NetX.one (h : NetX b w F ty g mask l A c xs css C) : ∀ u ∈ xs, u.oneCell' = true := by
  intro u hu
  obtain ⟨q, hq⟩ := List.getElem?_of_mem hu
  have hlx := h.ho.len
  have hql : q < xs.length := lt_at hq
  have hj : q / 3 < l.length := by omega
  have hx : l[q / 3]? = some l[q / 3] := List.getElem?_eq_getElem hj
  obtain ⟨_, B, cB, _, hcs, -⟩ := h.cells hx
  have hw := h.hxs _ _ hx
  rw [hcs] at hw
  have h1 := window hw (q % 3) (by omega)
  rw [show q / 3 * 3 + q % 3 = q by omega, hq] at h1
  have hm : u ∈ ([Value.int .i64 l[q / 3].f, .int .i64 l[q / 3].t, .slice B l[q / 3].b.length cB] : List Value) := List.mem_of_getElem? h1.symm
  simp only [List.mem_cons, List.not_mem_nil, or_false] at hm
  rcases hm with rfl | rfl | rfl <;> rfl
/-- One packet more, at the end. -/
theorem NetX.pushX {w7 w8 w9 : World} {A8 : Option Addr} {c8 : Nat} {p : PkD} {cs : Array Value} {D : Nat → Prop} (h : NetX b w F ty g mask l A c xs css C) (hb7 : Below w.heap.size w w7) (ho8 : Own w8 33 3 A8 (l.length + 1) c8 (xs ++ cs.toList)) (hg8 : w7.grownBy w8 (bOf A)) (hat : bOf A8 = bOf A ∨ bOf A8 = some w7.heap.size) (hu9 : Upd (fun y => y = g) w8 w9)
    (hblk : Blk w9 g ty #[.slice A8 (l.length + 1) c8, .int .u64 (mask : Int)]) (hp : PkHeld w7 (fun y => ¬ D y) p cs) (hD : ∀ y, D y → (w.heap.size ≤ y ∧ y < w7.heap.size) ∨ y < b ∨ C y) (hl : l.length < 1000) (hpb : p.b.length ≤ 1000) : Upd (fun y => y = g ∨ bOf A = some y) w w9 ∧ NetX b w9 (fun y => F y ∨ (w.heap.size ≤ y ∧ y < w9.heap.size)) ty g mask (l ++ [p]) A8 c8 (xs ++ cs.toList) (fun k => if k = l.length then cs else css k) (fun y => C y ∨ D y) := by
  have hlx := h.ho.len
  have hAl : ∀ y, bOf A = some y → y < w.heap.size := fun y hy => h.ho.lt hy
  have hgl := h.blk.lt
  have h07 := hb7.size
  have hbw := h.hb
  have hgb := (h.ft g (h.fo g (.inl rfl)).1).2
  have hu78 : Upd (fun y => bOf A = some y) w7 w8 := (Upd.refl _ w7).grown hg8 (fun k e _ => e)
  have hu79 : Upd (fun y => y = g ∨ bOf A = some y) w7 w9 := (hu78.mono (fun _ _ e => .inr e)).trans hu9 (fun _ _ e => .inl e)
  have hu : Upd (fun y => y = g ∨ bOf A = some y) w w9 := (Upd.of_below_size hb7).trans hu79 (fun _ _ e => e)
  have h79 := hu79.size
  have hA9 : ∀ y, bOf A8 = some y → bOf A = some y ∨ y = w7.heap.size := fun y hy => by
    rcases hat with e | e <;> rw [e] at hy
    · exact .inl hy
    · cases hy; exact .inr rfl
  have hcs : cs.toList.length = 3 := by
    obtain ⟨_, _, rfl, _⟩ := hp.reads
    rfl
  have hbA : ∀ y, bOf A = some y → b ≤ y := fun y hy => (h.ft y (h.fo y (.inr hy)).1).2
  refine ⟨hu, ?_⟩
  have ho9 := ho8.upd hu9 (fun y hy e => by
    rcases hA9 y hy with h' | h'
    · exact h.neA y h' e
    · omega)
  refine ⟨by rw [List.length_append]; exact hblk, by rw [List.length_append]; exact ho9, fun j q hj => ?_, fun j q hj => ?_, fun y hy => ?_, fun y hy => ?_, fun y hy => ?_, by omega, h.hm, by rw [List.length_append]; exact hl, fun q hq => ?_, h.hty⟩
  · rcases Nat.lt_trichotomy j l.length with hjl | hjl | hjl
    · rw [if_neg (by omega)]
      rw [List.getElem?_append_left hjl] at hj
      exact (h.hx j q hj).next hu (fun y _ e => (h.fo y e).2) (fun y _ e hc => e (.inl hc))
    · subst hjl
      rw [if_pos rfl]
      simp at hj
      subst hj
      refine hp.next hu79 (fun y hy e hd => ?_) (fun y _ e hd => e (.inr hd))
      rcases hD y hd with e2 | e2 | e2
      · rcases e with e | e
        · omega
        · have := hAl y e; omega
      · rcases e with e | e
        · omega
        · have := hbA y e; omega
      · exact (h.fo y e).2 e2
    · rw [List.getElem?_eq_none (by simp; omega)] at hj; cases hj
  · rcases Nat.lt_trichotomy j l.length with hjl | hjl | hjl
    · rw [if_neg (by omega)]
      rw [List.getElem?_append_left hjl] at hj
      rw [← h.hxs j q hj, List.drop_append_of_le_length (by omega), List.take_append_of_le_length (by rw [List.length_drop]; omega)]
    · subst hjl
      rw [if_pos rfl]
      simp at hj
      subst hj
      rw [List.drop_left' hlx]
      exact List.take_of_length_le (by omega)
    · rw [List.getElem?_eq_none (by simp; omega)] at hj; cases hj
  · rcases hy with hy | hy
    · refine ⟨.inl (h.fo y (.inl hy)).1, fun e => ?_⟩
      rcases e with e | e
      · exact (h.fo y (.inl hy)).2 e
      · rcases hD y e with e | e | e
        · omega
        · omega
        · exact (h.fo y (.inl hy)).2 e
    · rcases hA9 y hy with e | e
      · refine ⟨.inl (h.fo y (.inr e)).1, fun e2 => ?_⟩
        rcases e2 with e2 | e2
        · exact (h.fo y (.inr e)).2 e2
        · have h1 := hAl y e
          have h2 := hbA y e
          rcases hD y e2 with e2 | e2 | e2
          · omega
          · omega
          · exact (h.fo y (.inr e)).2 e2
      · have h9 := ho9.lt hy
        refine ⟨.inr ⟨by omega, h9⟩, fun e2 => ?_⟩
        rcases e2 with e2 | e2
        · rcases h.fc y e2 with e3 | e3
          · have := (h.ft y e3).1; omega
          · omega
        · rcases hD y e2 with e3 | e3 | e3
          · omega
          · omega
          · rcases h.fc y e3 with e4 | e4
            · have := (h.ft y e4).1; omega
            · omega
  · rcases hy with hy | hy
    · rcases h.fc y hy with e | e
      · exact .inl (.inl e)
      · exact .inr e
    · rcases hD y hy with e | e | e
      · exact .inl (.inr ⟨e.1, by omega⟩)
      · exact .inr e
      · exact (h.fc y e).elim (fun e => .inl (.inl e)) .inr
  · rcases hy with hy | hy
    · have := h.ft y hy; omega
    · omega
  · rcases List.mem_append.1 hq with hq | hq
    · exact h.hp q hq
    · cases List.mem_singleton.1 hq; exact hpb
/-- Without its j-th packet. -/
theorem NetX.cutd {w9 : World} {A8 : Option Addr} {c8 j : Nat} (h : NetX b w F ty g mask l A c xs css C) (hj : j < l.length) (hu : Upd (fun y => y = g ∨ bOf A = some y) w w9) (ho9 : Own w9 33 3 A8 (l.length - 1) c8 (xs.take (j * 3) ++ xs.drop ((j + 1) * 3))) (hblk : Blk w9 g ty #[.slice A8 (l.length - 1) c8, .int .u64 (mask : Int)]) (hA8 : ∀ y, bOf A8 = some y → bOf A = some y ∨ w.heap.size ≤ y) : Chg b w w9 F ty g mask (l.eraseIdx j) := by
  have hlx := h.ho.len
  have hle : (l.eraseIdx j).length = l.length - 1 := by rw [List.length_eraseIdx, if_pos hj]
  have hbw := h.hb
  have h09 := hu.size
  refine ⟨hu.mono (fun y _ e => (h.fo y e).1), fun y => F y ∨ (w.heap.size ≤ y ∧ y < w9.heap.size), ⟨A8, c8, xs.take (j * 3) ++ xs.drop ((j + 1) * 3), fun k => css (if k < j then k else k + 1), C, ?_⟩, fun y hy => hy.elim .inl (fun e => .inr e.1)⟩
  refine ⟨by rw [hle]; exact hblk, by rw [hle]; exact ho9, fun i q hi => ?_, fun i q hi => ?_, fun y hy => ?_, fun y hy => (h.fc y hy).elim (fun e => .inl (.inl e)) .inr, fun y hy => ?_, by omega, h.hm, by rw [hle]; have := h.hl; omega, fun q hq => h.hp q (List.mem_of_mem_eraseIdx hq), h.hty⟩
  · rw [erase_at] at hi
    exact (h.hx _ q hi).next hu (fun y _ e => (h.fo y e).2) (fun y _ e => e)
  · rw [erase_at] at hi
    rw [del_window3 (by omega)]
    exact h.hxs _ q hi
  · rcases hy with hy | hy
    · exact ⟨.inl (h.fo y (.inl hy)).1, (h.fo y (.inl hy)).2⟩
    · rcases hA8 y hy with e | e
      · exact ⟨.inl (h.fo y (.inr e)).1, (h.fo y (.inr e)).2⟩
      · refine ⟨.inr ⟨e, ho9.lt hy⟩, fun hc => ?_⟩
        rcases h.fc y hc with e3 | e3
        · have := (h.ft y e3).1; omega
        · omega
  · rcases hy with hy | hy
    · have := h.ft y hy; omega
    · omega
/-- Another mask. -/
theorem NetX.part {mask' : Nat} (h : NetX b w F ty g mask l A c xs css C) (hm : mask' < 18446744073709551616) : Chg b w (w.setCell ⟨g, 1, none⟩ (.int .u64 (mask' : Int))) F ty g mask' l := by
  have hu : Upd (fun z => z = g) w (w.setCell ⟨g, 1, none⟩ (.int .u64 (mask' : Int))) := (Upd.refl (fun z => z = g) w).setCell (p := ⟨g, 1, none⟩) (fun _ => rfl) _
  refine ⟨hu.mono (fun y _ e => (h.fo y (.inl e)).1), F, ⟨A, c, xs, css, C, ⟨h.blk.set_ 1 _, h.ho.upd hu (fun y hy e => h.neA y hy e), fun j p hj => (h.hx j p hj).next hu (fun y _ e => (h.fo y (.inl e)).2) (fun _ _ e => e), h.hxs, h.fo, h.fc, fun y hy => ⟨Nat.lt_of_lt_of_le (h.ft y hy).1 hu.size, (h.ft y hy).2⟩, Nat.le_trans h.hb hu.size, hm, h.hl, h.hp, h.hty⟩⟩, fun y hy => .inl hy⟩
end
end Go.Proofs.Ytfhdnehheoligaa
