/- choirseat.Ops. -/
import Derived.Test.YtgdhiihfcngjbaaSt8
import Derived.Test.YtgdhiihfcngjbaaMore
set_option linter.unusedSimpArgs false
set_option linter.unusedVariables false
namespace Go.Proofs.Ytgdhiihfcngjbaa
open Go.RowKit
set_option maxRecDepth 100000

/-- An owned row's block, all of it turned. -/
theorem Own.open_s {w : World} {t : TypeId} {sz n c : Nat} {A : Option Addr} {xs : List Value} (h : Own w t sz A n c xs) (hn : 0 < n) : ∃ g cur, A = some ⟨g, 0, none⟩ ∧ Blk w g t cur ∧ n * sz ≤ cur.size ∧ cur.toList.take (n * sz) = xs ∧
    ∀ w' cur', Blk w' g t cur' → cur'.size = cur.size → Own w' t sz A n c (cur'.toList.take (n * sz)) := by
  rcases h.2 with ⟨_, h0, _⟩ | ⟨g, cur, rfl, hg, hnc, hcm, hcs, htake⟩
  · omega
  · have hle : n * sz ≤ cur.size := Nat.le_trans (Nat.mul_le_mul_right _ hnc) hcs
    refine ⟨g, cur, rfl, hg, hle, htake, fun w' cur' hb hs => ⟨?_, .inr ⟨g, cur', rfl, hb, hnc, hcm, by omega, rfl⟩⟩⟩
    rw [List.length_take, Array.length_toList, hs]
    omega
theorem window {xs L : List Value} {a m : Nat} (h : (xs.drop a).take m = L) (i : Nat) (hi : i < m) : xs[a + i]? = L[i]? := by
  rw [← h, List.getElem?_take, if_pos hi, List.getElem?_drop]
theorem of_window {xs L : List Value} {a m : Nat} (hL : L.length = m) (h : ∀ i, i < m → xs[a + i]? = L[i]?) : (xs.drop a).take m = L := by
  apply List.ext_getElem?
  intro i
  rw [List.getElem?_take]
  by_cases hi : i < m
  · rw [if_pos hi, List.getElem?_drop, h i hi]
  · rw [if_neg hi, List.getElem?_eq_none (by omega)]
def ids (o : OpD) (c s : Nat) : OpD := ⟨c, s, 0, o.g, o.m, o.l⟩
theorem OpOk.ids {o : OpD} (h : OpOk o) {c s : Nat} (hc : c < 10) (hs : s ≤ 1000) : OpOk (ids o c s) := ⟨h.all, h.len, h.g, h.m, hc, hs, rfl⟩
/-- A row of calls beside a block that may turn. -/
structure OpsQ (w : World) (b y : Nat) (A : Option Addr) (c : Nat) (os : List OpD) (xs : List Value) (css : Nat → Array Value) : Prop where
  ho : Own w 62 6 A os.length c xs
  hA : ∀ g, bOf A = some g → b ≤ g
  hy : ∀ g, bOf A = some g → g ≠ y
  hx : ∀ j x, os[j]? = some x → OpHeld w (fun g => g < b ∨ some g = bOf A ∨ g = y) x (css j)
  hxs : ∀ j x, os[j]? = some x → (xs.drop (j * 6)).take 6 = (css j).toList
theorem OpsP.toQ {w w' : World} {b y : Nat} {A : Option Addr} {c : Nat} {os : List OpD} {xs : List Value} {css : Nat → Array Value} (h : OpsP w b A c os xs css) (hb : Below w.heap.size w w') (hy : w.heap.size = y) : OpsQ w' b y A c os xs css :=
  ⟨h.ho.below hb (Nat.le_refl _), h.hA, fun g hg => by have := h.ho.lt hg; omega, fun j x hj => (h.hx j x hj).next (T := fun _ => False) (Upd.of_below_size hb) (fun _ _ hf => hf.elim) (fun g hg hp => hp.elim .inl (fun hp => hp.elim .inr (fun e => by omega))), h.hxs⟩
theorem OpsQ.toP {w : World} {b y : Nat} {A : Option Addr} {c : Nat} {os : List OpD} {xs : List Value} {css : Nat → Array Value} (h : OpsQ w b y A c os xs css) : OpsP w b A c os xs css :=
  ⟨h.ho, h.hA, fun j x hj => (h.hx j x hj).next (T := fun _ => False) (Upd.refl _ w) (fun _ _ hf => hf.elim) (fun g hg hp => hp.elim .inl (fun hp => .inr (.inl hp))), h.hxs⟩
theorem OpsQ.turn {w w' : World} {b y : Nat} {A : Option Addr} {c : Nat} {os : List OpD} {xs : List Value} {css : Nat → Array Value} (h : OpsQ w b y A c os xs css) (hu : Upd (fun g => g = y) w w') : OpsQ w' b y A c os xs css :=
  ⟨h.ho.upd hu (fun g hg e => h.hy g hg e), h.hA, h.hy, fun j x hj => (h.hx j x hj).next hu (fun g _ e => .inr (.inr e)) (fun _ _ hp => hp), h.hxs⟩
structure OpRelQ (w wr : World) (y : Nat) (os : List OpD) (m : Nat) (A : Option Addr) (c : Nat) (xs : List Value) (css : Nat → Array Value) : Prop where
  P : OpsQ wr w.heap.size y A c os xs css
  hj : os.length = m
  ok : ∀ o ∈ os, OpOk o
  hb : Below w.heap.size w wr
/-- A call of the row gets its id. -/
theorem OpsQ.setId {w : World} {b y g j c1 s1 : Nat} {cur : Array Value} {o : OpD} {c : Nat} {os : List OpD} {xs : List Value} {css : Nat → Array Value} (h : OpsQ w b y (some ⟨g, 0, none⟩) c os xs css) (hcur : Blk w g 62 cur) (hj : os[j]? = some o) (hc : c1 < 4294967296) (hs : s1 < 4294967296) :
    ∃ xs' css', OpsQ (((w.setCell ⟨g, j * 6, none⟩ (.int .u32 (c1 : Int))).setCell ⟨g, j * 6 + 1, none⟩ (.int .u32 (s1 : Int))).setCell ⟨g, j * 6 + 2, none⟩ (.int .u16 0)) b y (some ⟨g, 0, none⟩) c (os.set j (ids o c1 s1)) xs' css' := by
  have hjl : j < os.length := by
    rcases Nat.lt_or_ge j os.length with h' | h'
    · exact h'
    · rw [List.getElem?_eq_none h'] at hj; cases hj
  obtain ⟨g', cur', e, hb', hle, htk, hnew⟩ := h.ho.open_s (by omega)
  cases e
  obtain rfl : cur' = cur := by
    have h1 : w.heap[g]? = some (.cells cur' 62 (0, 0)) := hb'
    have h2 : w.heap[g]? = some (.cells cur 62 (0, 0)) := hcur
    rw [h1] at h2
    injection h2 with h2
    injection h2
  obtain ⟨W3, hW3⟩ : ∃ W3, ((w.setCell ⟨g, j * 6, none⟩ (.int .u32 (c1 : Int))).setCell ⟨g, j * 6 + 1, none⟩ (.int .u32 (s1 : Int))).setCell ⟨g, j * 6 + 2, none⟩ (.int .u16 0) = W3 := ⟨_, rfl⟩
  have hU : Upd (fun x => some x = bOf (some (⟨g, 0, none⟩ : Addr))) w W3 := by
    rw [← hW3]
    exact (((Upd.refl (fun x => some x = bOf (some (⟨g, 0, none⟩ : Addr))) w).setCell (p := ⟨g, j * 6, none⟩) (fun _ => rfl) _).setCell (p := ⟨g, j * 6 + 1, none⟩) (fun _ => rfl) _).setCell (p := ⟨g, j * 6 + 2, none⟩) (fun _ => rfl) _
  have hblk : Blk W3 g 62 (((cur'.setIfInBounds (j * 6) (.int .u32 (c1 : Int))).setIfInBounds (j * 6 + 1) (.int .u32 (s1 : Int))).setIfInBounds (j * 6 + 2) (.int .u16 0)) := by
    rw [← hW3]
    exact ((hcur.set_ _ _).set_ _ _).set_ _ _
  rw [hW3]
  have hown := hnew W3 _ hblk (by simp)
  have hjs : j * 6 + 6 ≤ os.length * 6 := by omega
  generalize hxs' : (((cur'.setIfInBounds (j * 6) (.int .u32 (c1 : Int))).setIfInBounds (j * 6 + 1) (.int .u32 (s1 : Int))).setIfInBounds (j * 6 + 2) (.int .u16 0)).toList.take (os.length * 6) = xs' at hown
  have hxl : xs.length = os.length * 6 := h.ho.len
  have hget : ∀ k, k < os.length * 6 → xs'[k]? = if k = j * 6 + 2 then some (.int .u16 0) else if k = j * 6 + 1 then some (.int .u32 (s1 : Int)) else if k = j * 6 then some (.int .u32 (c1 : Int)) else xs[k]? := by
    intro k hk
    rw [← hxs', ← htk, List.getElem?_take, if_pos hk, List.getElem?_take, if_pos hk]
    simp only [Array.toList_setIfInBounds, List.getElem?_set, List.length_set, Array.length_toList]
    by_cases e2 : j * 6 + 2 = k
    · rw [if_pos e2, if_pos (by omega), if_pos (show k = j * 6 + 2 from e2.symm)]
    rw [if_neg e2, if_neg (show ¬ k = j * 6 + 2 from fun e => e2 e.symm)]
    by_cases e1 : j * 6 + 1 = k
    · rw [if_pos e1, if_pos (by omega), if_pos (show k = j * 6 + 1 from e1.symm)]
    rw [if_neg e1, if_neg (show ¬ k = j * 6 + 1 from fun e => e1 e.symm)]
    by_cases e0 : j * 6 = k
    · rw [if_pos e0, if_pos (by omega), if_pos (show k = j * 6 from e0.symm)]
    rw [if_neg e0, if_neg (show ¬ k = j * 6 from fun e => e0 e.symm)]
  have hoj := h.hx j o hj
  obtain ⟨A1, cc1, ys, cs1, hcs, -⟩ := hoj.reads
  have hxj := h.hxs j o hj
  rw [hcs] at hxj hoj
  obtain ⟨oc, os_, on, og, om, ol⟩ := o
  dsimp only at hxj hoj
  refine ⟨xs', fun k => if k = j then #[.int .u32 (c1 : Int), .int .u32 (s1 : Int), .int .u16 ((0 : Nat) : Int), .string (bstr og), .string (bstr om), .slice A1 ol.length cc1] else css k, by rw [List.length_set]; exact hown, h.hA, h.hy, fun k x hk => ?_, fun k x hk => ?_⟩
  · rw [List.getElem?_set] at hk
    by_cases hkj : j = k
    · subst hkj
      rw [if_pos rfl, if_pos hjl] at hk
      cases hk
      rw [if_pos rfl]
      exact (hoj.id hc hs (by decide)).next hU (fun g' _ e => .inr (.inl e)) (fun g' _ hp => hp)
    · rw [if_neg hkj] at hk
      rw [if_neg (fun e => hkj e.symm)]
      exact (h.hx k x hk).next hU (fun g' _ e => .inr (.inl e)) (fun g' _ hp => hp)
  · rw [List.getElem?_set] at hk
    by_cases hkj : j = k
    · subst hkj
      rw [if_pos rfl]
      refine of_window rfl (fun i hi => ?_)
      rw [hget _ (by omega)]
      have hw := fun i hi => window hxj i hi
      rcases i with _ | _ | _ | _ | _ | _ | i
      · rw [if_neg (by omega), if_neg (by omega), if_pos (by omega)]; rfl
      · rw [if_neg (by omega), if_pos (by omega)]; rfl
      · rw [if_pos (by omega)]; rfl
      · rw [if_neg (by omega), if_neg (by omega), if_neg (by omega)]; exact hw 3 (by omega)
      · rw [if_neg (by omega), if_neg (by omega), if_neg (by omega)]; exact hw 4 (by omega)
      · rw [if_neg (by omega), if_neg (by omega), if_neg (by omega)]; exact hw 5 (by omega)
      · omega
    · rw [if_neg hkj] at hk
      rw [if_neg (fun e => hkj e.symm)]
      have hkl : k < os.length := by
        rcases Nat.lt_or_ge k os.length with h' | h'
        · exact h'
        · rw [List.getElem?_eq_none h'] at hk; cases hk
      have hlen : (css k).toList.length = 6 := by
        rw [← h.hxs k x hk, List.length_take, List.length_drop, hxl]
        omega
      refine of_window hlen (fun i hi => ?_)
      rw [hget _ (by omega), if_neg (by omega), if_neg (by omega), if_neg (by omega)]
      exact window (h.hxs k x hk) i hi

/-- A request's cells. -/
structure RqD where
  G : Int
  M : Int
  K : Int
  N : Int
  F : Nat
def RqIs (q : RqD) (cs : Array Value) : Prop := cs = #[.int .u8 q.G, .int .u8 q.M, .int .u8 q.K, .int .i16 q.N, .float .f64 q.F] ∧ 0 ≤ q.G ∧ q.G ≤ 255 ∧ 0 ≤ q.M ∧ q.M ≤ 255 ∧ 0 ≤ q.K ∧ q.K ≤ 255 ∧ -32768 ≤ q.N ∧ q.N ≤ 32767 ∧ q.F < 18446744073709551616
/-- A row of requests that the machine reads. -/
structure RowRq (w : World) (B : Nat) (A : Option Addr) (l : List RqD) (xs : List Value) (css : Nat → Array Value) : Prop where
  r : Reads w B 5 A l.length xs
  hx : ∀ j q, l[j]? = some q → RqIs q (css j)
  hxs : ∀ j, j < l.length → (xs.drop (j * 5)).take 5 = (css j).toList
theorem RowRq.below {w w' : World} {B : Nat} {A : Option Addr} {l : List RqD} {xs : List Value} {css : Nat → Array Value} (h : RowRq w B A l xs css) (hb : Below B w w') : RowRq w' B A l xs css := ⟨h.r.below hb, h.hx, h.hxs⟩
theorem RowRq.cells {w : World} {B : Nat} {A : Option Addr} {l : List RqD} {xs : List Value} {css : Nat → Array Value} (h : RowRq w B A l xs css) {j : Nat} (hj : j < l.length) :
    ∃ ad q, A = some ad ∧ l[j]? = some q ∧ RqIs q (css j) ∧ ∀ W, Below B w W → W.cell? (ad.add (j * 5)) = some (.int .u8 q.G) ∧ W.cell? ⟨(ad.add (j * 5)).block, (ad.add (j * 5)).off + 1, none⟩ = some (.int .u8 q.M) ∧ W.cell? ⟨(ad.add (j * 5)).block, (ad.add (j * 5)).off + 2, none⟩ = some (.int .u8 q.K) ∧ W.cell? ⟨(ad.add (j * 5)).block, (ad.add (j * 5)).off + 3, none⟩ = some (.int .i16 q.N) ∧ W.cell? ⟨(ad.add (j * 5)).block, (ad.add (j * 5)).off + 4, none⟩ = some (.float .f64 q.F) := by
  have hq : l[j]? = some l[j] := List.getElem?_eq_getElem hj
  obtain ⟨ad, rfl, -, -⟩ := h.r.2 (by omega)
  have hx := h.hx j _ hq
  have hxs := h.hxs j hj
  rw [hx.1] at hxs
  exact ⟨ad, l[j], rfl, hq, hx, fun W hW => elem_cells (h.r.below hW) hj hxs⟩

/-- A call of the seat, pushed. -/
theorem OpS.held {w w' : World} {gg mm : ByteArray} {l : List Val} {A : Option Addr} {c : Nat} (hgg : gg.size ≤ 8) (hmm : mm.size ≤ 8) (R : ∃ xs css, VRow w' w.heap.size l A c xs css) (hall : ∀ v ∈ l, SeatV 2 1102 v) (hl : l.length ≤ 6) :
    OpHeld w' (fun g => g < w.heap.size) ⟨0, 0, 0, gg.data.toList, mm.data.toList, l⟩ #[.int .u32 ((0 : Nat) : Int), .int .u32 ((0 : Nat) : Int), .int .u16 ((0 : Nat) : Int), .string gg, .string mm, .slice A l.length c] ∧ OpOk ⟨0, 0, 0, gg.data.toList, mm.data.toList, l⟩ := by
  obtain ⟨xs, css, R⟩ := R
  have H := held_of_row (w := w) (o := ⟨0, 0, 0, gg.data.toList, mm.data.toList, l⟩) (L := l.length) R rfl (by omega) (fun v hv => (hall v hv).ok) (by show 0 < _; decide) (by show 0 < _; decide) (by show 0 < _; decide)
  dsimp only at H
  rw [bstr_data, bstr_data] at H
  exact ⟨H, hall, hl, by rw [Array.length_toList]; exact hgg, by rw [Array.length_toList]; exact hmm, by show 0 < 10; decide, by show 0 ≤ 1000; decide, rfl⟩

end Go.Proofs.Ytgdhiihfcngjbaa
